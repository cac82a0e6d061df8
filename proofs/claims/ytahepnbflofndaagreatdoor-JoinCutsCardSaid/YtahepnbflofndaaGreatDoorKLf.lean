/- front -/
import Derived.Test.YtahepnbflofndaaGreatDoorKLe
set_option linter.all false
namespace Go.Proofs.YtahepnbflofndaaGreatDoor
open Go.Am
abbrev It:=Int×Int×Int
def eB (x:Int):List It→Nat→Int×Int×Int→Int×Int×Int
 | [],_,s=>s
 | it::r,i,s=>eB x r (i+1) (if it.2.2=x then (if s.1=-1 then ((i:Nat):Int) else s.1,((i+1:Nat):Int),s.2.2+1) else s)
def dI (x:Int) (row:List It):Int×Int×Int:=eB x row 0 (-1,0,0)
theorem yA (x:Int):∀ (row:List It) (i:Nat) (s:Int×Int×Int),(s.1=-1∧s.2.1=0∧s.2.2=0∨0≤s.1∧s.1<s.2.1∧s.2.1≤i∧0<s.2.2∧s.2.2≤i) →
 ((eB x row i s).1=-1∧(eB x row i s).2.1=0∧(eB x row i s).2.2=0∨0≤(eB x row i s).1∧(eB x row i s).1<(eB x row i s).2.1∧(eB x row i s).2.1≤((i+row.length:Nat):Int)∧0<(eB x row i s).2.2∧(eB x row i s).2.2≤((i+row.length:Nat):Int))
 | [],i,s,h=>by
   rcases h with h|h
   ·exact .inl h
   ·exact .inr (by simpa [eB] using h)
 | it::r,i,s,h=>by
   unfold eB;have:=yA x r (i+1) (if it.2.2=x then (if s.1=-1 then ((i:Nat):Int) else s.1,((i+1:Nat):Int),s.2.2+1) else s) (by
    split
    ·right;simp only;split<;>omega
    ·rcases h with h|h
     ·exact .inl h
     ·exact .inr om)
   rw[show i+1+r.length=i+(it::r).length by simp only[bf]; omega] at this;exact this
theorem pM (x:Int) (row:List It):((dI x row).1=-1∧(dI x row).2.1=0∧(dI x row).2.2=0)∨(0≤(dI x row).1∧(dI x row).1<(dI x row).2.1∧(dI x row).2.1≤(row.length:Nat)∧0<(dI x row).2.2∧(dI x row).2.2≤(row.length:Nat)):=by
 have:=yA x row 0 (-1,0,0) (.inl ⟨rfl,rfl,rfl⟩);rw[bM] at this;exact this
theorem Ce {h:AH}{b:Nat}{iv:AV}{rest:List AV}{row:List It}{x:Int} (hb:h.get b=some (.cells (iv::rest) 3 false)) (hv:SlT h iv row) (hl:row.length<2 ^ 30) :
 C prg 154 [.ptr b 0,.int .i64 x] h λr h'=>r=.tup [.int .i64 (dI x row).1,.int .i64 (dI x row).2.1,.int .i64 (dI x row).2.2]∧Ext h.next h h':=by
 refine Mw pf154 ?_;have r1:ak h b 0 1=some [iv]:=bm hb rfl;have el:=hv.len;rw[ai] at el;refine ae (aj (Mi0) ?_);refine ae (aj (Mi0) ?_);refine ae (ae (aj (Mi2 r1 el) ?_))
 refine fA (α:=Int×Int×Int) (N:=row.length) (λ_ a=>[(1,.int .i64 x),(12,iv),(4,.int .i64 a.1),(5,.int .i64 a.2.1),(6,.int .i64 a.2.2)])
  (λk a h'=>eB x (row.drop k) k a=dI x row∧-1≤a.1∧a.1≤k∧0≤a.2.2∧a.2.2≤k∧Ext h.next h h') (-1,0,0) (λ_ _=>rfl) om (Oi0) ⟨rfl,by decide,by decide,by decide,by decide,Mu⟩ ?_ ?_
 ·rintro k ⟨f,t,c⟩ ts h1 hk ⟨j1,j2,j3,j4,j5,jx⟩ ⟨ei,en,e1,e12,e4,e5,e6,-⟩;simp only at ei en e1 e12 e4 e5 e6 j1 j2 j3 j4 j5;obtain⟨b1,p1,a1,r4,_⟩:=(hv.ext jx (ab _)).at (cq (f:=eT) hk);obtain⟨h6,w6,x6,g6,n6⟩:=im (h:=h1) (z:=[.int .i64 0,.int .i64 0,.int .i64 0]) (cs:=[.int .i64 row[k].1,.int .i64 row[k].2.1,.int .i64 row[k].2.2]) (e:=3) rfl;refine ae (aj (by simp only[am,aK,simprocAttr,e12,ei,a1,r4,eT,w6]<;>rfl) ?_);have r6:ak h6 h1.next 2 1=some [.int .i64 row[k].2.2]:=bm g6 rfl;have X6:=jx.trans (x6.mono jx.nx);rw[bX hk] at j1;unfold eB at j1;refine ae (ae (aj (M2 e1 r6) ?_));refine cr (t:=!decide (row[k].2.2=x)) (Z0) (λq=>?_) λq=>?_
  ·have q:¬ row[k].2.2=x:=by simpa using q
   rw[if_neg q] at j1;refine fB ⟨λ_=>⟨(f,t,c),⟨j1,j2,by simp only; omega,j4,by simp only; omega,X6⟩,O7 ei en e1 e12 e4 e5 e6⟩,λe=>absurd rfl e⟩
  ·have q:row[k].2.2=x:=by simpa using q
   rw[if_pos q] at j1;refine bu ?_;have w1:IntKind.i64.wrap (((k:Nat):Int)+1)=((k+1:Nat):Int):=fD om om;have w2:IntKind.i64.wrap (c+1)=c+1:=fD om om;refine ae (ae (aj (M1 e4) ?_));refine cr (t:=decide (f=-1)) (Z0) (λq2=>?_) λq2=>?_
   ·have q2:f=-1:=aR q2;rw[if_pos q2] at j1;refine aj (M0) ?_;refine ae (aj (M1 w1) ?_);refine aj (M2 e6 w2) ?_;exact⟨(((k:Nat):Int),((k+1:Nat):Int),c+1),⟨j1,by simp only; omega,by simp only; omega,by simp only; omega,by simp only; omega,X6⟩,O4 ei en e1 e12⟩
   ·have q2:¬ f=-1:=aZ q2;rw[if_neg q2] at j1;refine bu ?_;refine ae (aj (M1 w1) ?_);refine aj (M2 e6 w2) ?_;exact⟨(f,((k+1:Nat):Int),c+1),⟨j1,by simp only; omega,by simp only; omega,by simp only; omega,by simp only; omega,X6⟩,O5 ei en e1 e12 e4⟩
 ·rintro⟨f,t,c⟩ ts h1 ⟨j1,j2,j3,j4,j5,jx⟩ ⟨e1,e12,e4,e5,e6,-⟩;simp only at e1 e12 e4 e5 e6 j1;rw[mU] at j1;have j1:(f,t,c)=dI x row:=j1;rw[← j1];refine ae (aj (M3 e4 e5 e6) ?_);exact br ⟨_,(by simp only[rs,rf154,am,aK,simprocAttr]<;>rfl),rfl,jx⟩
theorem Ik {h:AH}{s:Nat}{x:Int}{it:It} (hs:ak h s 0 1=some [.int .i64 x]) (hsn:s<h.next):C prg 220 ([.agg (eT it)]++[.ptr s 0]) h λr h'=>r=.bool (decide (it.2.2≠x∧it.2.2≠-1))∧Ext h.next h h':=by
 refine Mw pf220 ?_;refine ae (aj (by simp only[am,aK,simprocAttr,bS,eT]<;>rfl) ?_);have ex:Ext h.next h (h.new (.cells [.int .i64 it.1,.int .i64 it.2.1,.int .i64 it.2.2] 3 false)):=Mt (ab _);have g:(h.new (.cells [.int .i64 it.1,.int .i64 it.2.1,.int .i64 it.2.2] 3 false)).get h.next=some (.cells [.int .i64 it.1,.int .i64 it.2.1,.int .i64 it.2.2] 3 false):=by rw[AH.get_new,if_pos rfl]
 generalize h.new (.cells [.int .i64 it.1,.int .i64 it.2.1,.int .i64 it.2.2] 3 false)=h1 at *
 have r1:ak h1 h.next 2 1=some [.int .i64 it.2.2]:=bm g rfl;have r2:ak h1 s 0 1=some [.int .i64 x]:=by rw[← hs]; exact bK (ex.gt _ hsn)
 by_cases q1:it.2.2=x
 ·have c1:decide (it.2.2=x)=true:=aH q1;refine ae (aj (Mi3 r1 r2 c1) ?_);exact br ⟨.bool false,(by simp only[rs,rf220,am,aK,simprocAttr]<;>rfl),by simp [q1],ex⟩
 ·have c1:decide (it.2.2=x)=false:=aw q1;refine ae (aj (Mi3 r1 r2 c1) ?_);refine br ⟨.bool (!decide (it.2.2=-1)),(by simp only[rs,rf220,am,aK,simprocAttr]<;>rfl),by simp [q1],ex⟩
def wG (x:Int) (row:List It):Bool:=!row.any λit=>decide (it.2.2≠x∧it.2.2≠-1)
theorem Ii {h:AH}{b:Nat}{iv:AV}{rest:List AV}{row:List It}{x:Int}{lo hi:Nat} (hb:h.get b=some (.cells (iv::rest) 3 false)) (hv:SlT h iv row) (hl:row.length<2 ^ 30) (hlo:lo≤hi) (hhi:hi≤row.length) :
 C prg 198 [.ptr b 0,.int .i64 x,.int .i64 (lo:Nat),.int .i64 (hi:Nat)] h λr h'=>r=.bool (wG x ((row.drop lo).take (hi-lo)))∧Ext h.next h h':=by
 refine Mw pf198 ?_;refine ae (aj (Mi0) ?_);have ex:Ext h.next h (h.new (.cells [.int .i64 x] 1 false)):=Mt (ab _);have g:(h.new (.cells [.int .i64 x] 1 false)).get h.next=some (.cells [.int .i64 x] 1 false):=by rw[AH.get_new,if_pos rfl]
 have n1:(h.new (.cells [.int .i64 x] 1 false)).next=h.next+1:=rfl;generalize h.new (.cells [.int .i64 x] 1 false)=h1 at *
 have r1:ak h1 b 0 1=some [iv]:=bm (by rw[ex.gt _ (AH.lt_of_get hb)]; exact hb) rfl;obtain⟨v',s1,s2,_⟩:=(hv.ext ex (ab _)).part hlo (by rw[ai]; exact hhi);rw[← fT,← fS] at s2;refine ae (bN (bo 8 (by simp only[am,aK,simprocAttr,bS,r1,dH,bT,s1]<;>rfl) rfl (by simp only[am,aK,simprocAttr,bS,r1,dH,bT,s1]) (by simp only[am,aK,simprocAttr,bS,r1,dH,bT,s1]<;>rfl) (EE (P:=λit=>decide (it.2.2≠x∧it.2.2≠-1)) s2 (by rw[aS,cz]; omega) (λit _ h' hx=>Ik (by rw[bK (hx.gt _ om)]; exact bm g rfl) (by have:=hx.nx; omega))) λr h3 hq=>?_));obtain⟨rfl,x3⟩:=hq;refine bH (M0) ?_;exact br ⟨_,(by simp only[rs,rf198,am,aK,simprocAttr]<;>rfl),rfl,ex.trans (x3.mono ex.nx)⟩
open Go.Am
def IsFront (h:AH) (fb pb n:Nat) (es:List (Int×Int)) (row:List It) (pl:List Int):Prop :=
 ∃ (iv vp pv:AV) (hV:AH),h.get fb=some (.cells [iv,vp,pv] 3 false)∧SlT h iv row∧(∀ b o n c,iv=.sl b o n c→b≠fb∧b≠pb)∧IsView hV vp n es∧Ext hV.next hV h∧hV.next≤fb∧hV.next≤pb∧pb<h.next ∧
   ((pv=.nils∧pl=[]∧pb=fb)∨∃ m,pv=.sl pb 0 m m∧h.get pb=some (.cells (pl.flatMap eI) 1 false)∧m=pl.length∧pb≠fb)
theorem IsView.at {hV h:AH}{vp:AV}{n:Nat}{es:List (Int×Int)} (hv:IsView hV vp n es) (hx:Ext hV.next hV h):IsView h vp n es:=hv.ext hx
theorem IsFront.ext {h h':AH}{fb pb n:Nat}{es:List (Int×Int)}{row:List It}{pl:List Int} (hf:IsFront h fb pb n es row pl) (hx:Ext h.next h h'):IsFront h' fb pb n es row pl:=by
 obtain⟨iv,vp,pv,hV,g,si,so,vv,vx,v1,v2,v3,pp⟩:=hf;refine⟨iv,vp,pv,hV,by rw[hx.gt _ (AH.lt_of_get g)]; exact g,si.ext hx (ab _),so,vv,vx.trans (hx.mono vx.nx),v1,v2,dl v3 hx.nx,?_⟩;rcases pp with pp|⟨m,p1,p2,p3⟩
 ·exact .inl pp
 ·exact .inr ⟨m,p1,by rw[hx.gt _ v3]; exact p2,p3⟩
theorem DM {h:AH}{pv:AV}{fb pb:Nat}{pl:List Int} (pp:(pv=.nils∧pl=[]∧pb=fb)∨∃ m,pv=.sl pb 0 m m∧h.get pb=some (.cells (pl.flatMap eI) 1 false)∧m=pl.length∧pb≠fb):SlI h pv pl:=by
 rcases pp with ⟨rfl,rfl,_⟩|⟨m,rfl,p2,rfl,_⟩
 ·exact .inl ⟨rfl,.inl rfl⟩
 ·exact Mq (lo:=0) om (λ_=>rfl) (.inr ⟨pb,_,om,rfl,p2,by rw[dS,aO]⟩)
theorem IR {h:AH}{fb lo hi:Nat}{iv vp pv w:AV}{row items:List It} (hg:h.get fb=some (.cells [iv,vp,pv] 3 false)) (hv:SlT h iv row) (hw:SlT h w items) (hlo:lo≤hi) (hhi:hi≤row.length) (hl:row.length<2 ^ 30) (hl2:items.length<2 ^ 30) :
 C prg 155 [.ptr fb 0,.int .i64 (lo:Nat),.int .i64 (hi:Nat),w] h λr h'=>IsSl h' 3 h.next r (((row.drop lo).take (hi-lo)).flatMap eT)∧∃ iv',h'.get fb=some (.cells [iv',vp,pv] 3 false)∧IsSl h' 3 h.next iv' ((row.take lo++items++row.drop hi).flatMap eT)∧Kp (·=fb) h h':=by
 refine Mw pf155 ?_;refine ae (aj (Mi0) ?_);have r1:ak h fb 0 1=some [iv]:=bm hg rfl;obtain⟨v1,s1,t1,_⟩:=hv.part hlo (by rw[ai]; exact hhi);rw[← fT,← fS] at t1;refine ae (bN (bo 7 (by simp only[am,aK,simprocAttr,bS,r1,dH,bT,s1]<;>rfl) rfl (by simp only[am,aK,simprocAttr,bS,r1,dH,bT,s1]) (by simp only[am,aK,simprocAttr,bS,r1,dH,bT,s1]<;>rfl) (wq t1 (by rw[aS,cz]; omega)) λg h1 hq=>?_));obtain⟨ig,x1,_⟩:=hq;refine bH (M0) ?_;have n1:=x1.nx;have hfb:=AH.lt_of_get hg;have kg:∀ c,c<h1.next→(h1.keep 1).get c=h1.get c:=λc hc=>by rw[AH.keep_get,if_neg om]
 have q7:(h1.keep 1).get h1.next=some .resv:=fG;have g1:h1.get fb=some (.cells [iv,vp,pv] 3 false):=by rw[x1.gt _ hfb]; exact hg
 have r2:ak (h1.keep 1) fb 0 1=some [iv]:=bm (by rw[kg _ om]; exact g1) rfl;have hv1:=hv.ext x1 (ab _);have hvk:SlT (h1.keep 1) iv row:=hv1.cong λb o n c e=>kg _ (hv1.lt e);obtain⟨v2,f2,t2,t2b,_⟩:=hvk.upto (hi:=lo) (by rw[ai]; omega);obtain⟨v3,f3,t3,t3b,_⟩:=hvk.from (lo:=hi) (by rw[ai]; omega);rw[← fS] at t2;rw[← fT] at t3;have hw1:=hw.ext x1 (ab _);obtain⟨p1,p2,p3,p4⟩:=gr (h:=h1) (o:=.cells [v2,w,v3] 1 false);have kgp:∀ c,c<h1.next→((h1.keep 1).put h1.next (.cells [v2,w,v3] 1 false)).get c=(h1.keep 1).get c:=λc hc=>by rw[p4 c hc,kg c hc]
 have ivb:InB (λb=>b<h1.next) iv:=by
  rcases hv1 with ⟨_,rfl|rfl⟩|⟨b,o,c,cs,ro,rfl,hgg,_⟩
  ·trivial
  ·trivial
  ·exact AH.lt_of_get hgg
 have t2':SlT ((h1.keep 1).put h1.next (.cells [v2,w,v3] 1 false)) v2 (row.take lo):=t2.cong λb o n c e=>kgp _ (by have:=t2b _ ivb; rw[e] at this; exact this);have t3':SlT ((h1.keep 1).put h1.next (.cells [v2,w,v3] 1 false)) v3 (row.drop hi):=t3.cong λb o n c e=>kgp _ (by have:=t3b _ ivb; rw[e] at this; exact this);have hw':SlT ((h1.keep 1).put h1.next (.cells [v2,w,v3] 1 false)) w items:=hw1.cong λb o n c e=>p4 _ (hw1.lt e);have hcat:=Bu (h:=(h1.keep 1).put h1.next (.cells [v2,w,v3] 1 false)) (v:=.sl h1.next 0 3 3) (vs:=[v2,w,v3]) (xss:=[row.take lo,items,row.drop hi]) (Ms p2 rfl (ab _)) rfl (λi w' xs hw'' hx=>by
  match i with
  | 0 =>
    simp only[ce,aa] at hw'' hx;subst hw'' hx;exact t2'
  | 1 =>
    simp only[dy,ce,aa] at hw'' hx;subst hw'' hx;exact hw'
  | 2 =>
    simp only[dy,ce,aa] at hw'' hx;subst hw'' hx;exact t3'
  | i+3=>simp at hw'') (by simp) (by simp only[gR,eK,bO,aN,cz,aS]; omega)
 refine ae (pD (bo 15 (by simp only[am,aK,simprocAttr,bS,r2,dH,bT,f2,f3,eN,et q7,t2.cells.1,t3.cells.1,hw.cells.1]<;>rfl) rfl (by simp only[am,aK,simprocAttr,bS,r2,dH,bT,f2,f3,eN,et q7,t2.cells.1,t3.cells.1,hw.cells.1]) (by simp only[am,aK,simprocAttr,bS,r2,dH,bT,f2,f3,eN,et q7,t2.cells.1,t3.cells.1,hw.cells.1]<;>rfl) (hcat) λr h8 hq=>?_));obtain⟨i8,x8⟩:=hq;have n8:=x8.nx;rw[p3] at n8;have g8:h8.get fb=some (.cells [iv,vp,pv] 3 false):=by rw[x8.gt _ om,p4 _ om]; exact g1
 have w8:bQ h8 fb 0 [r]=some (h8.put fb (.cells [r,vp,pv] 3 false)):=by rw[dp g8]; rfl
 obtain⟨rc,ro⟩:=i8.cells;refine bH (M3 rc ro w8) ?_;have u9:=Mv (o:=.cells [r,vp,pv] 3 false) g8;generalize h8.put fb (.cells [r,vp,pv] 3 false)=h9 at *
 refine ae (aj (M0) ?_);have e8:[row.take lo,items,row.drop hi].flatten=row.take lo++items++row.drop hi:=by simp
 rw[e8,p3] at i8;refine br ⟨g,(by simp only[rs,rf155,am,aK,simprocAttr]<;>rfl),?_,r,u9.get,(i8.upd u9 om).mono om,?_⟩
 ·exact (((ig.ext p1 (ab _)).ext x8 om).cong λb n e hb=>u9.ne om)
 ·exact (x1.kp (S:=(·=fb)) (ab _)).trans ((p1.kp (ab _)).trans ((x8.kp (ab _)).trans (u9.kp (S:=(·=fb)) rfl) (λ_ _ q=>q)) (λ_ _ q=>q)) (λ_ _ q=>q)
def eF (es:List (Int×Int)) (x:Int) (outs:List Int):List It:=if outs=[] then [(-1,x,-1)] else outs.map λi=>(i,x,((es[i.toNat]?).getD (0,0)).2)
theorem Ip {h:AH}{fb n:Nat}{iv vp pv ov:AV}{es:List (Int×Int)}{x:Int}{outs:List Int} (hg:h.get fb=some (.cells [iv,vp,pv] 3 false)) (hv:IsView h vp n es) (ho:SlI h ov outs) (hr:∀ i∈outs,0≤i∧i<es.length) (hl:outs.length<2 ^ 30) :
 C prg 156 [.ptr fb 0,.int .i64 x,ov] h λr h'=>IsSl h' 3 h.next r ((eF es x outs).flatMap eT)∧Ext h.next h h':=by
 obtain⟨b,ev,os,is,ob,ib,rfl,g1,g2,g3,g4,g5,g6,g7,g8,m1,m2,m3,m4⟩:=hv;have lo:=ho.len;rw[ai] at lo;refine Mw pf156 ?_;refine ae (aj (Mi0) ?_);refine ae (ae (aj (Mi1 lo) ?_));by_cases q:outs=[]
 ·subst q;refine db (by simp only[am,aK,simprocAttr]; rfl) (ae (aj (Mi0) ?_));refine br ⟨.sl h.next 0 1 1,(by simp only[rs,rf156,am,aK,simprocAttr]<;>rfl),?_,Mt (ab _)⟩;exact .inr ⟨h.next,1,ab _,rfl,by rw[AH.get_new,if_pos rfl]; rfl,rfl⟩
 have ql:outs.length≠0:=λe=>q (bi.1 e);have c1:decide (((outs.length:Nat):Int)=0)=false:=aw om;refine dL (Z1 c1) (bu ?_);have hA:eF es x outs=outs.map λi=>(i,x,((es[i.toNat]?).getD (0,0)).2):=by unfold eF; rw[if_neg q]
 rw[hA];refine ae (ae (aj (Mi1 lo) ?_));refine fA (α:=AV) (N:=outs.length) (λ_ a=>[(0,.ptr fb 0),(1,.int .i64 x),(15,ov),(6,a)]) (λk a h'=>IsSl h' 3 h.next a (((outs.map λi=>(i,x,((es[i.toNat]?).getD (0,0)).2)).take k).flatMap eT)∧Ext h.next h h') .nils (λ_ _=>rfl) om (Oi0) ⟨.inl ⟨rfl,rfl⟩,Mu⟩ ?_ ?_
 ·rintro k a ts h1 hk ⟨j1,jx⟩ ⟨ei,en,e0,e1,e15,e6,-⟩;simp only at ei en e0 e1 e15 e6;obtain⟨b1,p1,a1,r4,_⟩:=(ho.ext jx (ab _)).at1 (cq (f:=eI) hk);obtain⟨hi1,hi2⟩:=hr _ (aP hk);obtain⟨i,hi⟩:∃ i:Nat,outs[k]=i:=⟨outs[k].toNat,om⟩
  rw[hi] at r4 hi2;have hil:i<es.length:=om;obtain⟨eb1,ep,a7,_,r7,_⟩:=(g2.ext jx (ab _)).at (cq (f:=eE) hil);have r7:=r7 1 (.int .i64 es[i].2) rfl;have rf1:ak h1 fb 1 1=some [.ptr b 0]:=bm (by rw[jx.gt _ (AH.lt_of_get hg)]; exact hg) rfl;have rv:ak h1 b 1 1=some [ev]:=bm (by rw[jx.gt _ (AH.lt_of_get g1)]; exact g1) rfl;have hlen:(((outs.map λi=>(i,x,((es[i.toNat]?).getD (0,0)).2)).take k).flatMap eT).length=k*3:=by
   rw[dC (f:=eT) (e:=3) (λ_=>rfl),aS,ai,cy om]
  obtain⟨s',h2,a2,i2,x2,n2⟩:=j1.push (bytes:=24) (eT (((i:Nat):Int),x,es[i].2)) jx.nx om rfl rfl (by rw[hlen,cN _ om]; unfold aW; omega) (by rw[hlen,cN _ om]; unfold aW; omega);rw[show eT (((i:Nat):Int),x,es[i].2)=[.int .i64 ((i:Nat):Int),.int .i64 x,.int .i64 es[i].2] from rfl] at a2 i2;refine ae (aj (M4 e15 ei a1 r4) ?_);refine aj (M8 e0 e1 e6 rf1 rv a7 r7 a2) ?_;refine⟨s',⟨?_,jx.trans x2⟩,O5 ei en e0 e1 e15⟩;have e1:(outs.map λi=>(i,x,((es[i.toNat]?).getD (0,0)).2)).take (k+1)=(outs.map λi=>(i,x,((es[i.toNat]?).getD (0,0)).2)).take k++[(((i:Nat):Int),x,es[i].2)]:=by
   rw[aG (by rw[ai]; exact hk),mT,hi,aY,aq hil,dh]
  rw[e1,bC];exact i2
 ·rintro a ts h1 ⟨j1,jx⟩ ⟨e0,e1,e15,e6,-⟩;simp only at e0 e1 e15 e6;rw[da (by rw[ai]; exact ab _)] at j1;refine ae (aj (M1 e6) ?_);exact br ⟨a,(by simp only[rs,rf156,am,aK,simprocAttr]<;>rfl),j1,jx⟩
def gu (n:Nat) (es:List (Int×Int)) (row:List It) (pl:List Int) (x:Int):Bool :=
 decide (0≤x∧x<n)&&!decide (x∈pl)&&(decide ((dI x row).2.2=((dg es x).length:Nat))&&(decide ((dg es x).length=0)||wG x ((row.drop (dI x row).1.toNat).take ((dI x row).2.1.toNat-(dI x row).1.toNat))))
theorem Gc {h:AH}{fb pb n:Nat}{es:List (Int×Int)}{row:List It}{pl:List Int}{x:Int} (hf:IsFront h fb pb n es row pl) (hl:row.length<2 ^ 30) (hl2:pl.length<2 ^ 30) :
 C prg 153 [.ptr fb 0,.int .i64 x] h λr h'=>r=.bool (gu n es row pl x)∧Ext h.next h h':=by
 obtain⟨iv,vp,pv,hV,g,si,so,vv,vx,v1,v2,v3,pp⟩:=hf;have hv:=vv.at vx;have hv0:=hv;obtain⟨b,ev,os,is,ob,ib,rfl,g1,g2,g3,g4,g5,g6,g7,g8,m1,m2,m3,m4⟩:=hv;have sp:=DM pp;refine Mw pf153 ?_;have rf1:ak h fb 1 1=some [.ptr b 0]:=bm g rfl;have rf2:ak h fb 2 1=some [pv]:=bm g rfl;have rn:ak h b 0 1=some [.int .i64 (n:Nat)]:=bm g1 rfl;refine ae (aj (Mi0) ?_);by_cases q1:x<0
 ·have c1:decide (x<0)=true:=aH q1;refine ae (ae (bN (eW 20 (Mi1 c1) rfl (Z0) ?_)));refine bH (M0) ?_;refine db (Z0) (ae (aj (M0) ?_));refine br ⟨.bool false,(by simp only[rs,rf153,am,aK,simprocAttr]<;>rfl),?_,Mu⟩;have:decide (0≤x∧x<(n:Int))=false:=aw om;simp only[gu,this,ee]
 have c1:decide (x<0)=false:=aw q1;by_cases q2:((n:Nat):Int)≤x
 ·have c2:decide (((n:Nat):Int)≤x)=true:=aH q2;refine ae (ae (bN (eW 20 (Mi4 c1 c2 rf1 rn) rfl (Z0) ?_)));refine bH (M0) ?_;refine db (Z0) (ae (aj (M0) ?_));refine br ⟨.bool false,(by simp only[rs,rf153,am,aK,simprocAttr]<;>rfl),?_,Mu⟩;have:decide (0≤x∧x<(n:Int))=false:=aw om;simp only[gu,this,ee]
 have c2:decide (((n:Nat):Int)≤x)=false:=aw q2;have c3:decide (0≤x∧x<(n:Int))=true:=aH om;refine ae (ae (bN (bo 20 (Mi5 c1 c2 rf1 rf2 rn) rfl (Zi5 c1 c2 rf1 rf2 rn) (Mi5 c1 c2 rf1 rf2 rn) (Aa (y:=x) sp om) λr h1 hq=>?_)));obtain⟨rfl,x1⟩:=hq;rw[qj];refine bH (M0) ?_;refine cr (t:=decide (x∈pl)) (Z0) (λq=>?_) λq=>?_
 ·refine ae (aj (M0) ?_);refine br ⟨.bool false,(by simp only[rs,rf153,am,aK,simprocAttr]<;>rfl),?_,x1⟩;simp only[gu,q,iO,js,ee]
 refine bu ?_;have hred:gu n es row pl x=(decide ((dI x row).2.2=((dg es x).length:Nat))&&(decide ((dg es x).length=0)||wG x ((row.drop (dI x row).1.toNat).take ((dI x row).2.1.toNat-(dI x row).1.toNat)))):=by
  simp only[gu,c3,q,ym,mX]
 rw[hred];have gf1:h1.get fb=some (.cells [iv,.ptr b 0,pv] 3 false):=by rw[x1.gt _ (AH.lt_of_get g)]; exact g
 have rg1:ak h1 fb 1 1=some [.ptr b 0]:=bm gf1 rfl;refine ae (bN (bo 5 (Mi1 rg1) rfl (Zi1 rg1) (Mi1 rg1) (Kh (x:=x) (hv0.ext x1)) λr h2 hq=>?_));obtain⟨i2,x2⟩:=hq;have s2:SlI h2 r (dg es x):=Mq om (λ_=>rfl) i2;have l2:=s2.len;rw[ai] at l2;refine bH (M1 l2) ?_;have X2:=x1.trans (x2.mono x1.nx);have gf2:h2.get fb=some (.cells [iv,.ptr b 0,pv] 3 false):=by rw[X2.gt _ (AH.lt_of_get g)]; exact g
 refine ae (bN (bo 4 (Mi0) rfl (Zi0) (Mi0) (Ce (x:=x) gf2 (si.ext X2 (ab _)) hl) λr h3 hq=>?_));obtain⟨rfl,x3⟩:=hq;refine bH (M0) ?_;have X3:=X2.trans (x3.mono X2.nx);have gf3:h3.get fb=some (.cells [iv,.ptr b 0,pv] 3 false):=by rw[X3.gt _ (AH.lt_of_get g)]; exact g
 have sok:=pM x row;by_cases q3:(dI x row).2.2=((dg es x).length:Nat)
 case neg =>
  have d3:decide ((dI x row).2.2=((dg es x).length:Nat))=false:=aw q3;refine ae (bN (eW 13 (M1 d3) rfl (Z0) ?_));refine bH (M0) ?_;exact br ⟨.bool false,(by simp only[rs,rf153,am,aK,simprocAttr]<;>rfl),by rw[d3,ee],X3⟩
 have d3:decide ((dI x row).2.2=((dg es x).length:Nat))=true:=aH q3;by_cases q4:(dg es x).length=0
 ·have d4:decide ((((dg es x).length:Nat):Int)=0)=true:=aH om;refine ae (bN (eW 13 (M2 d3 d4) rfl (Z0) ?_));refine bH (M0) ?_;exact br ⟨.bool true,(by simp only[rs,rf153,am,aK,simprocAttr]<;>rfl),by rw[d3,aH q4]; rfl,X3⟩
 ·have d4:decide ((((dg es x).length:Nat):Int)=0)=false:=aw om;rcases sok with sok|sok
  ·omega
  obtain⟨lo,hlo⟩:∃ lo:Nat,(dI x row).1=lo:=⟨(dI x row).1.toNat,om⟩
  obtain⟨hi,hhi⟩:∃ hi:Nat,(dI x row).2.1=hi:=⟨(dI x row).2.1.toNat,om⟩
  rw[hlo,hhi];refine ae (bN (bo 13 (Mi2 d3 d4) rfl (Zi2 d3 d4) (Mi2 d3 d4) (Ii (x:=x) (lo:=lo) (hi:=hi) gf3 (si.ext X3 (ab _)) hl om om) λr h4 hq=>?_));obtain⟨rfl,x4⟩:=hq;refine bH (M0) ?_;exact br ⟨_,(by simp only[rs,rf153,am,aK,simprocAttr]<;>rfl),by rw[d3,aw q4,aY,aY]; rfl,X3.trans (x4.mono X3.nx)⟩
open Go.Am
theorem nH {α:Type} [DecidableEq α]:∀ {l m:List α},l.Nodup→(∀ x∈l,x∈m)→l.length≤m.length
 | [],_,_,_=>dM _
 | a::l,m,hn,hs=>by
   have hm:=hs a (bd ..);have hn':=dm.1 hn;have:=nH (l:=l) (m:=m.erase a) hn'.2 λx hx=>(List.mem_erase_of_ne (λe:x=a=>hn'.1 (e▸hx))).2 (hs x (bw _ hx));rw[List.length_erase_of_mem hm] at this;have:0<m.length:=uH hm;simp only[bf];omega
theorem pr (p:Int×Int→Bool):∀ (es:List (Int×Int)) (i j:Nat) (e:Int×Int),es[j]?=some e→p e=true→((i+j:Nat):Int)∈dr p es i
 | [],i,j,e,h,_=>by simp at h
 | y::r,i,0,e,h,hp=>by
   simp only[ce,aa] at h;subst h;simp [dr,hp]
 | y::r,i,j+1,e,h,hp=>by
   simp only[dy] at h;have:=pr p r (i+1) j e h hp;rw[show i+1+j=i+(j+1) by omega] at this;unfold dr;split
   ·exact bw _ this
   ·exact this
theorem hM (p:Int×Int→Bool):∀ (es:List (Int×Int)) (i:Nat),(dr p es i).Nodup
 | [],i=>pF
 | y::r,i=>by
   unfold dr;split
   ·refine dm.2 ⟨λh=>?_,hM p r (i+1)⟩;obtain⟨j,hj,_⟩:=fV p r (i+1) _ h;omega
   ·exact hM p r (i+1)
theorem xc {es:List (Int×Int)}{y i:Int}:i∈dg es y↔∃ k:Nat,i=k∧∃ t,es[k]?=some (t,y):=by
 constructor
 ·intro h;obtain⟨j,hj,_,e,he,hp⟩:=fV _ es 0 _ h;rw[bM] at hj;have:e.2=y:=aR hp;exact⟨j,hj,e.1,by rw[he,← this]⟩
 ·rintro⟨k,rfl,t,ht⟩;have:=pr (λe=>decide (e.2=y)) es 0 k _ ht (by simp);rwa [bM] at this
theorem fw {es:List (Int×Int)}{y i:Int}:i∈dz es y↔∃ k:Nat,i=k∧∃ t,es[k]?=some (y,t):=by
 constructor
 ·intro h;obtain⟨j,hj,_,e,he,hp⟩:=fV _ es 0 _ h;rw[bM] at hj;have:e.1=y:=aR hp;exact⟨j,hj,e.2,by rw[he,← this]⟩
 ·rintro⟨k,rfl,t,ht⟩;have:=pr (λe=>decide (e.1=y)) es 0 k _ ht (by simp);rwa [bM] at this
def gz (x:Int) (row:List It):Nat:=row.countP λi=>decide (i.2.2=x)
structure Cut (x:Int) (row A X C:List It):Prop where
 eq:row=A++X++C
 na:∀ i∈A,i.2.2≠x
 nc:∀ i∈C,i.2.2≠x
 hd:∃ a X',X=a::X'∧a.2.2=x
 tl:∃ X' z,X=X'++[z]∧z.2.2=x
theorem px (x:Int):∀ row:List It,(∀ i∈row,i.2.2≠x)∨∃ A X C,Cut x row A X C
 | []=>.inl (by simp)
 | it::r=>by
   by_cases q:it.2.2=x
   ·refine .inr ?_;rcases px x r with h|⟨A,X,C,c⟩
    ·exact⟨[],[it],r,by simp,by simp,h,⟨it,[],rfl,q⟩,⟨[],it,rfl,q⟩⟩
    ·obtain⟨X',z,hX,hz⟩:=c.tl;refine⟨[],it::(A++X),C,by rw[c.eq]; simp,by simp,c.nc,⟨it,A++X,rfl,q⟩,⟨it::(A++X'),z,by rw[hX]; simp,hz⟩⟩
   ·rcases px x r with h|⟨A,X,C,c⟩
    ·refine .inl λi hi=>?_;rcases aA.1 hi with rfl|hi
     ·exact q
     ·exact h i hi
    ·refine .inr ⟨it::A,X,C,by rw[c.eq]; simp,λi hi=>?_,c.nc,c.hd,c.tl⟩;rcases aA.1 hi with rfl|hi
     ·exact q
     ·exact c.na i hi
theorem uw (x:Int) (a b:List It):gz x (a++b)=gz x a+gz x b:=BW
theorem qX {x:Int}{a:List It} (h:∀ i∈a,i.2.2≠x):gz x a=0:=by
 unfold gz;rw[jM];intro i hi;simp [h i hi]
theorem Cut.cnt {x:Int}{row A X C:List It} (c:Cut x row A X C):gz x row=gz x X:=by
 rw[c.eq,uw,uw,qX c.na,qX c.nc];omega
theorem Cut.pos {x:Int}{row A X C:List It} (c:Cut x row A X C):0<gz x X:=by
 obtain⟨a,X',h1,h2⟩:=c.hd;rw[h1];unfold gz;rw[dD];simp [h2]
theorem lQ (x:Int):∀ (a b:List It) (i:Nat) (s:Int×Int×Int),eB x (a++b) i s=eB x b (i+a.length) (eB x a i s)
 | [],b,i,s=>rfl
 | it::r,b,i,s=>by
   rw[bU,eB,lQ x r b (i+1),eB,bf,show i+1+r.length=i+(r.length+1) by omega]
theorem mm (x:Int):∀ (a:List It) (i:Nat) (s:Int×Int×Int),(∀ j∈a,j.2.2≠x)→eB x a i s=s
 | [],i,s,_=>rfl
 | it::r,i,s,h=>by
   rw[eB,if_neg (h it (bd ..)),mm x r _ _ λj hj=>h j (bw _ hj)]
theorem vh (x:Int):∀ (a:List It) (i:Nat) (s:Int×Int×Int),(eB x a i s).2.2=s.2.2+(gz x a:Nat)
 | [],i,s=>by simp [eB,gz]
 | it::r,i,s=>by
   rw[eB,vh x r];unfold gz;rw[dD];by_cases q:it.2.2=x
   ·simp only[q,if_true,decide_true];omega
   ·simp only[q,if_false,decide_false];simp
theorem pe (x:Int):∀ (a:List It) (i:Nat) (s:Int×Int×Int),s.1≠-1→(eB x a i s).1=s.1
 | [],i,s,_=>rfl
 | it::r,i,s,h=>by
   rw[eB];by_cases q:it.2.2=x
   ·rw[if_pos q,if_neg h];exact pe x r _ _ h
   ·rw[if_neg q,pe x r _ _ h]
theorem qz {x:Int}{row:List It} (h:∀ i∈row,i.2.2≠x):dI x row=(-1,0,0):=mm x row 0 _ h
theorem Cut.span {x:Int}{row A X C:List It} (c:Cut x row A X C):dI x row=(((A.length:Nat):Int),((A.length+X.length:Nat):Int),((gz x X:Nat):Int)):=by
 unfold dI;rw[c.eq,cB,lQ,mm x A _ _ c.na,lQ,mm x C _ _ c.nc,bM];obtain⟨a,X',h1,h2⟩:=c.hd;obtain⟨X'',z,h3,h4⟩:=c.tl;have p1:(eB x X A.length (-1,0,0)).1=(A.length:Nat):=by
  rw[h1,eB,if_pos h2,if_pos rfl,pe];simp only;omega
 have p2:(eB x X A.length (-1,0,0)).2.1=(A.length+X.length:Nat):=by
  rw[h3,lQ,eB,if_pos h4,aN];rfl
 have p3:=vh x X A.length (-1,0,0);simp only[Int.zero_add] at p3;exact Prod.ext p1 (Prod.ext p2 p3)
def loM (x:Int) (row:List It):Nat:=(max (dI x row).1 0).toNat
def kO (x:Int) (row:List It):List It:=(row.drop (loM x row)).take ((dI x row).2.1.toNat-loM x row)
def ij (es:List (Int×Int)) (x:Int) (outs:List Int) (row:List It):List It:=row.take (loM x row)++eF es x outs++row.drop (dI x row).2.1.toNat
theorem vT {x:Int}{row:List It} (h:∀ i∈row,i.2.2≠x):kO x row=[]:=by
 unfold kO loM;rw[qz h];simp
theorem lU {es:List (Int×Int)}{x:Int}{outs:List Int}{row:List It} (h:∀ i∈row,i.2.2≠x):ij es x outs row=eF es x outs++row:=by
 unfold ij loM;rw[qz h];have:(max (-1:Int) 0).toNat=0:=by decide
 simp [this]
theorem Cut.lo {x:Int}{row A X C:List It} (c:Cut x row A X C):loM x row=A.length:=by
 unfold loM;rw[c.span];simp only;omega
theorem Cut.gone {x:Int}{row A X C:List It} (c:Cut x row A X C):kO x row=X:=by
 unfold kO;rw[c.lo,c.span];simp only[aY];rw[c.eq,cB,pG,eD,pE]
theorem Cut.next {es:List (Int×Int)}{x:Int}{outs:List Int}{row A X C:List It} (c:Cut x row A X C):ij es x outs row=A++eF es x outs++C:=by
 unfold ij;rw[c.lo,c.span];simp only[aY];rw[c.eq,← aN,pG,cB A X C,pE]
def uP (es:List (Int×Int)) (row:List It) (x:Int):Bool:=decide ((dI x row).2.2=((dg es x).length:Nat))&&(decide ((dg es x).length=0)||wG x ((row.drop (dI x row).1.toNat).take ((dI x row).2.1.toNat-(dI x row).1.toNat)))
theorem oz {n:Nat}{es:List (Int×Int)}{row:List It}{pl:List Int}{x:Int}:gu n es row pl x=true↔(0≤x∧x<n)∧x∉pl∧uP es row x=true:=by
 unfold gu uP;rw[aM,aM,aJ,dR,bZ,and_assoc]
theorem Ij {x:Int}{X:List It}:wG x X=true↔∀ i∈X,i.2.2=x∨i.2.2=-1:=by
 unfold wG;rw[dR,qt];refine forall_congr' λi=>forall_congr' λ_=>?_;rw[aJ];omega
theorem mr {es:List (Int×Int)}{row:List It}{x:Int}:uP es row x=true↔((dg es x).length=0∧∀ i∈row,i.2.2≠x)∨∃ A X C,Cut x row A X C∧gz x X=(dg es x).length∧∀ i∈X,i.2.2=x∨i.2.2=-1:=by
 rcases px x row with h|⟨A,X,C,c⟩
 ·unfold uP;rw[qz h];simp only;constructor
  ·intro q;rw[aM,aJ] at q;exact .inl ⟨om,h⟩
  ·rintro (⟨q,_⟩|⟨A,X,C,c,_⟩)
   ·rw[q];rfl
   ·obtain⟨a,X',h1,h2⟩:=c.hd;exact absurd h2 (h a (by rw[c.eq,h1]; simp))
 ·have hp:=c.pos;have hne:¬ ∀ i∈row,i.2.2≠x:=by
   obtain⟨a,X',h1,h2⟩:=c.hd;exact λh=>absurd h2 (h a (by rw[c.eq,h1]; simp))
  have key:uP es row x=true↔gz x X=(dg es x).length∧∀ i∈X,i.2.2=x∨i.2.2=-1:=by
   unfold uP;rw[c.span];simp only[aY,eD];rw[show (row.drop A.length).take X.length=X by rw[c.eq,cB,pG,pE],aM,cZ,aJ,aJ,Ij];constructor
   ·rintro⟨h1,h2⟩;have h1:gz x X=(dg es x).length:=om;exact⟨h1,h2.resolve_left om⟩
   ·rintro⟨h1,h2⟩;exact⟨om,.inr h2⟩
  rw[key];constructor
  ·rintro⟨h1,h2⟩;exact .inr ⟨A,X,C,c,h1,h2⟩
  ·rintro (⟨_,q⟩|⟨A',X',C',c',h1,h2⟩)
   ·exact absurd q hne
   ·have e:=c.gone;rw[c'.gone] at e;subst e;exact⟨h1,h2⟩
structure Inv (n:Nat) (es:List (Int×Int)) (row:List It) (pl:List Int):Prop where
 it:∀ i∈row,(i.1=-1∧i.2.2=-1)∨∃ k:Nat,i.1=k∧es[k]?=some (i.2.1,i.2.2)∧i.2.1∈pl
 nd:((row.filter λi=>decide (0≤i.1)).map (·.1)).Nodup
 src:(pl=[]∧row=[])∨∀ s:Nat,s<n→(dg es s).length=0→((s:Nat):Int)∈pl
theorem Inv.start {n:Nat}{es:List (Int×Int)}:Inv n es [] []:=⟨by simp,by simp,.inl ⟨rfl,rfl⟩⟩
def OutsOk (es:List (Int×Int)) (x:Int) (l:List Int):Prop:=l.Perm (dz es x)
theorem OutsOk.mem {es:List (Int×Int)}{x:Int}{l:List Int} (h:OutsOk es x l) {i:Int}:i∈l↔i∈dz es x:=h.mem_iff
theorem OutsOk.nodup {es:List (Int×Int)}{x:Int}{l:List Int} (h:OutsOk es x l):l.Nodup:=h.nodup_iff.2 (hM _ _ _)
theorem Iq {es:List (Int×Int)}{x:Int}{l:List Int} (h:OutsOk es x l) {i:It} (hi:i∈eF es x l):(i.1=-1∧i.2.2=-1)∨∃ k:Nat,i.1=k∧es[k]?=some (i.2.1,i.2.2)∧i.2.1=x∧i.1∈l:=by
 unfold eF at hi;split at hi
 ·simp only[aA,bq,or_false] at hi;subst hi;exact .inl ⟨rfl,rfl⟩
 ·obtain⟨j,hj,rfl⟩:=bB.1 hi;obtain⟨k,rfl,t,ht⟩:=fw.1 (h.mem.1 hj);refine .inr ⟨k,rfl,?_,rfl,hj⟩;simp only[aY,ht,dh]
theorem lF {es:List (Int×Int)}{x:Int}{l:List Int} (h:OutsOk es x l):((eF es x l).filter λi=>decide (0≤i.1)).map (·.1)=l:=by
 unfold eF;split
 ·rename_i q
  subst q;rfl
 ·rw[List.filter_eq_self.2,gQ]
  ·exact List.map_id' l
  ·intro i hi;obtain⟨j,hj,rfl⟩:=bB.1 hi;obtain⟨k,rfl,_⟩:=fw.1 (h.mem.1 hj);simp
theorem Co (es:List (Int×Int)) (x:Int) (row:List It):∃ A X C,row=A++X++C∧kO x row=X∧(∀ outs,ij es x outs row=A++eF es x outs++C)∧((A=[]∧X=[]∧C=row∧∀ i∈row,i.2.2≠x)∨Cut x row A X C):=by
 rcases px x row with h|⟨A,X,C,c⟩
 ·exact⟨[],[],row,rfl,vT h,λ_=>by rw[lU h]; rfl,.inl ⟨rfl,rfl,rfl,h⟩⟩
 ·exact⟨A,X,C,c.eq,c.gone,λ_=>c.next,.inr c⟩
theorem Inv.next {n:Nat}{es:List (Int×Int)}{row:List It}{pl:List Int}{x:Int}{l:List Int} (v:Inv n es row pl) (ho:OutsOk es x l) (hx:x∉pl) (hr:uP es row x=true) (hone:∀ a b:Nat,a<n→b<n→(dg es a).length=0→(dg es b).length=0→a=b) (hxn:0≤x∧x<n):Inv n es (ij es x l row) (pl++[x]):=by
 obtain⟨A,X,C,e1,e2,e3,e4⟩:=Co es x row;have sub:(A++C).Sublist row:=by
  rw[e1,cB];exact (List.Sublist.refl A).append (List.sublist_append_right X C)
 have hmem:∀ i,i∈A++C→i∈row:=λi hi=>sub.subset hi;refine⟨λi hi=>?_,?_,.inr λs hs h0=>?_⟩
 ·rw[e3,aV,aV] at hi;have old:i∈row→(i.1=-1∧i.2.2=-1)∨∃ k:Nat,i.1=k∧es[k]?=some (i.2.1,i.2.2)∧i.2.1∈pl++[x]:=λhm=>by
   rcases v.it i hm with h|⟨k,h1,h2,h3⟩
   ·exact .inl h
   ·exact .inr ⟨k,h1,h2,cT _ h3⟩
  rcases hi with (hi|hi)|hi
  ·exact old (hmem i (cT _ hi))
  ·rcases Iq ho hi with h|⟨k,h1,h2,h3,_⟩
   ·exact .inl h
   ·exact .inr ⟨k,h1,h2,by rw[h3]; simp⟩
  ·exact old (hmem i (fY _ hi))
 ·rw[e3,bI,bI,cj,cj,lF ho];have nd1:(((A++C).filter λi=>decide (0≤i.1)).map (·.1)).Nodup:=((sub.filter _).map _).nodup v.nd;rw[bI,cj,bV] at nd1;have dis:∀ i∈row,i.1∈l→False:=λi hi hl=>by
   rcases v.it i hi with ⟨h,_⟩|⟨k,h1,h2,h3⟩
   ·obtain⟨k,hk,_⟩:=fw.1 (ho.mem.1 hl);omega
   ·obtain⟨k',hk,t,ht⟩:=fw.1 (ho.mem.1 hl);have:k'=k:=om;subst this;rw[h2] at ht;simp only[aa,ar] at ht;exact hx (ht.1▸h3)
  have disA:∀ z∈(A.filter λi=>decide (0≤i.1)).map (·.1),z∈l→False:=λz hz hl=>by
   obtain⟨i,hi,rfl⟩:=bB.1 hz;exact dis i (hmem i (cT _ (bj.1 hi).1)) hl
  have disC:∀ z∈(C.filter λi=>decide (0≤i.1)).map (·.1),z∈l→False:=λz hz hl=>by
   obtain⟨i,hi,rfl⟩:=bB.1 hz;exact dis i (hmem i (fY _ (bj.1 hi).1)) hl
  rw[bV,bV];refine⟨⟨nd1.1,ho.nodup,λa ha b hb e=>disA a ha (e▸hb)⟩,nd1.2.1,λa ha b hb e=>?_⟩;rcases aV.1 ha with ha|ha
  ·exact nd1.2.2 a ha b hb e
  ·exact disC b hb (e▸ha)
 ·rcases v.src with ⟨h1,h2⟩|h
  ·subst h1 h2;rcases mr.1 hr with ⟨q,_⟩|⟨A,X,C,c,_⟩
   ·obtain⟨m,rfl⟩:∃ m:Nat,x=m:=⟨x.toNat,om⟩
    have:=hone s m hs om h0 q;subst this;simp
   ·obtain⟨a,X',h1,_⟩:=c.hd;have:=c.eq;rw[h1] at this;simp at this
  ·exact cT _ (h s hs h0)
def oM (n:Nat) (es:List (Int×Int)) (outs:List (List Int)):List Int→List Int→List It→List (List It)→Nat→(List (List It)×List It) ⊕ Nat
 | [],_,row,ends,_=>.inl (ends,row)
 | x::q,pl,row,ends,i=>if gu n es row pl x then oM n es outs q (pl++[x]) (ij es x (outs.getD x.toNat []) row) (ends.set x.toNat (kO x row)) (i+1) else .inr i
def lJ (x:Int) (need:Nat):List It→Nat→Bool
 | [],met=>decide (met=need)
 | it::r,met=>if it.2.2=x then lJ x need r (met+1) else if 0≤it.1∧0<met∧met<need then false else lJ x need r met
theorem sH (x:Int) (need:Nat):∀ (row:List It) (met:Nat),met+gz x row≠need→lJ x need row met=false
 | [],met,h=>by
   unfold lJ;exact aw (by simpa [gz] using h)
 | it::r,met,h=>by
   unfold gz at h;rw[dD] at h;unfold lJ;by_cases q:it.2.2=x
   ·rw[if_pos q];simp only[q,decide_true,if_true] at h;exact sH x need r (met+1) (by unfold gz; omega)
   ·rw[if_neg q];simp only[q,decide_false] at h;split
    ·rfl
    ·exact sH x need r met (by unfold gz; simpa using h)
theorem pO (x:Int) (need:Nat):∀ (a b:List It) (met:Nat),(∀ i∈a,i.2.2≠x)→(met=0∨need≤met)→lJ x need (a++b) met=lJ x need b met
 | [],b,met,_,_=>rfl
 | it::r,b,met,h,hm=>by
   rw[bU,lJ,if_neg (h it (bd ..)),if_neg om,pO x need r b met (λj hj=>h j (bw _ hj)) hm]
theorem sI (x:Int) (need:Nat) (C:List It) (hC:∀ i∈C,i.2.2≠x):∀ (S:List It) (met:Nat),0<met→met+gz x S=need→(S=[]∨∃ S' z,S=S'++[z]∧z.2.2=x)→lJ x need (S++C) met=S.all λi=>decide (i.2.2=x∨i.1<0)
 | [],met,h0,hm,_=>by
   have hm:met=need:=by simpa [gz] using hm
   have:=pO x need C [] met hC (.inr om);rw[bO] at this;rw[cH,this];unfold lJ;simp [hm]
 | it::r,met,h0,hm,ht=>by
   have ht':r=[]∨∃ S' z,r=S'++[z]∧z.2.2=x:=by
    rcases ht with h|⟨S',z,h1,h2⟩
    ·cases h
    ·cases S' with
     | nil=>simp only[cH,cI] at h1; exact .inl h1.2
     | cons s S'=>simp only[bU,cI] at h1; exact .inr ⟨S',z,h1.2,h2⟩
   unfold gz at hm;rw[dD] at hm;rw[bU,lJ,fU];by_cases q:it.2.2=x
   ·simp only[q,decide_true,if_true] at hm;rw[if_pos q,sI x need C hC r (met+1) om (by unfold gz; omega) ht'];simp [q]
   ·simp only[q,decide_false] at hm;have hm:met+gz x r=need:=by unfold gz; simpa using hm
    have hlt:met<need:=by
     rcases ht with h|⟨S',z,h1,h2⟩
     ·cases h
     ·rcases ht' with h|⟨S'',z',h3,h4⟩
      ·subst h;cases S' with
       | nil=>simp only[cH,cI,and_true] at h1; subst h1; exact absurd h2 q
       | cons s S'=>simp at h1
      ·have:0<gz x r:=by
        rw[h3,uw];unfold gz;simp [h4]
       omega
    rw[if_neg q];by_cases q2:0≤it.1
    ·have:¬ it.1<0:=om;rw[if_pos ⟨q2,h0,hlt⟩];simp [q,this]
    ·have:it.1<0:=om;rw[if_neg (λh=>q2 h.1),sI x need C hC r met h0 hm ht'];simp [this]
def iG (n:Nat) (es:List (Int×Int)) (row:List It) (pl:List Int) (x:Int):Bool :=
 decide (0≤x∧x<n)&&!decide (x∈pl)&&(decide ((dg es x).length=0)||lJ x (dg es x).length row 0)
theorem Dw {n:Nat}{es:List (Int×Int)}{row:List It}{pl:List Int}{x:Int} (hes:es.all (okE n)=true) (v:Inv n es row pl):iG n es row pl x=gu n es row pl x:=by
 rw[dE,oz];unfold iG;rw[aM,aM,aJ,dR,bZ,and_assoc];refine and_congr_right λhx=>and_congr_right λ_=>?_;have hno:(dg es x).length=0→∀ i∈row,i.2.2≠x:=λh0 i hi e=>by
  rcases v.it i hi with ⟨_,h⟩|⟨k,h1,h2,h3⟩
  ·omega
  ·rw[e] at h2;have:=xc.2 ⟨k,rfl,_,h2⟩;rw[bi.1 h0] at this;simp at this
 rw[cZ,aJ,mr];by_cases h0:(dg es x).length=0
 ·exact⟨λ_=>.inl ⟨h0,hno h0⟩,λ_=>.inl h0⟩
 constructor
 ·rintro (h|h)
  ·exact absurd h h0
  ·rcases px x row with hn|⟨A,X,C,c⟩
   ·rw[sH x _ row 0 (by rw[qX hn]; omega)] at h;cases h
   ·by_cases hc:gz x X=(dg es x).length
    ·refine .inr ⟨A,X,C,c,hc,?_⟩;rw[c.eq,cB,pO x _ A _ 0 c.na (.inl rfl)] at h;obtain⟨a,X',h1,h2⟩:=c.hd;have hp:=c.pos;rw[h1] at hc;unfold gz at hc;rw[dD] at hc;simp only[h2,decide_true,if_true] at hc;rw[h1,bU,lJ,if_pos h2,sI x _ C c.nc X' 1 om (by unfold gz; omega) (by
      obtain⟨X'',z,h3,h4⟩:=c.tl;rw[h1] at h3;cases X'' with
      | nil=>simp only[cH,cI] at h3; exact .inl h3.2
      | cons s S'=>simp only[bU,cI] at h3; exact .inr ⟨S',z,h3.2,h4⟩),bD] at h
     intro i hi;rw[h1] at hi;rcases aA.1 hi with rfl|hi
     ·exact .inl h2
     ·have h5:=aR (h i hi);rcases h5 with h5|h5
      ·exact .inl h5
      ·rcases v.it i (by rw[c.eq,h1]; simp [hi]) with ⟨_,q⟩|⟨k,q,_⟩
       ·exact .inr q
       ·omega
    ·rw[sH x _ row 0 (by rw[c.cnt]; omega)] at h;cases h
 ·rintro (⟨h,_⟩|⟨A,X,C,c,hc,hb⟩)
  ·exact absurd h h0
  ·right;rw[c.eq,cB,pO x _ A _ 0 c.na (.inl rfl)];obtain⟨a,X',h1,h2⟩:=c.hd;have hc2:=hc;rw[h1] at hc2;unfold gz at hc2;rw[dD] at hc2;simp only[h2,decide_true,if_true] at hc2;rw[h1,bU,lJ,if_pos h2,sI x _ C c.nc X' 1 om (by unfold gz; omega) (by
    obtain⟨X'',z,h3,h4⟩:=c.tl;rw[h1] at h3;cases X'' with
    | nil=>simp only[cH,cI] at h3; exact .inl h3.2
    | cons s S'=>simp only[bU,cI] at h3; exact .inr ⟨S',z,h3.2,h4⟩),bD]
   intro i hi;refine aH ?_;rcases hb i (by rw[h1]; simp [hi]) with q|q
   ·exact .inl q
   ·rcases v.it i (by rw[c.eq,h1]; simp [hi]) with ⟨q2,_⟩|⟨k,_,q2,_⟩
    ·omega
    ·
     rw[q] at q2;have:=(kI (bD.1 hes _ (ni q2))).2.2.1;simp only at this;omega
open Go.Am
theorem jE {P:RP}{b:Nat}{l l2:List ROper}{s:Option (Tm×AH)}{K:Tm→AH→Prop}{ts:Tm}{h:AH}{d:Option Nat}{f:FuncId}{args:List RO}{g:Option (Nat×Bool)}{nm:Option Nat}{cs:List (Nat×ROp×Option (Nat×Bool))}{vs:List AV}{Q:AV→AH→Prop} (n:Nat)
 (hs:km b (l.take n) s=some (ts,h)) (hd:l.drop n=⟨d,.call f args,g,nm,cs⟩::l2) (hw:wanted ts g=some true) (ha:args.map (RO.ev ts)=vs) (hc:C P f vs h Q)
 (hk:∀ v h',Q v h'→fR (dt ts d v) h' cs=true∧G P b l2 (some (dt ts d v,h')) K):G P b l s K:=by
 subst ha;rw[← cD n l];refine sk ?_;rw[hs,hd];exact CV hw (hc.mono hk)
theorem pn (xs:List Int):(fz xs).Perm xs:=jJ _ _
theorem ze {es:List (Int×Int)}{x:Int}{outs:List Int}{row:List It}:(ij es x outs row).length≤row.length+outs.length+1:=by
 obtain⟨A,X,C,e1,_,e3,_⟩:=Co es x row;rw[e3,e1];simp only[aN];have:(eF es x outs).length≤outs.length+1:=by
  unfold eF;split
  ·simp
  ·simp
 omega
theorem Em {h:AH}{fb pb n:Nat}{es:List (Int×Int)}{row:List It}{pl outs:List Int}{x:Int}{ov:AV} (hf:IsFront h fb pb n es row pl) (ho:SlI h ov outs) (hov:∀ b o m c,ov=.sl b o m c→b≠fb∧b≠pb) (hl:row.length<2 ^ 29) (hl2:pl.length<2 ^ 29) (hl3:outs.length<2 ^ 29) :
 C prg 119 [.ptr fb 0,.int .i64 x,ov] h λr h' =>
   if gu n es row pl x=true then
    if fz outs=dz es x then ∃ g pb',r=.tup [g,.int .i64 0]∧IsSl h' 3 h.next g ((kO x row).flatMap eT)∧IsFront h' fb pb' n es (ij es x outs row) (pl++[x])∧h.next≤pb'∧Kp (λc=>c=fb∨c=pb) h h'
    else r=.tup [.nils,.int .i64 1]∧Ext h.next h h'
   else r=.tup [.nils,.int .i64 3]∧Ext h.next h h':=by
 refine Mw pf119 ?_;refine ae (aj (Mi0) ?_);refine ae (ae (bN (bo 2 (Mi0) rfl (Zi0) (Mi0) (Gc (x:=x) hf om om) λr h1 hq=>?_)));obtain⟨rfl,x1⟩:=hq;refine bH (M0) ?_;have hf1:=hf.ext x1;obtain⟨iv,vp,pv,hV,g,si,so,vv,vx,v1,v2,v3,pp⟩:=hf1;have hv:=vv.at vx;have hfb:=AH.lt_of_get g;have hlow:fb<h.next∧pb<h.next:=by
  obtain⟨iv,vp,pv,hV,g,si,so,vv,vx,v1,v2,v3,pp⟩:=hf;exact⟨AH.lt_of_get g,v3⟩
 refine cr (t:=!gu n es row pl x) (Z0) (λq=>?_) λq=>?_
 ·have q:gu n es row pl x=false:=by simpa using q
  refine ae (aj (M0) ?_);refine br ⟨.tup [.nils,.int .i64 3],(by simp only[rs,rf119,am,aK,simprocAttr]<;>rfl),?_⟩;rw[if_neg (by simp [q])];exact⟨rfl,x1⟩
 have q:gu n es row pl x=true:=by simpa using q
 refine bu ?_;have ho1:=ho.ext x1 (ab _);have r1:ak h1 fb 1 1=some [vp]:=bm g rfl;obtain⟨vb,hvb⟩:∃ vb,vp=.ptr vb 0:=by obtain⟨b,_,_,_,_,_,hb,_⟩:=hv; exact⟨b,hb⟩
 subst hvb;refine ae (ae (bN (jE 6 (Mi1 r1) rfl (Zi1 r1) (Mi1 r1) (oj ho1.cells.1) λr h2 hq=>?_)));obtain⟨rfl,hh2⟩:=hq;have x2:Ext h1.next h1 h2:=by rw[hh2]; exact Mt (ab _)
 have n2:h2.next=h1.next+1:=by rw[hh2]; rfl
 have g2:h2.get h1.next=some (.cells [ov] 1 false):=by rw[hh2,AH.get_new,if_pos rfl]
 have r2:ak h2 fb 1 1=some [.ptr vb 0]:=by rw[bK (x2.gt _ hfb)]; exact r1
 refine⟨Z1 r2,?_⟩;refine jE 0 (M0) rfl (Z0) (M0) (ow (bm g2 rfl) (ho1.ext x2 (ab _)) om om) λr h3 hq=>?_;obtain⟨i3,x3⟩:=hq;have X3:=x2.trans (x3.mono x2.nx);have r3:ak h3 fb 1 1=some [.ptr vb 0]:=by rw[bK (X3.gt _ hfb)]; exact r1
 refine⟨Z1 r3,?_⟩;have hv3:=hv.ext X3;refine iZ (Z0) (M0) (Cq (x:=x) hv3) λr4 h4 hq=>?_;obtain⟨i4,x4⟩:=hq;have lo:=ho.len;have s3':SlI h3 r (fz outs):=Mq om (λ_=>rfl) i3;have s3:=s3'.ext x4 (ab _);have s4:SlI h4 r4 (dz es x):=Mq om (λ_=>rfl) i4;have X4:=X3.trans (x4.mono X3.nx);have hol:(dz es x).length≤128:=by
  obtain⟨_,_,_,_,_,_,_,_,_,_,_,_,_,_,_,_,_,hm,_⟩:=hv;exact cn (fk _ _ _) hm
 refine iZ (Z0) (M0) (vZ s3 s4 (by rw[fQ]; omega) om) λr5 h5 hq=>?_;obtain⟨rfl,e5⟩:=hq;subst e5;refine bH (M0) ?_;have XX4:=x1.trans (X4.mono x1.nx);refine cr (t:=!(fz outs==dz es x)) (Z0) (λq2=>?_) λq2=>?_
 ·have q2:¬ fz outs=dz es x:=by simpa using q2
  refine ae (aj (M0) ?_);refine br ⟨.tup [.nils,.int .i64 1],(by simp only[rs,rf119,am,aK,simprocAttr]<;>rfl),?_⟩;rw[if_pos q,if_neg q2];exact⟨rfl,XX4⟩
 have q2:fz outs=dz es x:=by simpa using q2
 refine bu ?_;have g4:h5.get fb=some (.cells [iv,.ptr vb 0,pv] 3 false):=by rw[X4.gt _ hfb]; exact g
 have si4:=si.ext X4 (ab _);refine ae (bN (bo 4 (Mi0) rfl (Zi0) (Mi0) (Ce (x:=x) g4 si4 om) λr6 h6 hq=>?_));obtain⟨rfl,x6⟩:=hq;refine bH (M0) ?_;have X6:=X4.trans (x6.mono X4.nx);have XX6:=x1.trans (X6.mono x1.nx);have g6:h6.get fb=some (.cells [iv,.ptr vb 0,pv] 3 false):=by rw[X6.gt _ hfb]; exact g
 have nx6:=XX6.nx;have pI:IsSl h6 1 0 pv (pl.flatMap eI):=by
  rcases pp with ⟨rfl,rfl,_⟩|⟨m,rfl,p2,rfl,_⟩
  ·exact .inl ⟨rfl,rfl⟩
  ·exact .inr ⟨pb,_,dM _,rfl,by rw[X6.gt _ v3]; exact p2,by rw[dS,aO]⟩
 have pb6:∀ b m,pv=.sl b 0 m m→b=pb:=λb m hb=>by
  rcases pp with ⟨rfl,_,_⟩|⟨m',rfl,_,_,_⟩
  ·cases hb
  ·cases hb; rfl
 have pbf:∀ b m,pv=.sl b 0 m m→b≠fb:=λb m hb=>by
  rcases pp with ⟨rfl,_,_⟩|⟨m',rfl,_,_,hne⟩
  ·cases hb
  ·cases hb; exact hne
 have x7:Ext h6.next h6 (h6.new (.cells [.int .i64 x] 1 false)):=Mt (ab _);have g7:(h6.new (.cells [.int .i64 x] 1 false)).get h6.next=some (.cells [.int .i64 x] 1 false):=by rw[AH.get_new,if_pos rfl]
 have n7:(h6.new (.cells [.int .i64 x] 1 false)).next=h6.next+1:=rfl;have r6:ak (h6.new (.cells [.int .i64 x] 1 false)) fb 2 1=some [pv]:=by rw[bK (x7.gt _ (AH.lt_of_get g6))]; exact bm g6 rfl
 have r6':ak h6 fb 2 1=some [pv]:=bm g6 rfl
 obtain⟨pv',h8,a8,i8,x8,hpv',n8,k8,t8⟩:=(pI.ext x7 (ab _)).app (bytes:=8) (x:=h6.next) (new:=[.int .i64 x]) (dM _) om g7 (dM _) (λb m hb=>by have:=pb6 b m hb; omega) rfl rfl
  (by rw[dS]; unfold aW; omega) (by rw[dS]; unfold aW; omega)
 rw[n7] at hpv' n8;rw[dS,dF] at hpv';have g8:h8.get fb=some (.cells [iv,.ptr vb 0,pv] 3 false):=by rw[k8 fb om (λb m hb=>(pbf b m hb).symm),x7.gt _ (AH.lt_of_get g6)]; exact g6
 have w8:bQ h8 fb 2 [pv']=some (h8.put fb (.cells [iv,.ptr vb 0,pv'] 3 false)):=by rw[dp g8]; rfl
 obtain⟨pc,po⟩:=i8.cells;refine ae (aj (Mi5 r6' a8 pc po w8) ?_);have u9:=Mv (o:=.cells [iv,.ptr vb 0,pv'] 3 false) g8;have n9:(h8.put fb (.cells [iv,.ptr vb 0,pv'] 3 false)).next=h8.next:=rfl;have K9:Kp (λc=>c=fb∨c=pb) h1 (h8.put fb (.cells [iv,.ptr vb 0,pv'] 3 false)):=by
  refine⟨by have:=X6.nx; omega,λc hc hn=>?_,λc hc=>?_⟩
  ·have:=X6.nx;rw[u9.ne (λe=>hn (.inl e)),k8 c om (λb m hb e=>hn (.inr (e.trans (pb6 b m hb)))),x7.gt _ om,X6.gt _ hc]
  ·rw[u9.ty,t8];have:=X6.nx;rw[x7.ty _ om,X6.ty _ hc]
 generalize h8.put fb (.cells [iv,.ptr vb 0,pv'] 3 false)=h9 at *
 have ho9:SlI h9 ov outs:=ho1.cong λb o m c hb=>K9.gt _ (ho1.lt hb) λhn=>by
  obtain⟨e1,e2⟩:=hov b o m c hb;rcases hn with hn|hn
  ·exact e1 hn
  ·exact e2 hn
 have si9:SlT h9 iv row:=si.cong λb o m c hb=>K9.gt _ (si.lt hb) λhn=>by
  obtain⟨e1,e2⟩:=so b o m c hb;rcases hn with hn|hn
  ·exact e1 hn
  ·exact e2 hn
 have xV9:Ext hV.next hV h9:=by
  refine⟨cn vx.nx K9.nx,λc hc=>?_,λc hc=>?_⟩
  ·rw[K9.gt c (dl hc vx.nx) (by rintro (e|e)<;>omega),vx.gt _ hc]
  ·rw[K9.ty c (dl hc vx.nx),vx.ty _ hc]
 have hv9:=vv.at xV9;have hr9:∀ i∈outs,0≤i∧i<es.length:=λi hi=>by
  have:i∈dz es x:=by rw[← q2]; exact (pn outs).mem_iff.2 hi
  obtain⟨k,rfl,t,ht⟩:=fw.1 this;have:=(aI.1 ht).1;omega
 have sok:=pM x row;have elo:(if (dI x row).1<0 then (0:Int) else (dI x row).1)=((loM x row:Nat):Int):=by
  unfold loM;split<;>omega
 obtain⟨hi,hhi⟩:∃ hi:Nat,(dI x row).2.1=hi:=⟨(dI x row).2.1.toNat,om⟩
 have hlo:loM x row≤hi∧hi≤row.length:=by unfold loM; omega
 refine ae (bN (bo 9 (Mi3 @mx2 elo hhi) rfl (Zi3 @mx2 elo hhi) (Mi3 @mx2 elo hhi) (Ip (x:=x) u9.get hv9 ho9 hr9 om) λw h10 hq=>?_));obtain⟨i10,x10⟩:=hq;have s10:SlT h10 w (eF es x outs):=Mq om (λ_=>rfl) i10;have g10:h10.get fb=some (.cells [iv,.ptr vb 0,pv'] 3 false):=by rw[x10.gt _ (AH.lt_of_get u9.get)]; exact u9.get
 have hal:(eF es x outs).length≤outs.length+1:=by
  unfold eF;split
  ·simp
  ·simp
 refine iZ (Z0) (M0) (IR g10 (si9.ext x10 (ab _)) s10 hlo.1 hlo.2 om om) λgv h11 hq=>?_;obtain⟨i11,iv',g11,si11,K11⟩:=hq;refine bH (M0) ?_;have n10:=x10.nx;have n11:=K11.nx;have KK:Kp (λc=>c=fb∨c=pb) h1 h11:=K9.trans ((x10.kp (S:=λc=>c=fb∨c=pb) (ab _)).trans (K11.mono λc _ e=>.inl e) (λ_ _ e=>e)) (λ_ _ e=>e);have hout:ij es x outs row=row.take (loM x row)++eF es x outs++row.drop hi:=by unfold ij; rw[hhi]; rfl
 have hgone:kO x row=(row.drop (loM x row)).take (hi-loM x row):=by unfold kO; rw[hhi]; rfl
 have nx1:=x1.nx;have X6n:=X6.nx;refine br ⟨.tup [gv,.int .i64 0],(by simp only[rs,rf119,am,aK,simprocAttr]<;>rfl),?_⟩;rw[if_pos q,if_pos q2];refine⟨gv,h6.next+1,rfl,?_,?_,om,(x1.kp (ab _)).trans KK λ_ _ e=>e⟩
 ·rw[hgone];exact i11.mono om
 ·rw[hout];refine⟨iv',.ptr vb 0,pv',hV,g11,Mq om (λ_=>rfl) si11,λb o m c hb=>?_,vv,?_,v1,om,?_,.inr ⟨pl.length+1,hpv',?_,by simp,om⟩⟩
  ·rcases si11 with ⟨rfl,_⟩|⟨b',m',hb',rfl,_,_⟩
   ·cases hb
   ·cases hb;constructor<;>omega
  ·refine⟨cn vx.nx KK.nx,λc hc=>?_,λc hc=>?_⟩
   ·rw[KK.gt c (dl hc vx.nx) (by rintro (e|e)<;>omega),vx.gt _ hc]
   ·rw[KK.ty c (dl hc vx.nx),vx.ty _ hc]
  ·omega
  ·have h8g:h8.get (h6.next+1)=some (.cells ((pl++[x]).flatMap eI) 1 false):=by
    rw[hpv'] at i8;rcases i8 with ⟨e,_⟩|⟨b,m,_,e,hg,_⟩
    ·cases e
    ·cases e;rw[hg,bC];rfl
   rw[K11.gt _ om om,x10.gt _ om,u9.ne om,h8g]
open Go.Am
theorem IsFront.bounds {h:AH}{fb pb n:Nat}{es:List (Int×Int)}{row:List It}{pl:List Int} (hf:IsFront h fb pb n es row pl):1≤n∧n≤64∧es.length≤128∧es.all (okE n)=true:=by
 obtain⟨iv,vp,pv,hV,g,si,so,vv,vx,v1,v2,v3,pp⟩:=hf;obtain⟨_,_,_,_,_,_,_,_,_,_,_,_,_,_,_,q⟩:=vv;exact q
theorem Ko {h:AH}{fb pb n:Nat}{es:List (Int×Int)}{row:List It}{pl:List Int} (hf:IsFront h fb pb n es row pl) (hl:row.length<2 ^ 30):C prg 120 [.ptr fb 0] h λr h'=>IsSl h' 3 h.next r (row.flatMap eT)∧Ext h.next h h':=by
 obtain⟨iv,vp,pv,hV,g,si,so,vv,vx,v1,v2,v3,pp⟩:=hf;have r1:ak h fb 0 1=some [iv]:=bm g rfl;refine Mw pf120 ?_;refine ae (aj (Mi0) ?_);refine ae (bN (bo 4 (Mi1 r1) rfl (Zi1 r1) (Mi1 r1) (wq si om) λr h1 hq=>?_));obtain⟨i1,x1,_⟩:=hq;refine bH (M0) ?_;exact br ⟨_,(by simp only[rs,rf120,am,aK,simprocAttr]<;>rfl),i1,x1⟩
theorem Kq {h:AH}{n:Int}{ev:AV}{es:List (Int×Int)} (he:SlE h ev es) (hl:es.length<2 ^ 30) :
 C prg 117 [.agg [.int .i64 n,ev]] h λr h'=>Ext h.next h h'∧((gJ n es∧∃ fb,h.next≤fb∧r=.tup [.ptr fb 0,.int .i64 0]∧IsFront h' fb fb n.toNat es [] [])∨(¬ gJ n es∧r=.tup [.nilp,.int .i64 1])):=by
 obtain⟨ec,eo⟩:=he.cells;refine Mw pf117 ?_;have x0:Ext h.next h (h.new (.cells [.int .i64 n,ev] 2 false)):=Mt (ab _);have g0:(h.new (.cells [.int .i64 n,ev] 2 false)).get h.next=some (.cells [.int .i64 n,ev] 2 false):=by rw[AH.get_new,if_pos rfl]
 have n0:(h.new (.cells [.int .i64 n,ev] 2 false)).next=h.next+1:=rfl;refine ae (aj (Mi0) ?_);generalize h.new (.cells [.int .i64 n,ev] 2 false)=h0 at *
 have r0:ak h0 h.next 0 2=some [.int .i64 n,ev]:=by rw[aU g0]; rfl
 refine ae (ae (bN (bo 1 (Mi1 r0) rfl (Zi1 r0) (Mi1 r0) (Ad (he.ext x0 (ab _)) hl) λr h2 hq=>?_)));obtain⟨⟨c,a,v,rfl,hc⟩,x2⟩:=hq;have X2:=x0.trans (x2.mono x0.nx);refine bH (by simp only[am,aK,simprocAttr,Eo,vw]<;>rfl) ?_;refine cr (t:=!decide (c=0)) (by simp only[am,aK,simprocAttr,bL]) (λq=>?_) λq=>?_
 ·have q:¬ c=0:=by simpa using q
  refine ae (aj (M0) ?_);exact br ⟨.tup [.nilp,.int .i64 1],(by simp only[rs,rf117,am,aK,simprocAttr]<;>rfl),X2,.inr ⟨λhg=>q (hc.2 hg),rfl⟩⟩
 have q:c=0:=by simpa using q
 have hg:=hc.1 q;obtain⟨nn,rfl⟩:∃ nn:Nat,n=nn:=⟨n.toNat,by
  have:=hg.1;simp only[fy,aM,aJ] at this; omega⟩
 refine bu ?_;have r2:ak h2 h.next 0 2=some [.int .i64 (nn:Nat),ev]:=by rw[bK (x2.gt _ om)]; exact r0
 refine ae (bN (bo 1 (Mi1 r2) rfl (Zi1 r2) (Mi1 r2) (Bl (he.ext X2 (ab _)) hg.1) λvp h3 hq=>?_));obtain⟨hv,x3⟩:=hq;have hvb:∃ vb,vp=.ptr vb 0:=by obtain⟨b,_,_,_,_,_,hb,_⟩:=hv; exact⟨b,hb⟩
 obtain⟨vb,rfl⟩:=hvb;have X3:=X2.trans (x3.mono X2.nx);refine bH (M0) ?_;have x4:Ext h3.next h3 (h3.new (.cells [.nils,.ptr vb 0,.nils] 3 false)):=Mt (ab _);have g4:(h3.new (.cells [.nils,.ptr vb 0,.nils] 3 false)).get h3.next=some (.cells [.nils,.ptr vb 0,.nils] 3 false):=by rw[AH.get_new,if_pos rfl]
 have n4:(h3.new (.cells [.nils,.ptr vb 0,.nils] 3 false)).next=h3.next+1:=rfl;generalize h3.new (.cells [.nils,.ptr vb 0,.nils] 3 false)=h4 at *
 refine br ⟨.tup [.ptr h3.next 0,.int .i64 0],(by simp only[rs,rf117,am,aK,simprocAttr]<;>rfl),X3.trans (x4.mono X3.nx),.inl ⟨hg,h3.next,X3.nx,rfl,?_⟩⟩;rw[aY];exact⟨.nils,.ptr vb 0,.nils,h3,g4,.inl ⟨rfl,.inl rfl⟩,λb o m c e=>(by cases e),hv,x4,ab _,ab _,om,.inl ⟨rfl,rfl,rfl⟩⟩
open Go.Am
theorem qQ {xs ys:List Int} (hs:ys.Pairwise (·≤·)):fz xs=ys↔xs.Perm ys:=by
 constructor
 ·intro h;rw[← h];exact (pn xs).symm
 ·intro h;have h1:(fz xs).Pairwise (λa b=>decide (a≤b)=true):=ip (by intro a b c; simp only[aJ]; omega) (by intro a b; simp only[cZ,aJ]; omega) xs;refine List.Perm.eq_of_pairwise (le:=λa b:Int=>a≤b) (λa b _ _ h1 h2=>Int.le_antisymm h1 h2) (h1.imp λh=>aR h) hs ((pn xs).trans h)
theorem lM (p:Int×Int→Bool):∀ (es:List (Int×Int)) (i:Nat),(dr p es i).Pairwise (·≤·)
 | [],i=>List.Pairwise.nil
 | y::r,i=>by
   unfold dr;split
   ·refine cX.2 ⟨λz hz=>?_,lM p r (i+1)⟩;obtain⟨j,hj,_⟩:=fV p r (i+1) _ hz;omega
   ·exact lM p r (i+1)
theorem tj {es:List (Int×Int)}{x:Int}{l:List Int}:fz l=dz es x↔OutsOk es x l:=qQ (lM _ _ _)
def ju (n:Nat):List Int:=(List.range n).map λx=>((x:Nat):Int)
theorem kh (n:Nat):(ju n).length=n:=by simp [ju]
theorem gf {n:Nat}{x:Int}:x∈ju n↔0≤x∧x<n:=by
 unfold ju;rw[bB];constructor
 ·rintro⟨a,ha,rfl⟩;rw[bF] at ha;omega
 ·rintro⟨h1,h2⟩;exact⟨x.toNat,bF.2 om,om⟩
theorem sP {n i:Nat} (h:i<n):(ju n)[i]?=some ((i:Nat):Int):=by
 unfold ju;rw[aX,dn h];rfl
theorem rI (n:Nat):(ju n).Pairwise (·≤·):=by
 unfold ju;rw[eP];exact List.pairwise_le_range.imp λh=>by omega
theorem Au (n:Nat):(ju n).Nodup:=by
 unfold ju;unfold List.Nodup;rw[eP];exact List.nodup_range.imp λh=>by omega
def PlanP (n:Nat) (es:List (Int×Int)) (order:List Int) (outs:List (List Int)):Prop:=order.Perm (ju n)∧outs.length=n∧∀ x:Nat,x<n→OutsOk es x (outs.getD x [])
def SlL (h:AH) (v:AV) (xss:List (List Int)):Prop:=∃ ws:List AV,Sl h 1 v (ws.map λw=>[w])∧ws.length=xss.length∧∀ (i:Nat) (w:AV) (xs:List Int),ws[i]?=some w→xss[i]?=some xs→SlI h w xs
theorem SlL.ext {h h':AH}{v:AV}{xss:List (List Int)} (hs:SlL h v xss) (hx:Ext h.next h h'):SlL h' v xss:=by
 obtain⟨ws,a,b,c⟩:=hs;exact⟨ws,a.ext hx (ab _),b,λi w xs h1 h2=>(c i w xs h1 h2).ext hx (ab _)⟩
theorem SlL.len {h:AH}{v:AV}{xss:List (List Int)} (hs:SlL h v xss):gD v=some (.int .i64 (xss.length:Nat)):=by
 obtain⟨ws,a,b,c⟩:=hs;have:=a.len;rw[ai,b] at this;exact this
theorem SlL.cells {h:AH}{v:AV}{xss:List (List Int)} (hs:SlL h v xss):v.cells=[v]∧v.one=true:=by
 obtain⟨ws,a,b,c⟩:=hs;exact a.cells
theorem SlL.at {h:AH}{v:AV}{xss:List (List Int)} (hs:SlL h v xss) {k:Nat} (hk:k<xss.length):∃ b p w,jO 1 v (.int .i64 (k:Nat))=some (.ptr b p)∧ak h b p 1=some [w]∧SlI h w xss[k]∧b<h.next:=by
 obtain⟨ws,a,b,c⟩:=hs;have hw:ws[k]?=some ws[k]:=aq om;obtain⟨b1,p1,a1,r1,l1⟩:=a.at1 (i:=k) (y:=ws[k]) (by rw[aX,hw]; rfl);exact⟨b1,p1,_,a1,r1,c k _ _ hw (aq hk),l1⟩
def SlTL (h:AH) (v:AV) (xss:List (List It)):Prop:=∃ ws:List AV,Sl h 1 v (ws.map λw=>[w])∧ws.length=xss.length∧∀ (i:Nat) (w:AV) (xs:List It),ws[i]?=some w→xss[i]?=some xs→SlT h w xs
theorem sM {α:Type}{xs:List α}{k:Nat}{d:α} (h:k<xs.length):xs.getD k d=xs[k]:=by
 rw[aL,aq h]; rfl
theorem Lz {h:AH}{vp ordv outv:AV}{n:Nat}{es:List (Int×Int)}{order:List Int}{outs:List (List Int)} (hv:IsView h vp n es) (hp:SlI h ordv order) (hq:SlL h outv outs) (hl:order.length≤200) (hl2:outs.length≤200) (hl3:∀ l∈outs,l.length≤200) :
 C prg 118 [vp,.agg [ordv,outv]] h λr h'=>(∃ b,r=.bool b∧(b=true↔PlanP n es order outs))∧Ext h.next h h':=by
 have hv0:=hv;obtain⟨b,ev,os,is,ob,ib,rfl,g1,g2,g3,g4,g5,g6,g7,g8,m1,m2,m3,m4⟩:=hv;obtain⟨oc,oo⟩:=hp.cells;obtain⟨qc,qo⟩:=hq.cells;have lp:=hp.len;rw[ai] at lp;have lq:=hq.len;refine Mw pf118 ?_;have x0:Ext h.next h (h.new (.cells [ordv,outv] 2 false)):=Mt (ab _);have g0:(h.new (.cells [ordv,outv] 2 false)).get h.next=some (.cells [ordv,outv] 2 false):=by rw[AH.get_new,if_pos rfl]
 have n0:(h.new (.cells [ordv,outv] 2 false)).next=h.next+1:=rfl;refine ae (aj (Mi0) ?_);generalize h.new (.cells [ordv,outv] 2 false)=h0 at *
 have ra:ak h0 h.next 0 1=some [ordv]:=bm g0 rfl;have rb:ak h0 h.next 1 1=some [outv]:=bm g0 rfl;have rn:ak h0 b 0 1=some [.int .i64 (n:Nat)]:=bm (by rw[x0.gt _ (AH.lt_of_get g1)]; exact g1) rfl;have hcond:∃ t:Bool,(t=true↔¬ (outs.length=n∧order.length=n))∧((decide (((outs.length:Nat):Int)=((n:Nat):Int))=true→decide (((order.length:Nat):Int)=((n:Nat):Int))=!t)∧(decide (((outs.length:Nat):Int)=((n:Nat):Int))=false→t=true)):=by
  refine⟨decide (¬ (outs.length=n∧order.length=n)),decide_eq_true_iff,λq=>?_,λq=>?_⟩
  ·have q:outs.length=n:=by have:=aR q; omega
   simp only[q,true_and,decide_not,Bool.not_not,decide_eq_decide];omega
  ·have q:¬ outs.length=n:=by have:=aZ q; omega
   simp [q]
 by_cases d1:outs.length=n∧order.length=n
 case neg =>
  have hno:¬ PlanP n es order outs:=λ⟨p1,p2,_⟩=>d1 ⟨p2,by rw[p1.length_eq,kh]⟩;by_cases d2:outs.length=n
  ·have c1:decide (((outs.length:Nat):Int)=((n:Nat):Int))=true:=aH om;have c2:decide (((order.length:Nat):Int)=((n:Nat):Int))=false:=aw om;refine ae (ae (aj (Mi7 rb rn ra lp lq c1 c2) ?_));refine db (Z0) (ae (aj (M0) ?_));exact br ⟨.bool false,(by simp only[rs,rf118,am,aK,simprocAttr]<;>rfl),⟨false,rfl,⟨λq=>(by cases q),λq=>absurd q hno⟩⟩,x0⟩
  ·have c1:decide (((outs.length:Nat):Int)=((n:Nat):Int))=false:=aw om;refine ae (ae (aj (Mi4 rb rn lq c1) ?_));refine db (Z0) (ae (aj (M0) ?_));exact br ⟨.bool false,(by simp only[rs,rf118,am,aK,simprocAttr]<;>rfl),⟨false,rfl,⟨λq=>(by cases q),λq=>absurd q hno⟩⟩,x0⟩
 obtain⟨d1,d2⟩:=d1;have c1:decide (((outs.length:Nat):Int)=((n:Nat):Int))=true:=aH om;have c2:decide (((order.length:Nat):Int)=((n:Nat):Int))=true:=aH om;refine ae (ae (aj (Mi7 rb rn ra lp lq c1 c2) ?_));refine dL (Z0) (bu ?_);have hp0:=hp.ext x0 (ab _);have hq0:=hq.ext x0;refine ae (ae (bN (bo 2 (Mi1 ra) rfl (Zi1 ra) (Mi1 ra) (oj hp0.cells.1) λr h1 hq=>?_)));obtain⟨rfl,hh1⟩:=hq;have x1:Ext h0.next h0 h1:=by rw[hh1]; exact Mt (ab _)
 have n1:h1.next=h0.next+1:=by rw[hh1]; rfl
 have gv1:h1.get h0.next=some (.cells [ordv] 1 false):=by rw[hh1,AH.get_new,if_pos rfl]
 refine iZ (Z0) (M0) (ow (bm gv1 rfl) (hp0.ext x1 (ab _)) om om) λr h2 hq=>?_;obtain⟨i2,x2⟩:=hq;have s2:SlI h2 r (fz order):=Mq om (λ_=>rfl) i2;have l2:=s2.len;rw[ai,fQ] at l2;refine bH (M1 l2) ?_;have X2:=x0.trans ((x1.trans (x2.mono om)).mono om);have g2':h2.get h.next=some (.cells [ordv,outv] 2 false):=by rw[x2.gt _ om,x1.gt _ om]; exact g0
 refine fA (α:=Unit) (N:=order.length) (λ_ _=>[(32,r),(0,.ptr b 0),(3,.ptr h.next 0)]) (λk _ h'=>h'=h2∧∀ j,j<k→(fz order)[j]?=some ((j:Nat):Int)) () (λ_ _=>rfl) om (Oi0) ⟨rfl,λj hj=>absurd hj om⟩ ?_ ?_
 ·rintro k _ ts h3 hk ⟨rfl,j2⟩ ⟨ei,en,e32,e0,e3,-⟩;simp only at ei en e32 e0 e3;have hk':k<(fz order).length:=by rw[fQ]; exact hk
  obtain⟨b1,p1,a1,r4,_⟩:=s2.at1 (cq (f:=eI) hk');refine ae (aj (M4 e32 ei a1 r4) ?_);refine ae (ae (aj (M0) ?_));refine cr (t:=!decide ((fz order)[k]=((k:Nat):Int))) (Z0) (λq=>?_) λq=>?_
  ·have q:¬ (fz order)[k]=((k:Nat):Int):=by simpa using q
   refine ae (aj (M0) ?_);refine br ⟨.bool false,(by simp only[rs,rf118,am,aK,simprocAttr]<;>rfl),⟨false,rfl,⟨λq=>(by cases q),λhP=>absurd ?_ q⟩⟩,X2⟩;have:=(qQ (rI n)).2 hP.1;have h1:=sP (n:=n) (i:=k) om;rw[← this,aq hk'] at h1;simpa using h1
  ·have q:(fz order)[k]=((k:Nat):Int):=by simpa using q
   refine bu ⟨(),⟨rfl,λj hj=>?_⟩,O5 ei en e32 e0 e3⟩;by_cases e:j=k
   ·subst e;rw[aq hk',q]
   ·exact j2 j om
 ·rintro _ ts h3 ⟨rfl,j2⟩ ⟨e32,e0,e3,-⟩;simp only at e32 e0 e3;have hperm:order.Perm (ju n):=by
   refine (qQ (rI n)).1 (cW λj=>?_);by_cases hj:j<n
   ·rw[j2 j om,sP hj]
   ·rw[bG (by rw[fQ]; omega),bG (by rw[kh]; omega)]
  have rb3:ak h3 h.next 1 1=some [outv]:=bm g2' rfl;refine ae (ae (aj (M3 e3 rb3 lq) ?_));refine fA (α:=Unit) (N:=outs.length) (λ_ _=>[(44,outv),(0,.ptr b 0)]) (λk _ h'=>Ext h3.next h3 h'∧∀ j,j<k→OutsOk es ((j:Nat):Int) (outs.getD j [])) () (λ_ _=>rfl) om (Oi1 e0) ⟨Mu,λj hj=>absurd hj om⟩ ?_ ?_
  ·rintro k _ ts h4 hk ⟨j1,j2⟩ ⟨ei,en,e44,e0,-⟩;simp only at ei en e44 e0;have X4:Ext h.next h h4:=X2.trans (j1.mono X2.nx);obtain⟨b1,p1,w,a1,r4,sw,_⟩:=(hq.ext X4).at hk;refine ae (aj (M4 e44 ei a1 r4) ?_);refine ae (bN (bo 1 (M0) rfl (Z0) (M0) (oj sw.cells.1) λr h5 hq=>?_));obtain⟨rfl,hh5⟩:=hq;have x5:Ext h4.next h4 h5:=by rw[hh5]; exact Mt (ab _)
   have n5:h5.next=h4.next+1:=by rw[hh5]; rfl
   have gv5:h5.get h4.next=some (.cells [w] 1 false):=by rw[hh5,AH.get_new,if_pos rfl]
   have hlk:=hl3 _ (aP hk);refine iZ (Z0) (M0) (ow (bm gv5 rfl) (sw.ext x5 (ab _)) om om) λr h6 hq=>?_;obtain⟨i6,x6⟩:=hq;have X6:Ext h.next h h6:=X4.trans ((x5.trans (x6.mono om)).mono X4.nx);have s6:SlI h6 r (fz outs[k]):=Mq om (λ_=>rfl) i6;refine bo 2 (M1 e0) rfl (Z1 e0) (M1 e0) (Cq (x:=((k:Nat):Int)) (hv0.ext X6)) λr7 h7 hq=>?_;obtain⟨i7,x7⟩:=hq;have s7:SlI h7 r7 (dz es ((k:Nat):Int)):=Mq om (λ_=>rfl) i7;have ol:(dz es ((k:Nat):Int)).length≤128:=cn (fk _ _ _) m3;refine iZ (Z0) (M0) (vZ (s6.ext x7 (ab _)) s7 (by rw[fQ]; omega) om) λr8 h8 hq=>?_;obtain⟨rfl,e8⟩:=hq;subst e8;refine bH (M0) ?_;have X7:Ext h.next h h8:=X6.trans (x7.mono X6.nx);have Y7:Ext h3.next h3 h8:=j1.trans ((x5.trans ((x6.trans (x7.mono x6.nx)).mono om)).mono j1.nx);have hgd:outs.getD k []=outs[k]:=sM hk;refine cr (t:=!(fz outs[k]==dz es ((k:Nat):Int))) (Z0) (λq=>?_) λq=>?_
   ·have q:¬ fz outs[k]=dz es ((k:Nat):Int):=by simpa using q
    refine ae (aj (M0) ?_);refine br ⟨.bool false,(by simp only[rs,rf118,am,aK,simprocAttr]<;>rfl),⟨false,rfl,⟨λq=>(by cases q),λhP=>absurd ?_ q⟩⟩,X7⟩;have:=hP.2.2 k om;rw[hgd] at this;exact tj.2 this
   ·have q:fz outs[k]=dz es ((k:Nat):Int):=by simpa using q
    refine bu ⟨(),⟨Y7,λj hj=>?_⟩,O4 ei en e44 e0⟩;by_cases e:j=k
    ·subst e;rw[hgd];exact tj.1 q
    ·exact j2 j om
  ·rintro _ ts h4 ⟨j1,j2⟩ ⟨e44,e0,-⟩;refine ae (aj (M0) ?_);exact br ⟨.bool true,(by simp only[rs,rf118,am,aK,simprocAttr]<;>rfl),⟨true,rfl,⟨λ_=>⟨hperm,d1,λx hx=>j2 x om⟩,λ_=>rfl⟩⟩,X2.trans (j1.mono X2.nx)⟩
open Go.Am
theorem tA {h:AH}{n:Nat} (hn:n≤64):uQ h [.nils] 1 24 (.int .i64 (n:Nat)) (.int .i64 (n:Nat))=some (.sl h.next 0 n n,h.new (.cells (cm [.nils] n) 1 false)):=kK (by unfold aW; omega) (by unfold aW; omega)
theorem vl {n:Nat}{es:List (Int×Int)}{outs:List (List Int)}{x:Int}{q pl:List Int}{row:List It}{ends:List (List It)}{i:Nat}:oM n es outs (x::q) pl row ends i=if gu n es row pl x then oM n es outs q (pl++[x]) (ij es x (outs.getD x.toNat []) row) (ends.set x.toNat (kO x row)) (i+1) else .inr i:=rfl
def RunR (h:AH) (r:AV) (n:Nat) (es:List (Int×Int)) (order:List Int) (outs:List (List Int)) (tl:Int→Int→List AV):Prop :=
 (∃ i:Nat,oM n es outs order [] [] (List.replicate n []) 0=.inr i∧r=.tup ([.nils,.nils]++tl 3 i)) ∨
  ∃ ends row a b,oM n es outs order [] [] (List.replicate n []) 0=.inl (ends,row)∧r=.tup ([a,b]++tl 0 0)∧SlTL h a ends∧SlT h b row
def tlF (c a:Int):List AV:=[.agg [.int .i64 c,.int .i64 a,.nils]]
def tlR (c a:Int):List AV:=[.int .i64 c,.int .i64 a]
theorem IT {h:AH}{n:Int}{ev ordv outv:AV}{es:List (Int×Int)}{order:List Int}{outs:List (List Int)} (he:SlE h ev es) (hl0:es.length<2 ^ 30) (hp:SlI h ordv order) (hq:SlL h outv outs) (hl:order.length≤200) (hl2:outs.length≤200) (hl3:∀ l∈outs,l.length≤200) :
 C prg 64 [.agg [.int .i64 n,ev],.agg [ordv,outv]] h λr h'=>Ext h.next h h' ∧
   ((¬ (gJ n es∧PlanP n.toNat es order outs)∧r=.tup ([.nils,.nils]++tlF 1 0))∨((gJ n es∧PlanP n.toNat es order outs)∧RunR h' r n.toNat es order outs tlF)):=by
 obtain⟨ec,eo⟩:=he.cells;obtain⟨oc,oo⟩:=hp.cells;obtain⟨qc,qo⟩:=hq.cells;have lp:=hp.len;rw[ai] at lp;refine Mw pf64 ?_;refine ae (aj (Mi0) ?_);have ga:∀ c,((((h.new (.cells [.int .i64 n,ev] 2 false)).new (.cells [ordv,outv] 2 false)).new (.cells [.int .i64 0,.int .i64 0,.nils] 3 false))).get c=if c=h.next+2 then some (.cells [.int .i64 0,.int .i64 0,.nils] 3 false) else if c=h.next+1 then some (.cells [ordv,outv] 2 false) else if c=h.next then some (.cells [.int .i64 n,ev] 2 false) else h.get c:=λc=>by
  rw[AH.get_new,AH.get_new,AH.get_new];rfl
 have x0:Ext h.next h ((((h.new (.cells [.int .i64 n,ev] 2 false)).new (.cells [ordv,outv] 2 false)).new (.cells [.int .i64 0,.int .i64 0,.nils] 3 false))):=(Mt (ab _)).trans ((Mt (by simp)).trans (Mt (by simp; omega)));have n0:((((h.new (.cells [.int .i64 n,ev] 2 false)).new (.cells [ordv,outv] 2 false)).new (.cells [.int .i64 0,.int .i64 0,.nils] 3 false))).next=h.next+3:=rfl;generalize (((h.new (.cells [.int .i64 n,ev] 2 false)).new (.cells [ordv,outv] 2 false)).new (.cells [.int .i64 0,.int .i64 0,.nils] 3 false))=h1 at *
 have gG:h1.get h.next=some (.cells [.int .i64 n,ev] 2 false):=by rw[ga,if_neg om,if_neg om,if_pos rfl]
 have gP:h1.get (h.next+1)=some (.cells [ordv,outv] 2 false):=by rw[ga,if_neg om,if_pos rfl]
 have gF:h1.get (h.next+2)=some (.cells [.int .i64 0,.int .i64 0,.nils] 3 false):=by rw[ga,if_pos rfl]
 have rG:ak h1 h.next 0 2=some [.int .i64 n,ev]:=by rw[aU gG]; rfl
 refine ae (bN (bo 1 (Mi1 rG) rfl (Zi1 rG) (Mi1 rG) (Kq (he.ext x0 (ab _)) hl0) λr h2 hq'=>?_));obtain⟨x2,hcase⟩:=hq';have X2:=x0.trans (x2.mono x0.nx);have n2:=x2.nx;have gF2:h2.get (h.next+2)=some (.cells [.int .i64 0,.int .i64 0,.nils] 3 false):=by rw[x2.gt _ om]; exact gF
 have gP2:h2.get (h.next+1)=some (.cells [ordv,outv] 2 false):=by rw[x2.gt _ om]; exact gP
 have gG2:h2.get h.next=some (.cells [.int .i64 n,ev] 2 false):=by rw[x2.gt _ om]; exact gG
 have rG2:ak h2 h.next 0 2=some [.int .i64 n,ev]:=by rw[aU gG2]; rfl
 have rP2:ak h2 (h.next+1) 0 2=some [ordv,outv]:=by rw[aU gP2]; rfl
 have hend:∀ (h':AH) (c a:Int),h'.get (h.next+2)=some (.cells [.int .i64 0,.int .i64 0,.nils] 3 false)→Ext h.next h h'→∃ h'',bQ h' (h.next+2) 0 [.int .i64 c,.int .i64 a,.nils]=some h''∧ak h'' (h.next+2) 0 3=some [.int .i64 c,.int .i64 a,.nils]∧Ext h.next h h''∧(∀ c,c≠h.next+2→h''.get c=h'.get c):=by
  intro h' c a hg hx;have u:=Mv (o:=.cells [.int .i64 c,.int .i64 a,.nils] 3 false) hg;exact⟨h'.put (h.next+2) (.cells [.int .i64 c,.int .i64 a,.nils] 3 false),by rw[dp hg]; rfl,by rw[aU u.get]; rfl,hx.trans (u.ext om),λc hc=>u.ne hc⟩
 rcases hcase with ⟨hgood,fb,hfb,rfl,hf⟩|⟨hno,rfl⟩
 case inr =>
  refine bH (M0) ?_;refine ae (ae (bN (bH (by simp only[am,aK,simprocAttr,qY,decide_true,decide_false]<;>rfl) ?_)));obtain⟨h3,w3,r3,X3,_⟩:=hend h2 1 0 gF2 X2;refine db (by simp only[am,aK,simprocAttr,decide_true,decide_false]) (ae (aj (M1 w3) ?_));exact br ⟨.tup [.nils,.nils,.agg [.int .i64 1,.int .i64 0,.nils]],(by simp only[rs,rf64,am,aK,simprocAttr,r3]<;>rfl),X3,.inl ⟨λh=>hno h.1,rfl⟩⟩
 refine bH (M0) ?_;obtain⟨nn,rfl⟩:∃ nn:Nat,n=nn:=⟨n.toNat,by
  have:=hgood.1;simp only[fy,aM,aJ] at this; omega⟩
 rw[aY] at hf ⊢;have he2:=he.ext X2 (ab _);refine ae (ae (bN (jE 5 (by simp only[am,aK,simprocAttr,bS,rG2,rP2,decide_true,decide_false]<;>rfl) rfl (by simp only[am,aK,simprocAttr,bS,rG2,rP2,decide_true,decide_false]) (by simp only[am,aK,simprocAttr,bS,rG2,rP2,decide_true,decide_false]<;>rfl) (Bl he2 hgood.1) λvp h3 hq'=>?_)));obtain⟨hv,x3⟩:=hq';have X3:=X2.trans (x3.mono X2.nx);have rP3:ak h3 (h.next+1) 0 2=some [ordv,outv]:=by rw[bK (x3.gt _ om)]; exact rP2
 have sagg:AV.same (.agg [ordv,outv]) (.agg [ordv,outv])=true:=by
  have key:∀ v:AV,(v=.nils∨v=.emp∨∃ b o l c,v=.sl b o l c)→AV.same v v=true:=by
   rintro v (rfl|rfl|⟨b,o,l,c,rfl⟩)
   ·exact qA
   ·rfl
   ·exact mq
  have k1:AV.same ordv ordv=true:=by
   rcases hp with ⟨_,h|h⟩|⟨b,o,c,cs,ro,h,_⟩
   ·exact key _ (.inl h)
   ·exact key _ (.inr (.inl h))
   ·exact key _ (.inr (.inr ⟨_,_,_,_,h⟩))
  have k2:AV.same outv outv=true:=by
   obtain⟨ws,hq,_⟩:=hq;rcases hq with ⟨_,h|h⟩|⟨b,o,c,cs,ro,h,_⟩
   ·exact key _ (.inl h)
   ·exact key _ (.inr (.inl h))
   ·exact key _ (.inr (.inr ⟨_,_,_,_,h⟩))
  simp only[AV.same,AV.sames,k1,k2,mY]
 refine⟨by simp only[am,aK,simprocAttr,qY,rP3,sagg,decide_true,decide_false],?_⟩;refine iZ (by simp only[am,aK,simprocAttr,decide_true,decide_false]) (by simp only[am,aK,simprocAttr,decide_true,decide_false]<;>rfl) (Lz hv (hp.ext X3 (ab _)) (hq.ext X3) hl hl2 hl3) λr h4 hq'=>?_;obtain⟨⟨bb,rfl,hbb⟩,x4⟩:=hq';have X4:=X3.trans (x4.mono X3.nx);have Y4:Ext h2.next h2 h4:=x3.trans (x4.mono x3.nx);have n4:=Y4.nx;have gF4:h4.get (h.next+2)=some (.cells [.int .i64 0,.int .i64 0,.nils] 3 false):=by rw[Y4.gt _ om]; exact gF2
 have gP4:h4.get (h.next+1)=some (.cells [ordv,outv] 2 false):=by rw[Y4.gt _ om]; exact gP2
 have gG4:h4.get h.next=some (.cells [.int .i64 (nn:Nat),ev] 2 false):=by rw[Y4.gt _ om]; exact gG2
 refine bH (by simp only[am,aK,simprocAttr,decide_true,decide_false]<;>rfl) ?_;cases bb with
 | false =>
   have hno:¬ PlanP nn es order outs:=λhP=>by have:=hbb.2 hP; cases this
   obtain⟨h5,w5,r5,X5,_⟩:=hend h4 1 0 gF4 X4;refine db (by simp only[am,aK,simprocAttr,decide_true,decide_false]) (ae (aj (M1 w5) ?_));exact br ⟨.tup [.nils,.nils,.agg [.int .i64 1,.int .i64 0,.nils]],(by simp only[rs,rf64,am,aK,simprocAttr,r5]<;>rfl),X5,.inl ⟨λh=>hno h.2,rfl⟩⟩
 | true =>
 have hP:=hbb.1 rfl;refine dL (by simp only[am,aK,simprocAttr,decide_true,decide_false]) (bu ?_);have hfn:=hf.bounds;have rg4:ak h4 h.next 0 1=some [.int .i64 (nn:Nat)]:=bm gG4 rfl;refine ae (aj (by simp only[am,aK,simprocAttr,bS,rg4,tA hfn.2.1]<;>rfl) ?_);have x5:Ext h4.next h4 (h4.new (.cells (cm [.nils] nn) 1 false)):=Mt (ab _);have g5:(h4.new (.cells (cm [.nils] nn) 1 false)).get h4.next=some (.cells (cm [.nils] nn) 1 false):=by rw[AH.get_new,if_pos rfl]
 have n5:(h4.new (.cells (cm [.nils] nn) 1 false)).next=h4.next+1:=rfl;generalize h4.new (.cells (cm [.nils] nn) 1 false)=h5 at *
 have X5:=X4.trans (x5.mono X4.nx);have Y5:Ext h2.next h2 h5:=Y4.trans (x5.mono Y4.nx);have hf5:=hf.ext Y5;have hfb2:fb<h2.next:=by obtain⟨iv,vp,pv,hV,g,_⟩:=hf; exact AH.lt_of_get g
 have ra5:ak h5 (h.next+1) 0 1=some [ordv]:=bm (by rw[x5.gt _ om]; exact gP4) rfl;obtain⟨hperm,hol,hout⟩:=hP;have hrl:(cm [AV.nils] nn).length=nn:=by rw[fq,cF]
 refine ae (ae (aj (Mi2 ra5 lp) ?_))
 refine fA (α:=Nat×List It×List (List It)×List AV) (N:=order.length) (λ_ _=>[(4,.sl h4.next 0 nn nn),(7,.ptr fb 0),(3,.ptr (h.next+1) 0),(6,.ptr (h.next+2) 0),(30,ordv)])
  (λk a h'=>oM nn es outs (order.drop k) (order.take k) a.2.1 a.2.2.1 k=oM nn es outs order [] [] (List.replicate nn []) 0∧IsFront h' fb a.1 nn es a.2.1 (order.take k)∧h'.get h4.next=some (.cells a.2.2.2 1 false)∧a.2.2.2.length=nn∧a.2.2.1.length=nn ∧
   (∀ (i:Nat) (v:AV) (l:List It),a.2.2.2[i]?=some v→a.2.2.1[i]?=some l→SlT h' v l∧∀ b o m c,v=.sl b o m c→fb<b)∧a.1≠h4.next∧fb≤a.1∧Ext h.next h h'∧h4.next<h'.next∧h'.get (h.next+1)=some (.cells [ordv,outv] 2 false)∧h'.get (h.next+2)=some (.cells [.int .i64 0,.int .i64 0,.nils] 3 false)∧a.2.1.length≤300*k)
  (fb,[],List.replicate nn [],cm [.nils] nn) (λ_ _=>rfl) om (Oi0)
  ⟨by simp,by simpa using hf5,g5,hrl,by simp,λi v l h1 h2=>?_,by simp only; omega,ab _,X5,om,by rw[x5.gt _ om]; exact gP4,by rw[x5.gt _ om]; exact gF4,by simp⟩ ?_ ?_
 ·simp only[fq] at h1;rw[cA] at h1 h2;split at h1
  ·rename_i hi
   rw[if_pos hi] at h2;simp only[aa] at h1 h2;subst h1 h2;exact⟨.inl ⟨rfl,.inl rfl⟩,λb o m c e=>by cases e⟩
  ·cases h1
 ·rintro k ⟨pb,row,ends,ls⟩ ts h6 hk ⟨j1,j2,j3,j4,j5,j6,j7,j8,jx,jn,jP,jF,jl⟩ ⟨ei,en,e4,e7,e3,e6,e30,-⟩;simp only at ei en e4 e7 e3 e6 e30 j1 j2 j3 j4 j5 j6 j7 j8 jl;obtain⟨b1,p1,a1,r1,_⟩:=(hp.ext jx (ab _)).at1 (cq (f:=eI) hk);have hxm:order[k]∈ju nn:=hperm.mem_iff.1 (aP hk);obtain⟨hx0,hx1⟩:=gf.1 hxm;obtain⟨x,hx⟩:∃ x:Nat,order[k]=x:=⟨order[k].toNat,om⟩
  rw[bX hk,vl] at j1;rw[hx] at r1 j1;have hxn:x<nn:=om;refine ae (aj (M4 ei e30 a1 r1) ?_);have rb6:ak h6 (h.next+1) 1 1=some [outv]:=bm jP rfl;obtain⟨b2,p2,w,a2,r2,sw,_⟩:=(hq.ext jx).at (k:=x) om;have hswl:∀ b o m c,w=.sl b o m c→b≠fb∧b≠pb:=by
   intro b o m c hb;obtain⟨b2',p2',w',a2',r2',sw',_⟩:=hq.at (k:=x) om;rw[a2] at a2';cases a2';rw[bK (jx.gt _ (by assumption)),r2'] at r2;simp only[aa,cI,and_true] at r2;subst r2;have:=sw'.lt hb;constructor<;>omega
  have htl:(order.take k).length=k:=by rw[aS]; omega
  have hlk:=hl3 _ (aP (show x<outs.length by omega));have hgd:outs.getD x []=outs[x]'om:=sM om;refine ae (bN (bo 9 (M6 e7 e3 e4 rb6 a2 r2) rfl (Z6 e7 e3 e4 rb6 a2 r2) (M6 e7 e3 e4 rb6 a2 r2) (Em (x:=((x:Nat):Int)) j2 sw hswl om om om) λr h7 hq'=>?_));rw[aY] at j1;have ix:eR ((x:Nat):Int) nn=some x:=cJ hxn;by_cases hrd:gu nn es row (order.take k) ((x:Nat):Int)=true
  ·rw[if_pos hrd] at hq' j1;have ho:=hout x hxn;rw[hgd] at ho j1;rw[if_pos (tj.2 ho)] at hq';obtain⟨gv,pb',rfl,ig,hf7,hpb',K7⟩:=hq';have n7:=K7.nx;have hlsl:∀ (i:Nat) (v:AV) (l:List It),ls[i]?=some v→ends[i]?=some l→SlT h7 v l:=λi v l h1 h2=>by
    obtain⟨s1,s2⟩:=j6 i v l h1 h2;refine s1.cong λb o m c hb=>K7.gt b (s1.lt hb) ?_;have hfb':=s2 b o m c hb;rintro (e|e)
    ·omega
    ·
     obtain⟨iv,vp2,pv,hV,g,si,so,vv,vx,v1,v2,v3,pp⟩:=j2;rcases pp with ⟨_,_,q⟩|⟨m',_,q,_,_⟩
     ·omega
     ·rcases s1 with ⟨_,hn|hn⟩|⟨b',o',c',cs',ro',hb2,hg2,_⟩
      ·subst hn; cases hb
      ·subst hn; cases hb
      ·subst hb2;cases hb;rw[e,q] at hg2;simp at hg2
   have gE7:h7.get h4.next=some (.cells ls 1 false):=by rw[K7.gt _ jn (by rintro (e|e)<;>omega)]; exact j3
   obtain⟨gc,go⟩:=ig.cells;have wE:bQ h7 h4.next x [gv]=some (h7.put h4.next (.cells (ls.set x gv) 1 false)):=eA gE7 om;refine bH (M6 e4 ix @aO wE gc go) ?_;have u8:=Mv (o:=.cells (ls.set x gv) 1 false) gE7;have n8:(h7.put h4.next (.cells (ls.set x gv) 1 false)).next=h7.next:=rfl;generalize h7.put h4.next (.cells (ls.set x gv) 1 false)=h8 at *
   refine ae (ae (aj (M0) ?_));refine dL (by simp only[am,aK,simprocAttr,decide_true,decide_false]) (bu ?_);have hne:∀ v:AV,∀ l:List It,SlT h7 v l→SlT h8 v l:=λv l s=>s.cong λb o m c hb=>u8.ne λe=>by
    rcases s with ⟨_,hn|hn⟩|⟨b',o',c',cs',ro',hb2,hg2,_⟩
    ·subst hn; cases hb
    ·subst hn; cases hb
    ·subst hb2;cases hb;rw[e,gE7] at hg2;simp at hg2
   have hf8:IsFront h8 fb pb' nn es (ij es ((x:Nat):Int) (outs[x]'om) row) (order.take k++[((x:Nat):Int)]):=by
    obtain⟨iv,vp2,pv,hV,g,si,so,vv,vx,v1,v2,v3,pp⟩:=hf7;have hVE:hV.next≤h4.next:=om;refine⟨iv,vp2,pv,hV,by rw[u8.ne om]; exact g,hne _ _ si,so,vv,⟨by rw[n8]; exact vx.nx,λc hc=>by rw[u8.ne om]; exact vx.gt _ hc,λc hc=>by rw[u8.ty]; exact vx.ty _ hc⟩,v1,v2,by rw[n8]; exact v3,?_⟩;rcases pp with pp|⟨m,p1,p2,p3⟩
    ·exact .inl pp
    ·exact .inr ⟨m,p1,by rw[u8.ne om]; exact p2,p3⟩
   have htk:order.take (k+1)=order.take k++[((x:Nat):Int)]:=by rw[aG hk,hx]
   refine⟨(pb',ij es ((x:Nat):Int) (outs[x]'om) row,ends.set x (kO ((x:Nat):Int) row),ls.set x gv),⟨by rw[htk]; exact j1,by rw[htk]; exact hf8,u8.get,by simpa using j4,by simpa using j5,λi v l h1 h2=>?_,by simp only; omega,by simp only; omega,?_,om,?_,?_,?_⟩,O7 ei en e4 e7 e3 e6 e30⟩
   ·simp only at h1 h2;by_cases e:x=i
    ·subst e;rw[dY om,aa] at h1 h2;subst h1 h2;refine⟨hne _ _ (Mq om (λ_=>rfl) ig),λb o m c hb=>?_⟩;rcases ig with ⟨rfl,_⟩|⟨b',m',hb',rfl,_,_⟩
     ·cases hb
     ·cases hb; omega
    ·rw[dq e] at h1 h2;exact⟨hne _ _ (hlsl i v l h1 h2),(j6 i v l h1 h2).2⟩
   ·refine jx.trans ⟨by rw[n8]; exact n7,λc hc=>?_,λc hc=>?_⟩
    ·rw[u8.ne om,K7.gt c om (by rintro (e|e)<;>omega)]
    ·rw[u8.ty,K7.ty c om]
   ·rw[u8.ne om,K7.gt _ om (by rintro (e|e)<;>omega)]; exact jP
   ·rw[u8.ne om,K7.gt _ om (by rintro (e|e)<;>omega)]; exact jF
   ·have:=ze (es:=es) (x:=((x:Nat):Int)) (outs:=outs[x]'om) (row:=row);simp only;omega
  ·rw[if_neg hrd] at hq' j1;obtain⟨rfl,x7⟩:=hq';have X7:=jx.trans (x7.mono jx.nx);have gE7:h7.get h4.next=some (.cells ls 1 false):=by rw[x7.gt _ jn]; exact j3
   have wE:bQ h7 h4.next x [.nils]=some (h7.put h4.next (.cells (ls.set x .nils) 1 false)):=eA gE7 om;refine bH (M4 e4 ix @aO wE) ?_;have u8:=Mv (o:=.cells (ls.set x .nils) 1 false) gE7;generalize h7.put h4.next (.cells (ls.set x .nils) 1 false)=h8 at *
   refine ae (ae (aj (M0) ?_));have n7:=x7.nx;have gF8:h8.get (h.next+2)=some (.cells [.int .i64 0,.int .i64 0,.nils] 3 false):=by rw[u8.ne om,x7.gt _ om]; exact jF
   obtain⟨h9,w9,r9,X9,_⟩:=hend h8 3 ((k:Nat):Int) gF8 (X7.trans (u8.ext om));refine db (by simp only[am,aK,simprocAttr,decide_true,decide_false]) (ae (aj (M3 ei e6 w9) ?_));exact br ⟨.tup [.nils,.nils,.agg [.int .i64 3,.int .i64 ((k:Nat):Int),.nils]],(by simp only[rs,rf64,am,aK,simprocAttr,ei,e6,r9]<;>rfl),X9,.inr ⟨⟨hgood,hperm,hol,hout⟩,.inl ⟨k,j1.symm,rfl⟩⟩⟩
 ·rintro⟨pb,row,ends,ls⟩ ts h6 ⟨j1,j2,j3,j4,j5,j6,j7,j8,jx,jn,jP,jF,jl⟩ ⟨e4,e7,e3,e6,e30,-⟩;simp only at e4 e7 e3 e6 e30 j1 j2 j3 j4 j5 j6 j7 j8 jl;rw[mU] at j1;refine ae (bN (bo 4 (M2 e4 e7) rfl (Z2 e4 e7) (M2 e4 e7) (Ko j2 om) λr h7 hq'=>?_));obtain⟨i7,x7⟩:=hq';obtain⟨ic,io⟩:=i7.cells;have X7:=jx.trans (x7.mono jx.nx);have n7:=x7.nx;have gF7:h7.get (h.next+2)=some (.cells [.int .i64 0,.int .i64 0,.nils] 3 false):=by rw[x7.gt _ om]; exact jF
  obtain⟨h8,w8,r8,X8,k8⟩:=hend h7 0 0 gF7 X7;refine bH (M2 e6 w8) ?_;have keep:∀ v:AV,∀ b o m c,v=.sl b o m c→b≠h.next+2→∀ l,SlT h6 v l→SlT h8 v l:=λv b o m c hv hb l s=>s.cong λb' o' m' c' hv'=>by
   rw[hv] at hv';cases hv';rw[k8 b hb,x7.gt _ (s.lt hv)]
  refine br ⟨.tup [.sl h4.next 0 nn nn,r,.agg [.int .i64 0,.int .i64 0,.nils]],(by simp only[rs,rf64,am,aK,simprocAttr,e6,r8]<;>rfl),X8,.inr ⟨⟨hgood,hperm,hol,hout⟩,.inr ⟨ends,row,_,_,j1.symm,rfl,⟨ls,?_,by rw[j4,j5],λi v l h1 h2=>?_⟩,?_⟩⟩⟩
  ·exact Ms (by rw[k8 _ om,x7.gt _ om]; exact j3) j4 (ab _)
  ·obtain⟨s1,s2⟩:=j6 i v l h1 h2;refine s1.cong λb o m c hv=>?_;have:=s2 b o m c hv;rw[k8 b om,x7.gt _ (s1.lt hv)]
  ·exact (Mq om (λ_=>rfl) i7:SlT h7 r row).cong λb o m c hv=>by
    refine k8 b λe=>?_;rcases i7 with ⟨rfl,_⟩|⟨b',m',hb',rfl,_,_⟩
    ·cases hv
    ·cases hv; omega
end Go.Proofs.YtahepnbflofndaaGreatDoor
