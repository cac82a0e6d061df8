/- slices.Grow of nothing, Concat, Min, Reverse (printed by too -/
import Derived.Test.YtmibmlioidpogaaGreatDoorVTAC
set_option linter.all false
namespace Go.Proofs.YtmibmlioidpogaaGreatDoor
open Go.Am
variable {b e:Nat}{h:AH}{n:Int}{v:AV}{vs:List AV}
theorem HF{gb len cap bytes:Nat}{A Z:List AV}{xs:List (List AV)}(hg:h.get gb=some (.cells (A++Z) e false))(hA:A.length=len*e)(hv:Sl h e v xs)(ho:xs.flatten.all AV.one=true)(hc:len+xs.length<=cap)(hz:xs.length*e<=Z.length) :
 ∃h',iJ h e bytes (.sl gb 0 len cap) v=some (.sl gb 0 (len+xs.length) cap,h')/\Upd h h' gb (.cells (A++xs.flatten++Z.drop (xs.length*e)) e false):=by
 obtain⟨s1,s2⟩:=hv.src;by_cases hn:xs.length=0
 .refine⟨h,?_,?_⟩
  .simp only[iJ,s1,ho,if_true,hn,eG]
  .have:xs=[]:=aY.1 hn;subst this;simp only[fk,bW,aK,nP,bQ];exact Upd.refl hg
 .have w:bV h gb (0+len*e) xs.flatten=some (h.put gb (.cells (A++xs.flatten++Z.drop (xs.length*e)) e false)):=by
   rw[eL hg,bL,if_pos (by rw[s2,aC];omega)];congr 3;unfold dH;rw[<-hA,List.take_left',HO,List.drop_of_length_le om,s2]
   .simp
   .rfl
  refine⟨_,?_,Md hg⟩;simp only[iJ,s1,ho,if_true,if_neg hn,if_pos hc,w,aF]
theorem dh{α:Type}{xss:List (List α)}{k:Nat}(hk:k<xss.length):(xss.take (k+1)).flatten=(xss.take k).flatten++xss[k]:=by
 rw[be hk,jR];simp
theorem fM{α:Type}(xss:List (List α))(k:Nat):(xss.take k).flatten.length<=xss.flatten.length:=by
 conv=>rhs;rw[<-cT k xss]
 rw[jR,aC];omega
theorem xI:slV h e .nils none (some (.int .i64 0)) none=some .nils:=rfl
theorem rU{z:List AV}:∀n,(cA z n).length=n*z.length
 |0=>by simp[cA]
 |n+1=>by simp only[cA,aC,rU n,dI];omega
theorem pL{z:List AV}:∀k n,(cA z (k+n)).drop (k*z.length)=cA z n
 |0,n=>by simp
 |k+1,n=>by
   have e1:cA z (k+1+n)=z++cA z (k+n):=by rw[show k+1+n=(k+n)+1 by omega];rfl
   have e2:(k+1)*z.length=z.length+k*z.length:=by rw[dI];omega
   rw[e1,e2,<-LR,ip,pL k n]
theorem GC{N:Nat}(hN:N<2^34):C prg 76 [.nils,.int .i64 (N:Nat)] h λr h'=>(N=0/\r=.nils/\h'=h)\/(0<N/\r=.sl h.next 0 0 N/\h'=h.new (.cells (cA [.int .i64 0] N) 1 false)):=by
 refine Me pf76 ?_;have c1:decide (((N:Nat):Int)<0)=false:=aN om;have w1:IntKind.i64.wrap (0-0)=0:=by decide
 have w2:IntKind.i64.wrap (((N:Nat):Int)-0)=((N:Nat):Int):=by rw[fW om om];omega
 have cp:DV .nils=some (.int .i64 0):=rfl;refine ae (ar (Mi0) ?_);refine ae (ae (ar (Mi0) ?_));refine dQ (I1 c1) (bK ?_);refine ae (ae (ar (Ji3 cp w1 w2) ?_));refine ae (ae (ar (J0) ?_));refine dY (t:=decide (0<N)) (by simp only[am,aD,↓reduceIte,Nat.reduceEqDiff,Int.reduceEq,Nat.reduceAdd,Nat.reduceLeDiff,reduceCtorEq];exact congrArg AV.bool (by simp only[decide_eq_decide];omega)) (λq=>?_) λq=>?_
 .have q:0<N:=bN q;have q0:¬((N:Nat):Int)=0:=om;have az:wW h [.int .i64 0] 8 .nils (.int .i64 (N:Nat))=some (.sl h.next 0 N N,h.new (.cells (cA [.int .i64 0] N) 1 false)):=by
   simp only[wW,if_neg q0];rw[if_pos ⟨om,by unfold bd;omega,by unfold bd;omega⟩];simp
  have g1:(h.new (.cells (cA [.int .i64 0] N) 1 false)).get h.next=some (.cells (cA [.int .i64 0] N) 1 false):=by rw[AH.get_new,if_pos rfl]
  have s1:slV (h.new (.cells (cA [.int .i64 0] N) 1 false)) 1 (.sl h.next 0 N N) none (some (.int .i64 0)) none=some (.sl h.next 0 0 N):=by
   have:=iA (k:=.i64) (show 0<=N by omega);simp only[slV,g1,if_true,qW,this,aF];have h0:bnd (.int .i64 0) N=some 0:=this;rw[h0];simp only[aF];split<;>simp
  refine ar (by simp only[am,aD,simprocAttr,bE,cY,bh,cp,xI,az,s1]<;>rfl) ?_;refine ae (ar (M0) ?_);exact bG ⟨_,(by simp only[rs,rf76,am,aD,simprocAttr]<;>rfl),.inr ⟨q,rfl,rfl⟩⟩
 .have q:¬0<N:=cM q;refine bK (ae (ar (Mi0) ?_));exact bG ⟨_,(by simp only[rs,rf76,am,aD,simprocAttr]<;>rfl),.inl ⟨om,rfl,rfl⟩⟩
theorem oL{xss:List (List (Int))}(hv:Sl h 1 v (vs.map λx=>[x]))(hl:vs.length=xss.length)(hx:∀(i:Nat) (w:AV) (xs:List (Int)),vs[i]?=some w->xss[i]?=some xs->SlI h w xs)(hn:xss.length<2^30)(hs:xss.flatten.length<2^34) :
 C prg 44 [v] h λr h'=>IsSl h' 1 h.next r (xss.flatten.flatMap eI)/\Ext h.next h h':=by
 have el:=hv.len;rw[ah,hl]at el;have hvk:∀(k:Nat) (hk:k<xss.length),∃b p,jS 1 v (.int .i64 (k:Nat))=some (.ptr b p)/\ak h b p 1=some [vs[k]'om]/\b<h.next:=λk hk=>hv.at1 (by rw[aE,ai om];rfl);have hxk:∀(k:Nat) (hk:k<xss.length),SlI h (vs[k]'om) xss[k]:=λk hk=>hx k _ _ (ai _) (ai hk);refine Me pf44 ?_;refine ae (ar (Mi0) ?_);refine ae (ar (M0) ?_);refine ae (ae (ar (Mi1 el) ?_));refine fj (α:=Unit) (N:=xss.length) (λk _=>[(0,v),(9,v),(3,.int .i64 ((xss.take k).flatten.length:Nat))]) (λ_ _ h'=>h'=h) () (λ_ _=>rfl) om (by simp only[cm,cI,am,aD,↓reduceIte,Nat.reduceEqDiff,Int.reduceEq,Nat.reduceAdd,Nat.reduceLeDiff,reduceCtorEq,bE,fK,fk,dj]) rfl ?_ ?_
 .rintro k _ ts h1 hk rfl ⟨ei,en,e0,e9,e3,-⟩;simp only at ei en e0 e9 e3;obtain⟨b1,p1,a1,r1,_⟩:=hvk k hk;have lk:=(hxk k hk).len;rw[ah]at lk;have hle:=fM xss (k+1);rw[dh hk,aC]at hle;have w1:IntKind.i64.wrap ((((xss.take k).flatten.length:Nat):Int)+((xss[k].length:Nat):Int))=(((xss.take (k+1)).flatten.length:Nat):Int):=by
   rw[fW om om,dh hk,aC];omega
  have c1:decide ((((xss.take (k+1)).flatten.length:Nat):Int)<0)=false:=aN om;refine ae (ar (M4 e9 ei a1 r1) ?_);refine ae (ar (M3 e3 lk w1) ?_);refine ae (ar (M1 c1) ?_);refine dQ (I0) (bK ⟨(),rfl,O4 ei en e0 e9⟩)
 .rintro _ ts h1 rfl ⟨e0,e9,e3,-⟩;simp only at e0 e9 e3;rw[da]at e3;refine ae (bM (aV 1 (M1 e3) rfl (Z1 e3) (M1 e3) (GC hs) λg h2 hq=>?_));refine bF (M0) ?_;refine ae (ae (ar (M2 e0 el) ?_));rcases hq with⟨hz,rfl,rfl⟩|⟨hz,rfl,rfl⟩
  .refine fj (α:=Unit) (N:=xss.length) (λ_ _=>[(25,v),(6,.nils)]) (λ_ _ h'=>h'=h2) () (λ_ _=>rfl) om (O1 e0) rfl ?_ ?_
   .rintro k _ ts h1 hk rfl ⟨ei,en,e25,e6,-⟩;simp only at ei en e25 e6;obtain⟨b1,p1,a1,r1,_⟩:=hvk k hk;have hle:=fM xss (k+1);rw[dh hk,aC]at hle;have hk0:xss[k]=[]:=aY.1 om;have s1:=(hxk k hk).src.1;rw[hk0]at s1;have ap:iJ h1 1 8 .nils (vs[k]'om)=some (.nils,h1):=by simp[iJ,s1]
    refine ae (ar (M4 e25 ei a1 r1) ?_);refine ar (M2 e6 ap) ?_;exact⟨(),rfl,O3 ei en e25⟩
   .rintro _ ts h1 rfl ⟨e25,e6,-⟩;simp only at e25 e6;refine ae (ar (M1 e6) ?_);exact bG ⟨_,(by simp only[rs,rf44,am,aD,simprocAttr]<;>rfl),.inl ⟨rfl,by rw[aY.1 hz];rfl⟩,Mc⟩
  .have g2:(h1.new (.cells (cA [.int .i64 0] xss.flatten.length) 1 false)).get h1.next=some (.cells (cA [.int .i64 0] xss.flatten.length) 1 false):=by rw[AH.get_new,if_pos rfl]
   have x2:Ext h1.next h1 (h1.new (.cells (cA [.int .i64 0] xss.flatten.length) 1 false)):=Mb (ab _);generalize h1.new (.cells (cA [.int .i64 0] xss.flatten.length) 1 false)=h2 at *
   refine fj (α:=Unit) (N:=xss.length) (λk _=>[(25,v),(6,.sl h1.next 0 (xss.take k).flatten.length xss.flatten.length)])
    (λk _ h'=>h'.get h1.next=some (.cells ((xss.take k).flatten.flatMap eI++cA [.int .i64 0] (xss.flatten.length-(xss.take k).flatten.length)) 1 false)/\Ext h1.next h1 h') () (λ_ _=>rfl) om (by simp only[cm,cI,am,aD,↓reduceIte,Nat.reduceEqDiff,Int.reduceEq,Nat.reduceAdd,Nat.reduceLeDiff,reduceCtorEq,e0,fK,fk,aK]) ⟨g2,x2⟩ ?_ ?_
   .rintro k _ ts h3 hk ⟨j1,j2⟩ ⟨ei,en,e25,e6,-⟩;simp only at ei en e25 e6;obtain⟨b1,p1,a1,r1,hb⟩:=hvk k hk;have hle:=fM xss (k+1);rw[dh hk,aC]at hle;have fl:((xss.take k).flatten.flatMap eI).length=(xss.take k).flatten.length*1:=fQ (f:=eI) (e:=1) (λ_=>rfl) _;obtain⟨h4,p4,u4⟩:=HF (bytes:=8) (cap:=xss.flatten.length) j1 fl ((hxk k hk).ext j2 (ab _)) Fu (by rw[ah];omega) (by rw[ah,rU];simp only[aq,aK];omega);have ef:(xss.take k).flatten.length+xss[k].length=(xss.take (k+1)).flatten.length:=by rw[dh hk,aC]
    rw[ah,ef]at p4;have e2:(xss.take k).flatten.flatMap eI++(xss[k].map eI).flatten++(cA [.int .i64 0] (xss.flatten.length-(xss.take k).flatten.length)).drop ((xss[k].map eI).length*1)=(xss.take (k+1)).flatten.flatMap eI++cA [.int .i64 0] (xss.flatten.length-(xss.take (k+1)).flatten.length):=by
     rw[dh hk,dD,<-HN,ah,aC];congr 1;rw[show xss.flatten.length-(xss.take k).flatten.length=xss[k].length+(xss.flatten.length-((xss.take k).flatten.length+xss[k].length)) by omega];exact pL (z:=[.int .i64 0]) _ _
    rw[e2]at u4;have r1':ak h3 b1 p1 1=some [vs[k]'om]:=by rw[cS (j2.gt _ hb)];exact r1
    refine ae (ar (M4 e25 ei a1 r1') ?_);refine ar (M2 e6 p4) ?_;exact⟨(),⟨u4.get,j2.trans (u4.ext (ab _))⟩,O3 ei en e25⟩
   .rintro _ ts h3 ⟨j1,j2⟩ ⟨e25,e6,-⟩;simp only at e25 e6;rw[da]at j1 e6;refine ae (ar (M1 e6) ?_);refine bG ⟨_,(by simp only[rs,rf44,am,aD,simprocAttr]<;>rfl),.inr ⟨h1.next,xss.flatten.length,ab _,rfl,?_,fQ (f:=eI) (e:=1) (λ_=>rfl) _⟩,j2⟩;rw[j1,eF];simp[cA]
theorem GB{N:Nat}(hN:N<2^34):C prg 89 [.nils,.int .i64 (N:Nat)] h λr h'=>(N=0/\r=.nils/\h'=h)\/(0<N/\r=.sl h.next 0 0 N/\h'=h.new (.cells (cA [.int .i64 0,.int .i64 0,.int .i64 0] N) 3 false)):=by
 refine Me pf89 ?_;have c1:decide (((N:Nat):Int)<0)=false:=aN om;have w1:IntKind.i64.wrap (0-0)=0:=by decide
 have w2:IntKind.i64.wrap (((N:Nat):Int)-0)=((N:Nat):Int):=by rw[fW om om];omega
 have cp:DV .nils=some (.int .i64 0):=rfl;refine ae (ar (Mi0) ?_);refine ae (ae (ar (Mi0) ?_));refine dQ (I1 c1) (bK ?_);refine ae (ae (ar (Ji3 cp w1 w2) ?_));refine ae (ae (ar (J0) ?_));refine dY (t:=decide (0<N)) (by simp only[am,aD,↓reduceIte,Nat.reduceEqDiff,Int.reduceEq,Nat.reduceAdd,Nat.reduceLeDiff,reduceCtorEq];exact congrArg AV.bool (by simp only[decide_eq_decide];omega)) (λq=>?_) λq=>?_
 .have q:0<N:=bN q;have q0:¬((N:Nat):Int)=0:=om;have az:wW h [.int .i64 0,.int .i64 0,.int .i64 0] 24 .nils (.int .i64 (N:Nat))=some (.sl h.next 0 N N,h.new (.cells (cA [.int .i64 0,.int .i64 0,.int .i64 0] N) 3 false)):=by
   simp only[wW,if_neg q0];rw[if_pos ⟨om,by unfold bd;omega,by unfold bd;omega⟩];simp
  have g1:(h.new (.cells (cA [.int .i64 0,.int .i64 0,.int .i64 0] N) 3 false)).get h.next=some (.cells (cA [.int .i64 0,.int .i64 0,.int .i64 0] N) 3 false):=by rw[AH.get_new,if_pos rfl]
  have s1:slV (h.new (.cells (cA [.int .i64 0,.int .i64 0,.int .i64 0] N) 3 false)) 3 (.sl h.next 0 N N) none (some (.int .i64 0)) none=some (.sl h.next 0 0 N):=by
   have:=iA (k:=.i64) (show 0<=N by omega);simp only[slV,g1,if_true,qW,this,aF];have h0:bnd (.int .i64 0) N=some 0:=this;rw[h0];simp only[aF];split<;>simp
  refine ar (by simp only[am,aD,simprocAttr,bE,cY,bh,cp,xI,az,s1]<;>rfl) ?_;refine ae (ar (M0) ?_);exact bG ⟨_,(by simp only[rs,rf89,am,aD,simprocAttr]<;>rfl),.inr ⟨q,rfl,rfl⟩⟩
 .have q:¬0<N:=cM q;refine bK (ae (ar (Mi0) ?_));exact bG ⟨_,(by simp only[rs,rf89,am,aD,simprocAttr]<;>rfl),.inl ⟨om,rfl,rfl⟩⟩
theorem Ax{xss:List (List (Int×Int×Int))}(hv:Sl h 1 v (vs.map λx=>[x]))(hl:vs.length=xss.length)(hx:∀(i:Nat) (w:AV) (xs:List (Int×Int×Int)),vs[i]?=some w->xss[i]?=some xs->SlT h w xs)(hn:xss.length<2^30)(hs:xss.flatten.length<2^34) :
 C prg 58 [v] h λr h'=>IsSl h' 3 h.next r (xss.flatten.flatMap eT)/\Ext h.next h h':=by
 have el:=hv.len;rw[ah,hl]at el;have hvk:∀(k:Nat) (hk:k<xss.length),∃b p,jS 1 v (.int .i64 (k:Nat))=some (.ptr b p)/\ak h b p 1=some [vs[k]'om]/\b<h.next:=λk hk=>hv.at1 (by rw[aE,ai om];rfl);have hxk:∀(k:Nat) (hk:k<xss.length),SlT h (vs[k]'om) xss[k]:=λk hk=>hx k _ _ (ai _) (ai hk);refine Me pf58 ?_;refine ae (ar (Mi0) ?_);refine ae (ar (M0) ?_);refine ae (ae (ar (Mi1 el) ?_));refine fj (α:=Unit) (N:=xss.length) (λk _=>[(0,v),(9,v),(3,.int .i64 ((xss.take k).flatten.length:Nat))]) (λ_ _ h'=>h'=h) () (λ_ _=>rfl) om (by simp only[cm,cI,am,aD,↓reduceIte,Nat.reduceEqDiff,Int.reduceEq,Nat.reduceAdd,Nat.reduceLeDiff,reduceCtorEq,bE,fK,fk,dj]) rfl ?_ ?_
 .rintro k _ ts h1 hk rfl ⟨ei,en,e0,e9,e3,-⟩;simp only at ei en e0 e9 e3;obtain⟨b1,p1,a1,r1,_⟩:=hvk k hk;have lk:=(hxk k hk).len;rw[ah]at lk;have hle:=fM xss (k+1);rw[dh hk,aC]at hle;have w1:IntKind.i64.wrap ((((xss.take k).flatten.length:Nat):Int)+((xss[k].length:Nat):Int))=(((xss.take (k+1)).flatten.length:Nat):Int):=by
   rw[fW om om,dh hk,aC];omega
  have c1:decide ((((xss.take (k+1)).flatten.length:Nat):Int)<0)=false:=aN om;refine ae (ar (M4 e9 ei a1 r1) ?_);refine ae (ar (M3 e3 lk w1) ?_);refine ae (ar (M1 c1) ?_);refine dQ (I0) (bK ⟨(),rfl,O4 ei en e0 e9⟩)
 .rintro _ ts h1 rfl ⟨e0,e9,e3,-⟩;simp only at e0 e9 e3;rw[da]at e3;refine ae (bM (aV 1 (M1 e3) rfl (Z1 e3) (M1 e3) (GB hs) λg h2 hq=>?_));refine bF (M0) ?_;refine ae (ae (ar (M2 e0 el) ?_));rcases hq with⟨hz,rfl,rfl⟩|⟨hz,rfl,rfl⟩
  .refine fj (α:=Unit) (N:=xss.length) (λ_ _=>[(25,v),(6,.nils)]) (λ_ _ h'=>h'=h2) () (λ_ _=>rfl) om (O1 e0) rfl ?_ ?_
   .rintro k _ ts h1 hk rfl ⟨ei,en,e25,e6,-⟩;simp only at ei en e25 e6;obtain⟨b1,p1,a1,r1,_⟩:=hvk k hk;have hle:=fM xss (k+1);rw[dh hk,aC]at hle;have hk0:xss[k]=[]:=aY.1 om;have s1:=(hxk k hk).src.1;rw[hk0]at s1;have ap:iJ h1 3 24 .nils (vs[k]'om)=some (.nils,h1):=by simp[iJ,s1]
    refine ae (ar (M4 e25 ei a1 r1) ?_);refine ar (M2 e6 ap) ?_;exact⟨(),rfl,O3 ei en e25⟩
   .rintro _ ts h1 rfl ⟨e25,e6,-⟩;simp only at e25 e6;refine ae (ar (M1 e6) ?_);exact bG ⟨_,(by simp only[rs,rf58,am,aD,simprocAttr]<;>rfl),.inl ⟨rfl,by rw[aY.1 hz];rfl⟩,Mc⟩
  .have g2:(h1.new (.cells (cA [.int .i64 0,.int .i64 0,.int .i64 0] xss.flatten.length) 3 false)).get h1.next=some (.cells (cA [.int .i64 0,.int .i64 0,.int .i64 0] xss.flatten.length) 3 false):=by rw[AH.get_new,if_pos rfl]
   have x2:Ext h1.next h1 (h1.new (.cells (cA [.int .i64 0,.int .i64 0,.int .i64 0] xss.flatten.length) 3 false)):=Mb (ab _);generalize h1.new (.cells (cA [.int .i64 0,.int .i64 0,.int .i64 0] xss.flatten.length) 3 false)=h2 at *
   refine fj (α:=Unit) (N:=xss.length) (λk _=>[(25,v),(6,.sl h1.next 0 (xss.take k).flatten.length xss.flatten.length)])
    (λk _ h'=>h'.get h1.next=some (.cells ((xss.take k).flatten.flatMap eT++cA [.int .i64 0,.int .i64 0,.int .i64 0] (xss.flatten.length-(xss.take k).flatten.length)) 3 false)/\Ext h1.next h1 h') () (λ_ _=>rfl) om (by simp only[cm,cI,am,aD,↓reduceIte,Nat.reduceEqDiff,Int.reduceEq,Nat.reduceAdd,Nat.reduceLeDiff,reduceCtorEq,e0,fK,fk,aK]) ⟨g2,x2⟩ ?_ ?_
   .rintro k _ ts h3 hk ⟨j1,j2⟩ ⟨ei,en,e25,e6,-⟩;simp only at ei en e25 e6;obtain⟨b1,p1,a1,r1,hb⟩:=hvk k hk;have hle:=fM xss (k+1);rw[dh hk,aC]at hle;have fl:((xss.take k).flatten.flatMap eT).length=(xss.take k).flatten.length*3:=fQ (f:=eT) (e:=3) (λ_=>rfl) _;obtain⟨h4,p4,u4⟩:=HF (bytes:=24) (cap:=xss.flatten.length) j1 fl ((hxk k hk).ext j2 (ab _)) Ft (by rw[ah];omega) (by rw[ah,rU];simp only[aq,aK];omega);have ef:(xss.take k).flatten.length+xss[k].length=(xss.take (k+1)).flatten.length:=by rw[dh hk,aC]
    rw[ah,ef]at p4;have e2:(xss.take k).flatten.flatMap eT++(xss[k].map eT).flatten++(cA [.int .i64 0,.int .i64 0,.int .i64 0] (xss.flatten.length-(xss.take k).flatten.length)).drop ((xss[k].map eT).length*3)=(xss.take (k+1)).flatten.flatMap eT++cA [.int .i64 0,.int .i64 0,.int .i64 0] (xss.flatten.length-(xss.take (k+1)).flatten.length):=by
     rw[dh hk,dD,<-HN,ah,aC];congr 1;rw[show xss.flatten.length-(xss.take k).flatten.length=xss[k].length+(xss.flatten.length-((xss.take k).flatten.length+xss[k].length)) by omega];exact pL (z:=[.int .i64 0,.int .i64 0,.int .i64 0]) _ _
    rw[e2]at u4;have r1':ak h3 b1 p1 1=some [vs[k]'om]:=by rw[cS (j2.gt _ hb)];exact r1
    refine ae (ar (M4 e25 ei a1 r1') ?_);refine ar (M2 e6 p4) ?_;exact⟨(),⟨u4.get,j2.trans (u4.ext (ab _))⟩,O3 ei en e25⟩
   .rintro _ ts h3 ⟨j1,j2⟩ ⟨e25,e6,-⟩;simp only at e25 e6;rw[da]at j1 e6;refine ae (ar (M1 e6) ?_);refine bG ⟨_,(by simp only[rs,rf58,am,aD,simprocAttr]<;>rfl),.inr ⟨h1.next,xss.flatten.length,ab _,rfl,?_,fQ (f:=eT) (e:=3) (λ_=>rfl) _⟩,j2⟩;rw[j1,eF];simp[cA]
open Go.Am
def okE(v:Int)(e:Int×Int):Bool:=decide (0<=e.1)&&decide (0<=e.2)&&decide (e.1<v)&&decide (e.2<v)
def lW(v:Int)(es:List (Int×Int)):Bool:=decide (1<=v)&&decide (v<=64)&&decide (es.length<=128)&&es.all (okE v)
def yh(v x:Int):Bool:=decide (x<0)||decide (v<=x)
theorem yG{x:Int}(hr:ak h b 0 1=some [.int .i64 n]):C prg 54 [.int .i64 x,.ptr b 0] h λr h'=>r=.bool (yh n x)/\h'=h:=by
 refine Me pf54 ?_;refine ae (ar (Mi0) ?_);by_cases q:x<0
 .have c1:decide (x<0)=true:=bj q;refine ae (ar (Mi1 c1) ?_);exact bG ⟨.bool true,(by simp only[rs,rf54,am,aD,simprocAttr,c1]<;>rfl),by simp[yh,q],rfl⟩
 .have c1:decide (x<0)=false:=aN q;refine ae (ar (Mi2 c1 hr) ?_);exact bG ⟨.bool (decide (n<=x)),(by simp only[rs,rf54,am,aD,simprocAttr,c1]<;>rfl),by simp[yh,q],rfl⟩
theorem GE{s:Nat}{x:Int×Int}(hr:ak h b 0 1=some [.int .i64 n])(hs:ak h s 0 1=some [.fn 54 [.ptr b 0]])(hb:b<h.next)(hsn:s<h.next) :
 C prg 56 ([.agg (eE x)]++[.ptr s 0]) h λr h'=>r=.bool (!okE n x)/\Ext h.next h h':=by
 refine Me pf56 ?_;have fin:(!okE n x)=(yh n x.1||yh n x.2):=by
  obtain⟨x1,x2⟩:=x;simp only[okE,yh];by_cases a1:x1<0<;>by_cases a2:x2<0<;>by_cases a3:n<=x1<;>by_cases a4:n<=x2<;>simp[a1,a2,a3,a4]<;>omega
 rw[fin];refine ae (ar (by simp only[am,aD,simprocAttr,bE,eE]<;>rfl) ?_);have ex:Ext h.next h (h.new (.cells [.int .i64 x.1,.int .i64 x.2] 2 false)):=Mb (ab _);have g:(h.new (.cells [.int .i64 x.1,.int .i64 x.2] 2 false)).get h.next=some (.cells [.int .i64 x.1,.int .i64 x.2] 2 false):=by rw[AH.get_new,if_pos rfl]
 generalize h.new (.cells [.int .i64 x.1,.int .i64 x.2] 2 false)=h1 at *
 have r1:ak h1 h.next 0 1=some [.int .i64 x.1]:=by rw[aU g];rfl
 have r2:ak h1 h.next 1 1=some [.int .i64 x.2]:=by rw[aU g];rfl
 have hr1:ak h1 b 0 1=some [.int .i64 n]:=by rw[<-hr];exact cS (ex.gt b hb)
 have hs1:ak h1 s 0 1=some [.fn 54 [.ptr b 0]]:=by rw[<-hs];exact cS (ex.gt s hsn)
 refine ae (bM (jK 3 (by simp only[am,aD,simprocAttr,bE,eE,hs1,r1]<;>rfl) rfl (by simp only[am,aD,simprocAttr,bE,eE,hs1,r1]) (by simp only[am,aD,simprocAttr,bE,eE,hs1,r1]<;>rfl) (by simp only[am,aD,simprocAttr,bE,eE,hs1,r1]<;>rfl) (yG (x:=x.1) hr1) λr h2 hq=>?_));obtain⟨rfl,rfl⟩:=hq;cases q:yh n x.1 with
 |true =>
   refine G.nocallv 4 (M0) rfl (Z0) ?_;refine bF (M0) ?_;exact bG ⟨.bool true,(by simp only[rs,rf56,am,aD,simprocAttr]<;>rfl),rfl,ex⟩
 |false =>
   refine jK 4 (by simp only[am,aD,simprocAttr,bE,eE,hs1,r2]<;>rfl) rfl (by simp only[am,aD,simprocAttr,bE,eE,hs1,r2]) (by simp only[am,aD,simprocAttr,bE,eE,hs1,r2]<;>rfl) (by simp only[am,aD,simprocAttr,bE,eE,hs1,r2]<;>rfl) (yG (x:=x.2) hr1) λr h3 hq=>?_;obtain⟨rfl,rfl⟩:=hq;refine bF (M0) ?_;exact bG ⟨.bool (yh n x.2),(by simp only[rs,rf56,am,aD,simprocAttr]<;>rfl),rfl,ex⟩
theorem rB{ev:AV}{es:List (Int×Int)}(he:SlE h ev es)(hl:es.length<2^40):C prg 23 [.agg [.int .i64 n,ev]] h λr h'=>r=.bool (lW n es)/\Ext h.next h h':=by
 refine Me pf23 ?_;obtain⟨ec,eo⟩:=he.cells;have hlen:=he.len;rw[ah]at hlen;refine ae (ar (Mi0) ?_);have ex0:Ext h.next h (h.new (.cells [.int .i64 n,ev] 2 false)):=Mb (ab _);have g0:(h.new (.cells [.int .i64 n,ev] 2 false)).get h.next=some (.cells [.int .i64 n,ev] 2 false):=by rw[AH.get_new,if_pos rfl]
 have n0:(h.new (.cells [.int .i64 n,ev] 2 false)).next=h.next+1:=rfl;generalize h.new (.cells [.int .i64 n,ev] 2 false)=h0 at *
 have gN:(h0.new (.cells [.nilf] 1 false)).get h0.next=some (.cells [.nilf] 1 false):=by rw[AH.get_new,if_pos rfl]
 have w1:bV (h0.new (.cells [.nilf] 1 false)) h0.next 0 [.fn 54 [.ptr h.next 0]]=some ((h0.new (.cells [.nilf] 1 false)).put h0.next (.cells [.fn 54 [.ptr h.next 0]] 1 false)):=by rw[eL gN];rfl
 have u1:Upd (h0.new (.cells [.nilf] 1 false)) ((h0.new (.cells [.nilf] 1 false)).put h0.next (.cells [.fn 54 [.ptr h.next 0]] 1 false)) h0.next (.cells [.fn 54 [.ptr h.next 0]] 1 false):=Md gN;refine ae (ar (Mi1 w1) ?_);have ex1:Ext h0.next h0 ((h0.new (.cells [.nilf] 1 false)).put h0.next (.cells [.fn 54 [.ptr h.next 0]] 1 false)):=(Mb (ab _)).trans (u1.ext (ab _));have n1:((h0.new (.cells [.nilf] 1 false)).put h0.next (.cells [.fn 54 [.ptr h.next 0]] 1 false)).next=h0.next+1:=rfl;have g1:=u1.get;generalize (h0.new (.cells [.nilf] 1 false)).put h0.next (.cells [.fn 54 [.ptr h.next 0]] 1 false)=h1 at *
 clear gN w1 u1;have g0':h1.get h.next=some (.cells [.int .i64 n,ev] 2 false):=by rw[ex1.gt _ om];exact g0
 have r1:ak h1 h.next 0 1=some [.int .i64 n]:=by rw[aU g0'];rfl
 have r2:ak h1 h.next 1 1=some [ev]:=by rw[aU g0'];rfl
 have r3:ak h1 h0.next 0 1=some [.fn 54 [.ptr h.next 0]]:=by rw[aU g1];rfl
 have ex:Ext h.next h h1:=ex0.trans (ex1.mono om);have he1:=he.ext ex (ab _);by_cases q1:0<n
 case neg =>
  have c1:decide (0<n)=false:=aN q1;refine ae (bM (ja 18 (Mi2 r1 c1) rfl (Z1 c1) ?_));refine bF (M0) ?_;exact bG ⟨.bool false,(by simp only[rs,rf23,am,aD,simprocAttr]<;>rfl),by simp[lW];omega,ex⟩
 have c1:decide (0<n)=true:=bj q1;by_cases q2:n<=64
 case neg =>
  have c2:decide (n<=64)=false:=aN q2;refine ae (bM (ja 18 (Mi3 r1 c1 c2) rfl (Z0) ?_));refine bF (M0) ?_;exact bG ⟨.bool false,(by simp only[rs,rf23,am,aD,simprocAttr]<;>rfl),by simp[lW,q2],ex⟩
 have c2:decide (n<=64)=true:=bj q2;by_cases q3:es.length<=128
 case neg =>
  have c3:decide (((es.length:Nat):Int)<=128)=false:=aN om;refine ae (bM (ja 18 (Mi6 r1 r2 hlen c1 c2 c3) rfl (Z0) ?_));refine bF (M0) ?_;exact bG ⟨.bool false,(by simp only[rs,rf23,am,aD,simprocAttr]<;>rfl),by simp[lW,q3],ex⟩
 have c3:decide (((es.length:Nat):Int)<=128)=true:=bj om
 have hcf:∀x∈es,∀h',Ext h1.next h1 h'->C prg 56 ([.agg (eE x)]++[.ptr h0.next 0]) h' λr h''=>r=.bool (!okE n x)/\Ext h'.next h' h'':=λx _ h' hx =>
  GE (by rw[<-r1];exact cS (hx.gt _ om)) (by rw[<-r3];exact cS (hx.gt _ om)) (by have:=hx.nx;omega) (by have:=hx.nx;omega)
 refine ae (bM (aV 18 (Mi6 r1 r2 hlen c1 c2 c3) rfl (Zi6 r1 r2 hlen c1 c2 c3) (Mi6 r1 r2 hlen c1 c2 c3) (uV he1 hl hcf) λr h2 hq=>?_));obtain⟨rfl,ex2⟩:=hq;refine bF (M0) ?_;refine bG ⟨_,(by simp only[rs,rf23,am,aD,simprocAttr]<;>rfl),?_,ex.trans (ex2.mono ex.nx)⟩;have c4:decide (1<=n)=true:=bj om;have c5:(!es.any λx=>!okE n x)=es.all (okE n):=by
  rw[List.not_any_eq_all_not];simp
 simp only[lW,c4,c2,q3,decide_true,zr,c5]
end Go.Proofs.YtmibmlioidpogaaGreatDoor
