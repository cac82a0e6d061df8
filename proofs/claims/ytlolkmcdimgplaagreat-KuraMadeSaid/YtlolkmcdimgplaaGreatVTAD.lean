/- slices.DeleteFunc of ints; slices.Sort of ints by the kit's -/
import Derived.Test.YtlolkmcdimgplaaGreatVTAC
set_option linter.all false
namespace Go.Proofs.YtlolkmcdimgplaaGreat
open Go.Am
variable {P:Int->Bool}{b e i lo:Nat}{caps:List AV}{h:AH}{k:FuncId}{v:AV}{xs:List Int}
theorem sd{α:Type}{f:α->List AV}{e:Nat}(hf:∀x,(f x).length=e):∀(xs:List α) (i:Nat) (x:α),i<xs.length->dD (xs.flatMap f) (i*e) (f x)=(xs.set i x).flatMap f
 |[],i,x,h=>absurd h (gY _)
 |y::r,0,x,h=>by
   simp only[dD,lY,eZ,bt,cq,bm,List.set_cons_zero,hf];rw[List.drop_left' (hf y)]
 |y::r,i+1,x,h=>by
   have ih:=sd hf r i x (Nat.lt_of_succ_lt_succ h);simp only[dD,hf]at ih;simp only[dD,bm,Ct,hf];rw[<-ih];have e1:(i+1)*e=(f y).length+i*e:=by rw[hf,cT];omega
   rw[e1,List.take_length_add_append,gF,List.drop_length_add_append];simp only[bO]
theorem Ju{α:Type}{f:α->List AV}(hf:∀x,(f x).length=e){xs:List α}{x:α}(hg:h.get b=some (.cells (xs.flatMap f) e false))(hi:i<xs.length) :
 cj h b (i*e) (f x)=some (h.put b (.cells ((xs.set i x).flatMap f) e false)):=by
 have hl:=dN hf xs;rw[ez hg,if_pos (by
  rw[hf,hl];have:(i+1)*e<=xs.length*e:=fX e om;rw[cT,nQ]at this;exact this),sd hf xs i x hi]
theorem uz{α:Type}(P:α->Bool):∀(xs:List α) (i:Nat),(iB P xs i=-1/\∀x∈xs,P x=false)\/∃a y b,xs=a++y::b/\(∀x∈a,P x=false)/\P y=true/\iB P xs i=((i+a.length:Nat):Int)
 |[],i=>.inl ⟨rfl,λx h=>by cases h⟩
 |x::r,i=>by
   simp only[iB];cases hp:P x with
   |true=>exact .inr ⟨[],x,r,rfl,(λy h=>by cases h),hp,by simp⟩
   |false =>
     simp only[bC,if_false];rcases uz P r (i+1)with⟨h1,h2⟩|⟨a,y,b,rfl,h2,h3,h4⟩
     .refine .inl ⟨h1,λy hy=>?_⟩;rcases ao.1 hy with rfl|hy
      .exact hp
      .exact h2 y hy
     .refine .inr ⟨x::a,y,b,rfl,λz hz=>?_,h3,by rw[h4,ar];congr 1;omega⟩;rcases ao.1 hz with rfl|hz
      .exact hp
      .exact h2 z hz
theorem zS{α:Type}{P:α->Bool}{xs:List α}(h:∀x∈xs,P x=false):xs.filter (λx=>!P x)=xs:=pn.2 λx hx=>by rw[h x hx];rfl
theorem It{α:Type}{P:α->Bool}{xs ys:List α}{j:Nat}(hl:ys.length=xs.length)(hij:i<j)(hj:j<xs.length)(ht:ys.take i=(xs.take j).filter λx=>!P x)(hd:ys.drop j=xs.drop j) :
 ∃hy:j<ys.length,ys[j]=xs[j]/\ys.drop (j+1)=xs.drop (j+1)/\(P xs[j]=true->ys.take i=(xs.take (j+1)).filter λx=>!P x) /\
   (P xs[j]=false->(ys.set i xs[j]).take (i+1)=(xs.take (j+1)).filter (λx=>!P x)/\(ys.set i xs[j]).drop (j+1)=xs.drop (j+1)):=by
 have hy:j<ys.length:=om;rw[cn hy,cn hj,fh]at hd;obtain⟨h1,h2⟩:=hd;refine⟨hy,h1,h2,λq=>?_,λq=>⟨?_,?_⟩⟩
 .rw[bu hj,eL,<-ht];simp[q]
 .rw[bu hj,eL,<-ht];rw[bu (by rw[dh];omega),List.take_set_of_le om,List.getElem_set_self];simp[q]
 .rw[List.drop_set_of_lt om];exact h2
theorem zc{α:Type}{f:α->List AV}(he:0<e){z:α}(hf:∀x,(f x).length=e)(hone:(f z).all AV.one=true){m:Nat}{xs:List α}(hg:h.get b=some (.cells (xs.flatMap f) e false))(hm:xs.length=m)(hi:i<m) :
 ∃(h':AH) (ys:List α),zd h (f z) (.sl b (i*e) (m-i) (m-i))=some (.un,h')/\Upd h h' b (.cells (ys.flatMap f) e false)/\ys.length=m/\ys.take i=xs.take i:=by
 have hr:dA (f z) (m-i)=(List.replicate (m-i) z).flatMap f:=by
  generalize m-i=k;induction k with
  |zero=>rfl
  |succ k ih=>rw[List.replicate_succ,bm,<-ih];rfl
 have hl:=dN hf xs;have hl2:=dN hf (List.replicate (m-i) z);rw[vB]at hl2;have hall:(dA (f z) (m-i)).all AV.one=true:=by
  rw[hr,bZ];intro x hx;obtain⟨y,hy,hx⟩:=bH.1 hx;rw[(List.mem_replicate.1 hy).2]at hx;exact bZ.1 hone x hx
 have hle:i*e+(m-i)*e=m*e:=by rw[<-cT];congr 1;omega
 refine⟨h.put b (.cells ((xs.take i++List.replicate (m-i) z).flatMap f) e false),xs.take i++List.replicate (m-i) z,?_,Nv hg,by simp;omega,by rw[List.take_append_of_le_length (by rw[bK];omega),qd,Nat.min_self]⟩;unfold zd;simp only;rw[if_neg om,if_pos hall,ez hg,if_pos (by rw[hr,hl2,hl,hm];omega),aC];congr 3;simp only[dD];rw[hr,hl2,hle,cL (by rw[hl,hm];omega),bV,bL];congr 2;have e1:(xs.take i++xs.drop i).flatMap f=xs.flatMap f:=by rw[cm]
 rw[<-e1,bL,jj (by rw[dN hf,bK];congr 1;omega)]
set_option maxHeartbeats 1000000 in
theorem Au{f:FuncId}(hv:IsSl h 1 lo v (xs.flatMap eI))(hlo:lo<=h.next)(hl34:xs.length<2^30)
 (hf:∀x∈xs,∀h',Ext lo h h'->C prg f ([.int .i64 x]++caps) h' λr h''=>r=.bool (P x)/\Ext h'.next h' h'') :
 C prg 26 [v,.fn f caps] h λr h'=>Sl h' 1 r ((xs.filter λx=>!P x).map eI)/\Ext lo h h'/\∀b o n c,r=.sl b o n c->lo<=b:=by
 have hs:=Nq (f:=eI) (e:=1) om (λ_=>rfl) hv;obtain⟨vc,vo⟩:=hs.cells;have hvb:∀b o n c,v=.sl b o n c->lo<=b:=λb o n c e=>by
  rcases hv with⟨h1,_⟩|⟨b',n',h1,h2,_⟩
  .rw[h1]at e;cases e
  .rw[h2]at e;cases e;exact h1
 refine Ny pf26 ?_;refine ai (aD (Mi0) ?_);have hidx:=HW (h:=h) (v:=v) (xs:=xs) (P:=P) (k:=f) (caps:=caps) hs om λx hx h' x'=>hf x hx h' (x'.mono hlo);refine ai (bS (bE 2 (Mi0) rfl (Zi0) (Mi0) (hidx) λr h1 hq=>?_));obtain⟨rfl,x1⟩:=hq;refine bM (M0) ?_;have X1:Ext lo h h1:=x1.mono hlo;have n1:=x1.nx;have hs1:=hs.ext x1 (ab _);rcases uz P xs 0 with⟨q1,q2⟩|⟨a,y,b',rfl,q2,q3,q4⟩
 .rw[q1];refine ai (ai (aD (M1 @decide_true) ?_));refine dv (Z0) (ai (aD (Mi0) ?_));exact bU ⟨v,(by simp only[rs,rf26,am,aI,simprocAttr,vc]<;>rfl),by rw[zS q2];exact hs1,X1,hvb⟩
 rw[q4,cq];have c1:decide (((a.length:Nat):Int)=-1)=false:=aX om;have w1:IntKind.i64.wrap (((a.length:Nat):Int)+1)=((a.length+1:Nat):Int):=fx (by rw[aB]at hl34;omega) (by rw[aB]at hl34;omega);refine ai (ai (aD (M1 c1) ?_));refine dR (by simp only[am,aI,simprocAttr,decide_false]) (bQ ?_);refine ai (ai (aD (M1 w1) ?_));have hxl:(a++y::b').length=a.length+1+b'.length:=by simp;omega
 have hta:(a++y::b').take a.length=((a++y::b').take (a.length+1)).filter λx=>!P x:=by
  rw[jj rfl,show a++y::b'=(a++[y])++b' by simp,jj (by simp),eL,zS q2];simp[q3]
 generalize a++y::b'=zs at *
 generalize hal:a.length=k0 at *
 rcases hv with⟨_,hz⟩|⟨b,m,hb,rfl,gb,hbl⟩
 .exfalso;have:=congrArg List.length hz;rw[dN (f:=eI) (e:=1) (λ_=>rfl)]at this;have this:zs.length*1=0:=this;omega
 have hm:zs.length=m:=by rw[dN (f:=eI) (e:=1) (λ_=>rfl)]at hbl;omega
 subst hm;have hbn:=AH.lt_of_get gb;have gb1:h1.get b=some (.cells (zs.flatMap eI) 1 false):=by rw[x1.gt _ hbn];exact gb
 refine jB (λts h'=>∃(i:Nat) (ys:List Int),i<zs.length/\ys.length=zs.length/\ys.take i=zs.filter (λx=>!P x)/\h'.get b=some (.cells (ys.flatMap eI) 1 false)/\Ext lo h h'/\Held [(0,.sl b 0 zs.length zs.length),(5,.int .i64 (i:Nat))] ts) ?_ ?_
 .refine cA (fO (λn ts h'=>∃(i j:Nat) (ys:List Int),n=zs.length-j/\i<j/\j<=zs.length/\ys.length=zs.length/\ys.take i=(zs.take j).filter (λx=>!P x)/\ys.drop j=zs.drop j/\h'.get b=some (.cells (ys.flatMap eI) 1 false)/\Ext lo h h' /\
   Held [(0,.sl b 0 zs.length zs.length),(1,.fn f caps),(5,.int .i64 (i:Nat)),(6,.int .i64 (j:Nat))] ts) ?_ (n:=zs.length-(k0+1))
   ⟨k0,k0+1,zs,rfl,om,om,rfl,hta,rfl,gb1,X1,Hi0⟩)
  rintro n ts h2 ⟨i,j,ys,rfl,p1,p2,p3,p4,p5,p6,p7,e0,e1,e5,e6,-⟩;simp only at e0 e1 e5 e6;have n2:=p7.nx;refine ai (ai (aD (M2 e0 e6) ?_));by_cases hj:j<zs.length
  .have c2:decide (((j:Nat):Int)<((zs.length:Nat):Int))=true:=bp om;refine dv (Z1 c2) (bQ ?_);obtain⟨hy,k1,k2,k3,k4⟩:=It (P:=P) p3 p1 hj p4 p5;have hsy:Sl h2 1 (.sl b 0 zs.length zs.length) (ys.map eI):=Nq (lo:=lo) om (λ_=>rfl) (.inr ⟨b,zs.length,hb,rfl,p6,by rw[dN (f:=eI) (e:=1) (λ_=>rfl),p3]⟩);obtain⟨qb,qp,a1,r1,_⟩:=hsy.at1 (fR (f:=eI) hy);rw[k1]at r1;have X3:=p7;have g3:=p6;have w3:IntKind.i64.wrap (((j:Nat):Int)+1)=((j+1:Nat):Int):=fx om om;have w4:IntKind.i64.wrap (((i:Nat):Int)+1)=((i+1:Nat):Int):=fx om om;have hc:=hf zs[j] (aO hj) h2 X3;refine ai (cA (ai (aD (M4 e0 e6 a1 r1) ?_)));refine ai (bS (ku 2 (M1 e1) rfl (Z1 e1) (M1 e1) (M1 e1) (hc) λr h4 hq=>?_));obtain⟨rfl,x4⟩:=hq;refine bM (M0) ?_;have n4:=x4.nx;have g4:h4.get b=some (.cells (ys.flatMap eI) 1 false):=by rw[x4.gt _ (by have:=AH.lt_of_get g3;omega)];exact g3
   have X4:Ext lo h h4:=X3.trans (x4.mono om);have ii:iV ((i:Nat):Int) zs.length=some i:=eU om;cases q:P zs[j]with
   |true =>
     refine dR (Z1 q) (bQ ?_);refine aD (M2 e6 w3) ?_;exact⟨zs.length-(j+1),om,i,j+1,ys,rfl,om,om,p3,k3 q,k2,g4,X4,H3 e0 e1 e5⟩
   |false =>
     refine dv (Z1 q) ?_;have wq:=Ju (f:=eI) (e:=1) (λ_=>rfl) (x:=zs[j]) g4 (i:=i) om;rw[bh]at wq;have wq:cj h4 b i [.int .i64 zs[j]]=_:=wq;have u5:=Nv (o:=.cells ((ys.set i zs[j]).flatMap eI) 1 false) g4;refine ai (aD (M5 e0 e5 ii @bh wq) ?_);refine aD (M2 e5 w4) ?_;refine aD (M2 e6 w3) ?_;exact⟨zs.length-(j+1),om,i+1,j+1,ys.set i zs[j],rfl,om,om,by rw[dh];exact p3,(k4 q).1,(k4 q).2,u5.get,X4.trans (u5.ext hb),H2 e0 e1⟩
  .have c2:decide (((j:Nat):Int)<((zs.length:Nat):Int))=false:=aX om;refine dR (Z1 c2) ?_;have hjj:j=zs.length:=om;subst hjj;rw[cZ]at p4;exact fp ⟨λ_=>⟨i,ys,p1,p3,p4,p6,p7,H2 e0 e5⟩,λe=>absurd rfl e⟩
 .rintro ts h2 ⟨i,ys,p1,p3,p4,p6,p7,e0,e5,-⟩;simp only at e0 e5;obtain⟨h3,us,s1,u3,s3,s4⟩:=zc (f:=eI) (e:=1) (z:=(0:Int)) om (λ_=>rfl) rfl p6 p3 p1;have s1:zd h2 [.int .i64 0] (.sl b (i*1) (zs.length-i) (zs.length-i))=some (.un,h3):=s1;have hsy:Sl h2 1 (.sl b 0 zs.length zs.length) (ys.map eI):=Nq (lo:=lo) om (λ_=>rfl) (.inr ⟨b,zs.length,hb,rfl,p6,by rw[dN (f:=eI) (e:=1) (λ_=>rfl),p3]⟩);have hsu:Sl h3 1 (.sl b 0 zs.length zs.length) (us.map eI):=Nq (lo:=lo) om (λ_=>rfl) (.inr ⟨b,zs.length,hb,rfl,u3.get,by rw[dN (f:=eI) (e:=1) (λ_=>rfl),s3]⟩);have sv:slV h2 1 (.sl b 0 zs.length zs.length) (some (.int .i64 (i:Nat))) none none=some (.sl b (i*1) (zs.length-i) (zs.length-i)):=by
   simp only[slV,p6,if_true,pV,gJ (show i<=zs.length by omega),aC,fS,bC,if_false];rw[if_neg om,cq]
  obtain⟨r,t1,t2,t3,_⟩:=hsu.upto (hi:=i) (by rw[ah];omega);rw[<-eM,s4,p4]at t2;refine ai (aD (by simp only[am,aI,simprocAttr,e0,e5,dY,bN,aC,sv,s1]<;>rfl) ?_);refine ai (aD (by simp only[am,aI,simprocAttr,e0,e5,dY,bN,aC,t1]<;>rfl) ?_);have rc:=t2.cells;refine bU ⟨r,(by simp only[rs,rf26,am,aI,simprocAttr,rc.1]<;>rfl),t2,p7.trans (u3.ext hb),λb' o n c e=>?_⟩;have:=t3 (λb=>lo<=b) hb;rw[e]at this;exact this
theorem HS:C prg 54 [.nils,.int .i64 0,.int .i64 0] h λ_ h'=>h'=h:=by
 refine Ny pf54 ?_;refine ai (aD (by simp only[am,aI,↓reduceIte,Nat.reduceEqDiff,Int.reduceEq,Nat.reduceAdd,Nat.reduceLeDiff,reduceCtorEq,bP,fx (z:=0+1) (by decide) (by decide)]<;>rfl) ?_);refine cA (fO (λn ts h1=>h1=h/\aR ts 2=.int .i64 0/\aR ts 6=.int .i64 (0+1)) ?_ (n:=0) ⟨rfl,Ii0,Ii0⟩);rintro n ts h1 ⟨rfl,e2,e6⟩;refine ai (ai (aD (M2 e2 e6) ?_));refine dR (by simp only[am,aI,simprocAttr];rfl) ?_;exact fp ⟨λ_=>⟨.tup [],rfl,rfl⟩,λe=>absurd rfl e⟩
theorem GT{l:Int}:C prg 40 [.nils,.int .i64 0,.int .i64 0,.int .i64 l] h λ_ h'=>h'=h:=by
 refine Ny pf40 ?_;refine ai (aD (Mi0) ?_);refine ai (aD (Mi0) ?_);refine cA (fO (λn ts h1=>h1=h/\aR ts 0=.nils/\aR ts 1=.int .i64 0/\aR ts 2=.int .i64 0) ?_ (n:=0) ⟨rfl,Zi0,Zi0,Zi0⟩);rintro n ts h1 ⟨rfl,e0,e1,e2⟩;refine cA (ai (aD (by simp only[am,aI,simprocAttr,e1,e2,fx (z:=0-0) (by decide) (by decide)]<;>rfl) ?_));refine ai (ai (aD (M0) ?_));refine dv (by simp only[am,aI,simprocAttr];rfl) ?_;refine ai (bS (bE 3 (M3 e0 e1 e2) rfl (Z3 e0 e1 e2) (M3 e0 e1 e2) (HS) λv h2 u=>?_));subst u;refine bM (M0) ?_;exact bU ⟨.tup [],rfl,rfl⟩
theorem DX:C prg 23 [.nils] h λ_ h'=>h'=h:=by
 refine Ny pf23 ?_;refine ai (aD (Mi1 @mT) ?_);have wu:IntKind.u64.wrap 0=0:=by decide
 refine bS (bE 4 (Mi1 wu) rfl (Zi1 wu) (Mi1 wu) (rU) λv h1 hq=>?_);obtain⟨rfl,rfl⟩:=hq;refine jU (Zi0) (Mi0) (GT) λv h2 hq=>?_;subst hq;refine bM (M0) ?_;exact⟨.tup [],rfl,rfl⟩
def iY(l:List Nat):List Nat:=l.mergeSort λa b=>decide (a<=b)
theorem fy(l:List Nat):(iY l).Perm l:=oZ l _
theorem qW(l:List Nat):(iY l).Pairwise (·<=·):=by
 have:=lH (le:=λa b:Nat=>decide (a<=b)) (λa b c h1 h2=>by simp only[aK]at *;omega) (λa b=>by simp only[du,aK];omega) l;exact this.imp λh=>cE h
theorem Ht(l:List Nat):nC l=(l.map λn=>((n:Nat):Int)).map (AV.int .i64):=by
 unfold nC;generalize l.map (λn=>((n:Nat):Int))=zs;induction zs with
 |nil=>rfl
 |cons z r ih=>rw[bm,aS,ih];rfl
theorem JE(l:List Nat):vn (l.map λn=>((n:Nat):Int))=nC (iY l):=by
 rw[Ht];unfold vn iY;congr 1;exact(List.map_mergeSort λa _ b _=>by rw[decide_eq_decide];omega).symm
theorem yW{l:List Nat}(hv:IsSl h 1 lo v (nC l))(hl:l.length<2^40) :
 C prg 23 [v] h λ_ h'=>IsSl h' 1 lo v (nC (iY l))/\(∀c,(∀n,v≠.sl c 0 n n)->h'.get c=h.get c)/\h'.next=h.next/\∀c,h'.tyOf c=h.tyOf c:=by
 rcases hv with⟨rfl,hz⟩|⟨b,n,h1,rfl,hg,hn⟩
 .refine(DX (h:=h)).mono λ_ h' hq=>?_;subst hq;have hl0:l=[]:=by
   have:=congrArg List.length hz;rw[eJ]at this;exact bF.1 this
  subst hl0;exact⟨.inl ⟨rfl,by simp[iY,nC]⟩,λ_ _=>rfl,rfl,λ_=>rfl⟩
 .rw[eJ,bh]at hn;have hs:(iY l).length=n:=by rw[(fy l).length_eq,hn]
  have hrd:aA h b 0 n=some ((l.map λn=>((n:Nat):Int)).map (AV.int .i64)):=by
   rw[bI hg,Ht,if_pos (by simp;omega),bT,cV (by simp;omega)]
  have hwr:cj h b 0 (vn (l.map λn=>((n:Nat):Int)))=some (h.put b (.cells (nC (iY l)) 1 false)):=by
   rw[JE,ez hg,if_pos (by rw[eJ,eJ];omega)];congr 3;unfold dD;rw[eZ,bt,cq,cL (by rw[eJ,eJ];omega),bV]
  have u:=Nv (o:=.cells (nC (iY l)) 1 false) hg;exact BS.srt ps23 hrd hwr om ⟨_,_,rfl,.inr ⟨b,n,h1,rfl,u.get,by rw[eJ];omega⟩,λc hc=>u.ne λe=>hc n (by rw[e]),u.nx,u.ty⟩
theorem HV(J:Nat->AH->Prop)(K:Nat->AH->Prop)(hv:ly v=some (.int .i64 (xs.length:Nat)))(hl:xs.length<2^40)(h0:J 0 h)(hJ:∀i h',J i h'->SlI h' v xs)
 (hf:∀(i:Nat) (hi:i<xs.length) h',J i h'->C prg k ([.int .i64 xs[i]]++caps) h' λr h''=>r=.bool (P xs[i])/\(if P xs[i]then K i h'' else J (i+1) h'')) :
 C prg 42 [v,.fn k caps] h λr h'=>r=.int .i64 (iB P xs 0)/\((xs.any P=false/\J xs.length h')\/(xs.any P=true/\∃i,K i h')):=by
 refine Ny pf42 ?_;refine ai (aD (Mi0) ?_);refine ai (ai (aD (Mi1 hv) ?_));refine ai (jB (λts h1=>iB P xs 0=-1/\J xs.length h1) (cA (fO (λn ts h1=>∃i,n=xs.length-i/\i<=xs.length/\J i h1/\iB P (xs.drop i) i=iB P xs 0/\aR ts 0=v/\aR ts 1=.fn k caps/\aR ts 7=.int .i64 (xs.length:Nat)/\aR ts 8=.int .i64 (i:Nat)) ?_ (n:=xs.length) ⟨0,rfl,dx _,h0,by rw[bT],Zi0,Zi0,Zi1 @de⟩)) ?_)
 .rintro n ts h1 ⟨i,rfl,hi,ex,hF,e0,e1,e7,e8⟩;refine ai (aD (M2 e7 e8) ?_);refine ai (io (t:=decide (i<xs.length)) (Z1 @ma) (λq=>?_) λq=>?_)
  .have q:i<xs.length:=cE q;obtain⟨b,p,a1,r1,_,_⟩:=(hJ i h1 ex).at (fR (f:=eI) q);refine bQ (ai (cA (ai (aD (M1 e8) ?_))));have hc:=hf i q h1 ex;refine ai (bS (ku 5 (by simp only[am,aI,simprocAttr,e0,e1,e7,e8,a1,r1,iw,eI]<;>rfl) rfl (by simp only[am,aI,simprocAttr,e0,e1,e7,e8,a1,r1,iw,eI]) (by simp only[am,aI,simprocAttr,e0,e1,e7,e8,a1,r1,iw,eI]<;>rfl) (by simp only[am,aI,simprocAttr,e0,e1,e7,e8,a1,r1,iw,eI]<;>rfl) (hc) λr h2 hq=>?_));obtain⟨rfl,ex2⟩:=hq;refine bM (M0) ?_;have hlo:=oT P xs 0;refine io (t:=P xs[i]) (Z0) (λq2=>?_) λq2=>?_
   .rw[if_pos q2]at ex2;refine ai (aD (M0) ?_);refine bU ⟨.int .i64 (i:Nat),(by simp only[rs,rf42,am,aI,simprocAttr]<;>rfl),?_,.inr ⟨fU.2 ⟨_,aO q,q2⟩,i,ex2⟩⟩;rw[<-hF,ji P q,if_pos q2]
   .rw[if_neg (by simp[q2])]at ex2;have w1:IntKind.i64.wrap (((i:Nat):Int)+1)=((i+1:Nat):Int):=fx om om;refine bQ (aD (M2 e8 w1) ?_);refine⟨xs.length-(i+1),om,i+1,rfl,om,ex2,?_,Z1 e0,Z1 e1,Z1 e7,Z2 e8 w1⟩;rw[<-hF,ji P q,if_neg (by simp[q2])]
  .have q:¬i<xs.length:=of_decide_eq_false q;have e:i=xs.length:=om;subst e;refine fp ⟨λ_=>⟨?_,ex⟩,λe=>absurd rfl e⟩;rw[<-hF,cL om];rfl
 .rintro ts h1 ⟨hF,ex⟩;refine ai (aD (M0) ?_);refine bU ⟨.int .i64 (-1),(by simp only[rs,rf42,am,aI,simprocAttr]<;>rfl),by rw[hF],.inl ⟨?_,ex⟩⟩;exact(oT P xs 0).2.1 om
theorem wZ(J:Nat->AH->Prop)(K:Nat->AH->Prop)(hv:ly v=some (.int .i64 (xs.length:Nat)))(hl:xs.length<2^40)(h0:J 0 h)(hJ:∀i h',J i h'->SlI h' v xs)
 (hf:∀(i:Nat) (hi:i<xs.length) h',J i h'->C prg k ([.int .i64 xs[i]]++caps) h' λr h''=>r=.bool (P xs[i])/\(if P xs[i]then K i h'' else J (i+1) h'')) :
 C prg 24 [v,.fn k caps] h λr h'=>r=.bool (xs.any P)/\((xs.any P=false/\J xs.length h')\/(xs.any P=true/\∃i,K i h')):=by
 refine Ny pf24 ?_;refine ai (aD (Mi0) ?_);refine ai (bS (bE 2 (Mi0) rfl (Zi0) (Mi0) (HV J K hv hl h0 hJ hf) λr h2 hq=>?_));obtain⟨rfl,ex⟩:=hq;have hb:decide ((0:Int)<=iB P xs 0)=xs.any P:=by
  have:=(oT P xs 0).2;cases hq:xs.any P with
  |true=>rw[aK];rw[hq]at this;simp at this;omega
  |false=>rw[aZ];have:=this.2 hq;omega
 refine bM (M1 hb) ?_;exact bU ⟨_,(by simp only[rs,rf24,am,aI,simprocAttr]<;>rfl),rfl,ex⟩
end Go.Proofs.YtlolkmcdimgplaaGreat
namespace Go.Kur
variable {i k:Nat}
theorem perm_of_sub{α:Type}[DecidableEq α]:∀{l m:List α},l.Nodup->(∀x∈l,x∈m)->m.length<=l.length->l.Perm m
 |[],m,_,_,h=>by
   have:m=[]:=bF.1 (by simpa using h);subst this;exact .nil
 |a::l,m,hn,hs,h=>by
   have ha:=hs a (aM ..);obtain⟨h1,h2⟩:=aY.1 hn;have hp:=List.perm_cons_erase ha;refine(List.Perm.cons a (perm_of_sub h2 (λx hx=>?_) ?_)).trans hp.symm
   .exact(hM (λ(e:x=a)=>h1 (by rw[<-e];exact hx))).2 (hs x (aQ _ hx))
   .rw[ff ha];simp only[ar]at h;omega
theorem len_le_of_sub{α:Type}[DecidableEq α]:∀{l m:List α},l.Nodup->(∀x∈l,x∈m)->l.length<=m.length
 |[],_,_,_=>dx _
 |a::l,m,hn,hs=>by
   have ha:=hs a (aM ..);obtain⟨h1,h2⟩:=aY.1 hn;have:=len_le_of_sub (l:=l) (m:=m.erase a) h2 λx hx=>(hM (λ(e:x=a)=>h1 (by rw[<-e];exact hx))).2 (hs x (aQ _ hx));rw[ff ha]at this;have hp:=uZ ha;simp only[ar];omega
structure Gr where
 tl:Nat->Nat
 hd:Nat->Nat
 E:List Nat
 nd:E.Nodup
variable (g:Gr)
def Gr.at1(x i:Nat):List Nat:=(if g.tl i=x then [i]else [])++(if g.hd i=x then [i]else [])
def Gr.ends(x:Nat):List Nat:=g.E.flatMap (g.at1 x)
def Gr.oth(i x:Nat):Nat:=g.tl i+g.hd i-x
def Gr.nxt(z e:Nat):Nat:=(g.ends z).getD 0 0+(g.ends z).getD 1 0-e
def Gr.deg(x:Nat):Nat:=(g.ends x).length
def Gr.joins(e x y:Nat):Prop:=e∈g.E/\(g.tl e=x/\g.hd e=y\/g.tl e=y/\g.hd e=x)
variable {g}
theorem Fu(x:Nat):g.deg x=(g.E.flatMap λi=>[g.tl i,g.hd i]).count x:=by
 unfold Gr.deg Gr.ends;generalize g.E=l;induction l with
 |nil=>rfl
 |cons i r ih =>
   rw[bm,bm,aB,eG,ih];congr 1;unfold Gr.at1;by_cases h1:g.tl i=x<;>by_cases h2:g.hd i=x<;>simp[h1,h2,vk]
theorem mem_ends{x:Nat}:i∈g.ends x↔i∈g.E/\(g.tl i=x\/g.hd i=x):=by
 unfold Gr.ends Gr.at1;rw[bH];constructor
 .rintro⟨j,h1,h2⟩;rw[aw]at h2;rcases h2 with h2|h2
  .split at h2
   .rw[aP]at h2;subst h2;exact⟨h1,.inl ‹_›⟩
   .cases h2
  .split at h2
   .rw[aP]at h2;subst h2;exact⟨h1,.inr ‹_›⟩
   .cases h2
 .rintro⟨h1,h2⟩;refine⟨i,h1,?_⟩;rw[aw];rcases h2 with h2|h2
  .left;rw[if_pos h2];simp
  .right;rw[if_pos h2];simp
theorem Gr.joins.symm{e x y:Nat}(h:g.joins e x y):g.joins e y x:=⟨h.1,h.2.symm⟩
theorem Gr.joins.left{e x y:Nat}(h:g.joins e x y):e∈g.ends x:=mem_ends.2 ⟨h.1,by
 rcases h.2 with⟨a,b⟩|⟨a,b⟩
 .exact .inl a
 .exact .inr b⟩
theorem Gr.joins.oth{e x y:Nat}(h:g.joins e x y):g.oth e x=y:=by
 unfold Gr.oth;rcases h.2 with⟨a,b⟩|⟨a,b⟩<;>omega
theorem joins_of{e x:Nat}(h:e∈g.ends x):g.joins e x (g.oth e x):=by
 obtain⟨h1,h2⟩:=mem_ends.1 h;refine⟨h1,?_⟩;unfold Gr.oth;rcases h2 with h2|h2
 .left;omega
 .right;omega
theorem two_of{z:Nat}(h:g.deg z=2):∃a b,g.ends z=[a,b]:=by
 unfold Gr.deg at h
 match hq:g.ends z,h with
 |[a,b],_=>exact⟨a,b,rfl⟩
theorem MD{z e e':Nat}(h:g.deg z=2)(h1:e∈g.ends z)(h2:e'∈g.ends z)(hn:e≠e'):g.nxt z e=e':=by
 obtain⟨a,b,q⟩:=two_of h;unfold Gr.nxt;rw[q]at h1 h2 |-;simp only[ao,bd,or_false,AL,ph]at *
 omega
theorem KG{z e:Nat}(h:g.deg z=2)(h1:e∈g.ends z):g.nxt z e∈g.ends z/\g.nxt z (g.nxt z e)=e:=by
 obtain⟨a,b,q⟩:=two_of h;unfold Gr.nxt;rw[q]at h1 |-;simp only[ao,bd,or_false,AL,ph]at *
 omega
inductive Wk(g:Gr):Nat->List Nat->Nat->Prop
 |one {e x y}:g.joins e x y->Wk g x [e] y
 |cons {e x z es y}:g.joins e x z->g.deg z=2->Wk g z (g.nxt z e::es) y->Wk g x (e::g.nxt z e::es) y
theorem Wk.ne{x y:Nat}{es:List Nat}(h:Wk g x es y):es≠[]:=by cases h<;>simp
theorem Wk.head{x y e:Nat}{es:List Nat}(h:Wk g x (e::es) y):e∈g.ends x:=by
 cases h with
 |one h=>exact h.left
 |cons h _ _=>exact h.left
theorem Wk.mem{x y:Nat}{es:List Nat}(h:Wk g x es y):∀e∈es,e∈g.E:=by
 induction h with
 |one h=>intro e he;rw[aP]at he;subst he;exact h.1
 |cons h _ _ ih =>
   intro e he;rcases ao.1 he with rfl|he
   .exact h.1
   .exact ih _ he
theorem Wk.snoc{x y:Nat}{es:List Nat}(h:Wk g x es y):∀{e z:Nat},es.getLast?=some e->g.deg y=2->g.joins (g.nxt y e) y z->Wk g x (es++[g.nxt y e]) z:=by
 induction h with
 |one h =>
   intro e z he hd hj;simp only[sR,aa]at he;subst he;exact .cons h hd (.one hj)
 |@cons e x z es y h hd w ih =>
   intro e' z' he hd' hj;refine .cons h hd ?_;exact ih (by rw[<-he];simp) hd' hj
theorem Wk.last{x y:Nat}{es:List Nat}(h:Wk g x es y):∃e,es.getLast?=some e/\e∈g.ends y:=by
 induction h with
 |@one e x y h=>exact⟨e,rfl,h.symm.left⟩
 |cons h _ _ ih=>obtain⟨e,h1,h2⟩:=ih;exact⟨e,by rw[<-h1];simp,h2⟩
theorem Wk.rev{x y:Nat}{es:List Nat}(h:Wk g x es y):Wk g y es.reverse x:=by
 induction h with
 |one h=>exact .one h.symm
 |@cons e x z es y h hd w ih =>
   have he:=h.symm.left;have q:=(KG hd he).2;have:=ih.snoc (e:=g.nxt z e) (z:=x) (by simp) hd (by rw[q];exact h.symm);rw[q]at this;rw[jH];exact this
theorem Wk.app{x z:Nat}{az:List Nat}(h:Wk g x az z):∀{e y:Nat}{bs:List Nat},az.getLast?=some e->g.deg z=2->Wk g z (g.nxt z e::bs) y->Wk g x (az++g.nxt z e::bs) y:=by
 induction h with
 |one h =>
   intro e y bs he hd w;simp only[sR,aa]at he;subst he;exact .cons h hd w
 |@cons e x z es y h hd w ih =>
   intro e' y' bs he hd' w';refine .cons h hd ?_;exact ih (by rw[<-he];simp) hd' w'
theorem Wk.edge{x y:Nat}{es:List Nat}(h:Wk g x es y){v:Nat}(hi:i∈es)(hv:i∈g.ends v)(hd:g.deg v≠2):(v=x/\es.head?=some i)\/(v=y/\es.getLast?=some i):=by
 induction h with
 |@one e x y h =>
   rw[aP]at hi;subst hi;have:=(mem_ends.1 hv).2;rcases h.2 with⟨a,b⟩|⟨a,b⟩<;>rcases this with q|q
   .left;exact⟨om,rfl⟩
   .right;exact⟨om,rfl⟩
   .right;exact⟨om,rfl⟩
   .left;exact⟨om,rfl⟩
 |@cons e x z es y h hz w ih =>
   rcases ao.1 hi with rfl|hi
   .have:=(mem_ends.1 hv).2;have hvz:v≠z:=λe=>hd (e▸hz);left;refine⟨?_,rfl⟩;rcases h.2 with⟨a,b⟩|⟨a,b⟩<;>rcases this with q|q<;>omega
   .rcases ih hi with⟨rfl,_⟩|⟨h1,h2⟩
    .exact absurd hz hd
    .right;exact⟨h1,by rw[<-h2];simp⟩
def far(g:Gr):Nat->Nat->Nat->List Nat×Nat
 |0,_,_=>([],0)
 |f+1,x,e=>if g.deg (g.oth e x)=2 then(e::(far g f (g.oth e x) (g.nxt (g.oth e x) e)).1,(far g f (g.oth e x) (g.nxt (g.oth e x) e)).2)else([e],g.oth e x)
theorem Wk.far{x y:Nat}{es:List Nat}(h:Wk g x es y)(hd:g.deg y≠2):∀{e:Nat}{f:Nat},es.head?=some e->es.length<=f->far g f x e=(es,y):=by
 induction h with
 |@one e x y h =>
   intro e' f he hf;simp only[vj,aa]at he;subst he;cases f with
   |zero=>simp at hf
   |succ f=>rw[Kur.far,h.oth,if_neg hd]
 |@cons e x z es y h hz w ih =>
   intro e' f he hf;simp only[vj,aa]at he;subst he;cases f with
   |zero=>simp at hf
   |succ f=>rw[Kur.far,h.oth,if_pos hz,ih hd rfl (by simpa using hf)]
variable {g:Gr}
abbrev Way:=Nat×Nat×List Nat
def prW(w:Way):Nat×Nat:=(w.1,w.2.1)
def pD(w:Way):List Nat:=[w.1,w.2.1]
def ec(ws:List Way)(v:Nat):Nat:=(ws.flatMap pD).count v
def atW(x:Nat)(w:Way):Bool:=decide (w.1=x\/w.2.1=x)
def eO(w:Way):Prop:=w.1=w.2.1
def toW(x:Nat)(w:Way):Nat×List Nat:=if w.2.1=x then(w.1,w.2.2)else(w.2.1,w.2.2.reverse)
def mkW(a b:Nat)(es:List Nat):Way:=if a<=b then(a,b,es)else(b,a,es.reverse)
def od(x:Nat)(u w:Way):Way:=mkW (toW x u).1 (toW x w).1 ((toW x u).2++(toW x w).2.reverse)
instance (w:Way):Decidable (eO w):=by unfold eO;infer_instance
def smW(x:Nat)(ws:List Way):List Way :=
 match ws.filter (atW x)with
 |[u,w]=>if eO u\/eO w then ws else ws.filter (λw=>!atW x w)++[od x u w]
 |_=>ws
def qC(g:Gr):List Way:=g.E.map λi=>(min (g.tl i) (g.hd i),max (g.tl i) (g.hd i),[i])
structure Inv(g:Gr)(k:Nat)(ws:List Way):Prop where
 wk:∀w∈ws,Wk g w.1 w.2.2 w.2.1/\w.1<=w.2.1
 pm:(ws.flatMap λw=>w.2.2).Perm g.E
 ct:∀v,k<=v\/g.deg v≠2->ec ws v=g.deg v
 cl:∀v,v<k->g.deg v=2->∀w∈ws,atW v w=true->eO w
theorem Inv.ini:Inv g 0 (qC g) where
 wk:=λw hw=>by
  obtain⟨i,hi,rfl⟩:=bG.1 hw;refine⟨.one ⟨hi,?_⟩,by simp only[];omega⟩;simp only[];omega
 pm:=by
  unfold qC;rw[ko];simp
 ct:=λv _=>by
  rw[Fu];unfold ec qC;rw[ko];generalize g.E=l;induction l with
  |nil=>rfl
  |cons i r ih =>
    rw[bm,bm,eG,eG,ih];congr 1;unfold pD;simp only[];by_cases h:g.tl i<=g.hd i
    .rw[dU h,sQ h]
    .rw[kh om,vg om];simp only[vk,qi];omega
 cl:=λv hv=>absurd hv (gY _)
theorem Na(a b:List Way)(v:Nat):ec (a++b) v=ec a v+ec b v:=by
 unfold ec;rw[bL,eG]
theorem kH(w:Way)(b:List Way)(v:Nat):ec (w::b) v=(pD w).count v+ec b v:=by
 unfold ec;rw[bm,eG]
theorem gz(w:Way)(v:Nat):(pD w).count v=(if w.1=v then 1 else 0)+(if w.2.1=v then 1 else 0):=by
 unfold pD;by_cases h1:w.1=v<;>by_cases h2:w.2.1=v<;>simp[h1,h2]
theorem uG(x v:Nat)(ws:List Way):ec ws v=ec (ws.filter (atW x)) v+ec (ws.filter λw=>!atW x w) v:=by
 unfold ec;rw[<-eG,<-bL];exact(((iO (atW x) ws).flatMap_right pD).count_eq v).symm
theorem Io(x:Nat)(ws:List Way):ec (ws.filter λw=>!atW x w) x=0:=by
 unfold ec;rw[List.count_eq_zero];intro h;obtain⟨w,h1,h2⟩:=bH.1 h;obtain⟨_,h3⟩:=aJ.1 h1;unfold atW at h3;unfold pD at h2;simp at h3 h2;omega
variable {ws:List Way}
theorem MZ{x:Nat}(h:∀w∈ws,atW x w=true):ws.length<=ec ws x:=by
 induction ws with
 |nil=>exact dx _
 |cons w r ih =>
   rw[kH,gz];have h1:=h w (aM ..);have h2:=ih λu hu=>h u (aQ _ hu);unfold atW at h1;simp at h1;simp only[ar];split<;>split<;>omega
variable {w:Way}
theorem qT{x:Nat}(h:Wk g w.1 w.2.2 w.2.1)(ha:atW x w=true):Wk g (toW x w).1 (toW x w).2 x/\((toW x w).1=w.1/\w.2.1=x\/(toW x w).1=w.2.1/\w.1=x)/\(toW x w).2.Perm w.2.2:=by
 unfold toW;unfold atW at ha;simp at ha;split
 .rename_i e
  exact⟨e▸h,.inl ⟨rfl,e⟩,.refl _⟩
 .rename_i e
  have e2:w.1=x:=om;exact⟨by rw[<-e2];exact h.rev,.inr ⟨rfl,e2⟩,gf _⟩
theorem Hw{a b:Nat}{es:List Nat}(h:Wk g a es b):Wk g (mkW a b es).1 (mkW a b es).2.2 (mkW a b es).2.1/\(mkW a b es).1<=(mkW a b es).2.1/\(mkW a b es).2.2.Perm es/\(∀v,(pD (mkW a b es)).count v=(if a=v then 1 else 0)+(if b=v then 1 else 0))/\prW (mkW a b es)=(min a b,max a b):=by
 unfold mkW;split
 .rename_i q
  refine⟨h,q,.refl _,λv=>gz _ v,?_⟩;unfold prW;simp only[];rw[dU q,sQ q]
 .rename_i q
  refine⟨h.rev,by simp only[];omega,gf _,λv=>?_,?_⟩
  .rw[gz];simp only[];omega
  .unfold prW;simp only[];rw[kh om,vg om]
theorem Inv.two{x:Nat}(v:Inv g k ws)(hx:k<=x\/g.deg x≠2){u:Way}(hf:ws.filter (atW x)=[u,w])(hu:¬eO u)(hw:¬eO w) :
 g.deg x=2/\Wk g (toW x u).1 ((toW x u).2++(toW x w).2.reverse) (toW x w).1/\(toW x u).1≠x/\(toW x w).1≠x:=by
 have mu:u∈ws.filter (atW x):=by rw[hf];simp
 have mw:w∈ws.filter (atW x):=by rw[hf];simp
 obtain⟨mu1,mu2⟩:=aJ.1 mu;obtain⟨mw1,mw2⟩:=aJ.1 mw;obtain⟨a1,a2,a3⟩:=qT (v.wk u mu1).1 mu2;obtain⟨b1,b2,b3⟩:=qT (v.wk w mw1).1 mw2;have hd:g.deg x=2:=by
  rw[<-v.ct x hx,uG x x,Io,hf,kH,kH,gz,gz];unfold eO at hu hw;simp only[ec,eB,qi];rcases a2 with⟨_,q⟩|⟨_,q⟩<;>rcases b2 with⟨_,p⟩|⟨_,p⟩<;>(repeat' split)<;>omega
 refine⟨hd,?_,?_,?_⟩
 .obtain⟨e,e1,e2⟩:=a1.last;have b1':=b1.rev;cases hq:(toW x w).2.reverse with
  |nil=>exact absurd hq b1'.ne
  |cons e' bs =>
    rw[hq]at b1';have e2':=b1'.head;have hne:e≠e':=by
     have hp:(ws.flatMap λw=>w.2.2).Nodup:=(v.pm.nodup_iff).2 g.nd;have hp2:((ws.filter (atW x)).flatMap λw=>w.2.2).Nodup:=by
      have hq:=((((iO (atW x) ws).flatMap_right λw:Way=>w.2.2).nodup_iff).2 hp)
      rw[bL]at hq;exact(aN.1 hq).1
     rw[hf]at hp2;simp only[bm,eB,bV]at hp2;have dj:=(aN.1 hp2).2.2;refine dj e (a3.mem_iff.1 (yJ e1)) e' (b3.mem_iff.1 ?_);rw[<-Jn,hq];exact aM ..
    have hn:=MD hd e2 e2' hne;rw[<-hn]at b1' |-;exact a1.app e1 hd b1'
 .unfold eO at hu;rcases a2 with⟨p,q⟩|⟨p,q⟩<;>omega
 .unfold eO at hw;rcases b2 with⟨p,q⟩|⟨p,q⟩<;>omega
theorem Inv.step(v:Inv g k ws):Inv g (k+1) (smW k ws):=by
 have same:(∀u w,ws.filter (atW k)=[u,w]->eO u\/eO w)->Inv g (k+1) ws:=λhno=>{
  wk:=v.wk
  pm:=v.pm
  ct:=λx hx=>v.ct x (by rcases hx with h|h;· left;omega
                        .exact .inr h)
  cl:=λx hx hd w hw ha=>by
   by_cases e:x=k
   .subst e;have h2:=v.ct x (.inl (ab _));rw[hd,uG x x,Io,dX]at h2;have hlen:=MZ (x:=x) (ws:=ws.filter (atW x)) λw hw=>(aJ.1 hw).2;rw[h2]at hlen;have hm:w∈ws.filter (atW x):=aJ.2 ⟨hw,ha⟩
    match hq:ws.filter (atW x),hlen with
    |[],_=>rw[hq]at hm;cases hm
    |[u],_ =>
      rw[hq]at hm h2;rw[aP]at hm;subst hm;rw[kH,gz]at h2;simp only[ec,eB,qi]at h2;unfold eO;split at h2<;>split at h2<;>omega
    |[u,y],_ =>
      have hh:=hno u y hq;rw[hq]at hm h2;rw[kH,kH,gz,gz]at h2;simp only[ec,eB,qi]at h2;have mu:u∈ws.filter (atW x):=by rw[hq];simp
      have my:y∈ws.filter (atW x):=by rw[hq];simp
      have au:=(aJ.1 mu).2;have ay:=(aJ.1 my).2;unfold atW at au ay;simp at au ay;unfold eO at hh;exfalso;split at h2<;>split at h2<;>split at h2<;>split at h2<;>omega
    |_::_::_::_,hl=>simp at hl
   .exact v.cl x om hd w hw ha}
 unfold smW;split
 .rename_i u w hf
  split
  .rename_i hc
   exact same λu' w' e=>by rw[hf]at e;cases e;exact hc
  .rename_i hc
   have hu:¬eO u:=λh=>hc (.inl h);have hw:¬eO w:=λh=>hc (.inr h);have mu:u∈ws.filter (atW k):=by rw[hf];simp
   have mw:w∈ws.filter (atW k):=by rw[hf];simp
   obtain⟨mu1,mu2⟩:=aJ.1 mu;obtain⟨mw1,mw2⟩:=aJ.1 mw;obtain⟨a1,a2,a3⟩:=qT (v.wk u mu1).1 mu2;obtain⟨b1,b2,b3⟩:=qT (v.wk w mw1).1 mw2;obtain⟨hd,hwk,hax,hbx⟩:=v.two (.inl (ab _)) hf hu hw;obtain⟨m1,m2,m3,m4,_⟩:=Hw hwk;refine⟨λz hz=>?_,?_,λx hx=>?_,λx hx hdx z hz ha=>?_⟩
   .rcases aw.1 hz with hz|hz
    .exact v.wk z (aJ.1 hz).1
    .rw[aP]at hz;subst hz;exact⟨m1,m2⟩
   .rw[bL];simp only[bm,eB,bV];refine List.Perm.trans ?_ v.pm;have hsp:=(iO (atW k) ws).flatMap_right λw:Way=>w.2.2;refine List.Perm.trans ?_ hsp;rw[bL,hf];simp only[bm,eB,bV];refine(jC).trans ?_;refine List.Perm.append_right _ ?_;exact m3.trans (a3.append ((gf _).trans b3))
   .have hxk:x≠k:=by
     rintro rfl;rcases hx with h|h
     .omega
     .exact h hd
    have h1:=v.ct x (by rcases hx with h|h;· left;omega
                        .exact .inr h)
    rw[<-h1,uG k x ws,hf,Na,Nat.add_comm];congr 1;unfold od;rw[kH,kH,kH,m4,gz,gz];simp only[ec,eB,qi,dX];have h0:¬k=x:=λe=>hxk e.symm;rcases a2 with⟨p1,q1⟩|⟨p1,q1⟩<;>rcases b2 with⟨p2,q2⟩|⟨p2,q2⟩<;>rw[p1,p2,q1,q2]<;>simp only[if_neg h0]<;>omega
   .rcases aw.1 hz with hz|hz
    .obtain⟨z1,z2⟩:=aJ.1 hz;have hxk:x≠k:=by
      rintro rfl;rw[ha]at z2;cases z2
     exact v.cl x om hdx z z1 ha
    .rw[aP]at hz;subst hz;exfalso;have hp:=m4 x;have ha':0<(pD (od k u w)).count x:=by
      rw[gz];unfold atW at ha;simp at ha;split<;>split<;>omega
     unfold od at ha';rw[hp]at ha';have hor:(toW k u).1=x\/(toW k w).1=x:=by
      split at ha'<;>split at ha'<;>first|exact .inl ‹_›|exact .inr ‹_›|omega
     rcases hor with rfl|rfl
     .have:(toW k u).1<k:=om;refine hu (v.cl _ this hdx u mu1 ?_);unfold atW;rcases a2 with⟨p,q⟩|⟨p,q⟩<;>simp[p]
     .have:(toW k w).1<k:=om;refine hw (v.cl _ this hdx w mw1 ?_);unfold atW;rcases b2 with⟨p,q⟩|⟨p,q⟩<;>simp[p]
 .rename_i hno
  exact same λu w e=>absurd e (hno u w)
def eX(g:Gr)(k:Nat):List Way:=(List.range k).foldl (λws x=>smW x ws) (qC g)
theorem rO(k:Nat):eX g (k+1)=smW k (eX g k):=by
 unfold eX;rw[cJ,eW];rfl
theorem gw(k:Nat):Inv g k (eX g k):=by
 induction k with
 |zero=>exact Inv.ini
 |succ k ih=>rw[rO];exact ih.step
def atP(x:Nat)(p:Nat×Nat):Bool:=decide (p.1=x\/p.2=x)
def smP(x:Nat)(l:List (Nat×Nat)):Option (List (Nat×Nat)) :=
 match l.filter (atP x)with
 |[p,q]=>if p.1+p.2-x=q.1+q.2-x then none else some (l.filter (λp=>!atP x p)++[(min (p.1+p.2-x) (q.1+q.2-x),max (p.1+p.2-x) (q.1+q.2-x))])
 |_=>some l
def NC(ws:List Way):Prop:=∀w∈ws,¬eO w
theorem Le(x:Nat)(ws:List Way):(ws.map prW).filter (atP x)=(ws.filter (atW x)).map prW/\(ws.map prW).filter (λp=>!atP x p)=(ws.filter λw=>!atW x w).map prW:=by
 rw[LR,LR];exact⟨rfl,rfl⟩
theorem Mn(v:Inv g k ws)(hn:NC ws):(smP k (ws.map prW)=some ((smW k ws).map prW)/\NC (smW k ws))\/(smP k (ws.map prW)=none/\¬NC (smW k ws)):=by
 obtain⟨f1,f2⟩:=Le k ws;unfold smP smW;rw[f1,f2];cases hf:ws.filter (atW k)with
 |nil=>exact .inl ⟨rfl,hn⟩
 |cons u r =>
   cases r with
   |nil=>exact .inl ⟨rfl,hn⟩
   |cons w r2 =>
     cases r2 with
     |cons y r3=>exact .inl ⟨rfl,hn⟩
     |nil =>
       have mu:u∈ws.filter (atW k):=by rw[hf];simp
       have mw:w∈ws.filter (atW k):=by rw[hf];simp
       obtain⟨mu1,mu2⟩:=aJ.1 mu;obtain⟨mw1,mw2⟩:=aJ.1 mw;have hu:=hn u mu1;have hw:=hn w mw1;obtain⟨a1,a2,a3⟩:=qT (v.wk u mu1).1 mu2;obtain⟨b1,b2,b3⟩:=qT (v.wk w mw1).1 mw2;obtain⟨hd,hwk,hax,hbx⟩:=v.two (.inl (ab _)) hf hu hw;obtain⟨m1,m2,m3,m4,m5⟩:=Hw hwk;have ea:(prW u).1+(prW u).2-k=(toW k u).1:=by
        unfold prW;simp only[];rcases a2 with⟨p,q⟩|⟨p,q⟩<;>omega
       have eb:(prW w).1+(prW w).2-k=(toW k w).1:=by
        unfold prW;simp only[];rcases b2 with⟨p,q⟩|⟨p,q⟩<;>omega
       simp only[aS,jf,ea,eb];rw[if_neg (show ¬(eO u\/eO w) from λh=>h.elim hu hw)];by_cases e:(toW k u).1=(toW k w).1
       .right;rw[if_pos e];refine⟨rfl,λh=>h (od k u w) (by simp) ?_⟩;have:=m5;unfold prW at this;unfold eO od;simp only[ak]at this;rw[this.1,this.2,e];omega
       .left;rw[if_neg e];refine⟨?_,λz hz=>?_⟩
        .rw[bR];simp only[aS,jf];rw[show prW (od k u w)=_ from m5]
        .rcases aw.1 hz with hz|hz
         .exact hn z (aJ.1 hz).1
         .rw[aP]at hz;subst hz;have:=m5;unfold prW at this;unfold eO od;simp only[ak]at this;rw[this.1,this.2];omega
theorem yZ(h:¬NC ws):¬NC (smW k ws):=by
 intro hn;refine h λw hw hc=>?_;have:w∈smW k ws:=by
  unfold smW;split
  .rename_i u y hf
   split
   .exact hw
   .rename_i hcc
    refine bg _ (aJ.2 ⟨hw,?_⟩);cases ha:atW k w with
    |false=>rfl
    |true =>
      have:w∈ws.filter (atW k):=aJ.2 ⟨hw,ha⟩;rw[hf]at this;simp only[ao,bd,or_false]at this;rcases this with rfl|rfl
      .exact absurd (.inl hc) hcc
      .exact absurd (.inr hc) hcc
  .exact hw
 exact hn w this hc
def finP(l:List (Nat×Nat))(k:Nat):Option (List (Nat×Nat)):=(List.range k).foldl (λo x=>o.bind (smP x)) (some l)
theorem finP_succ(l:List (Nat×Nat))(k:Nat):finP l (k+1)=(finP l k).bind (smP k):=by
 unfold finP;rw[cJ,eW];rfl
theorem Dl(h0:NC (qC g))(k:Nat):(finP ((qC g).map prW) k=some ((eX g k).map prW)/\NC (eX g k))\/(finP ((qC g).map prW) k=none/\¬NC (eX g k)):=by
 induction k with
 |zero=>exact .inl ⟨rfl,h0⟩
 |succ k ih =>
   rw[finP_succ,rO];rcases ih with⟨h1,h2⟩|⟨h1,h2⟩
   .rw[h1];exact Mn (gw k) h2
   .rw[h1];exact .inr ⟨rfl,yZ h2⟩
theorem Ff(h:¬NC (qC g))(k:Nat):¬NC (eX g k):=by
 induction k with
 |zero=>exact h
 |succ k ih=>rw[rO];exact yZ ih
end Go.Kur
