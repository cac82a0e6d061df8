/- planar -/
import Derived.Test.YtlolkmcdimgplaaGreatVTAU
set_option linter.all false
namespace Go.Proofs.YtlolkmcdimgplaaGreat
open Go.Am
open Go.Pla (at_ jn On Rot Pln Bond Link Part Plc Hg Bld Dual Thr)
theorem GN{h:AH}{b o:Nat}{x y:AV}(hr:aA h b o 2=some [x,y]):aA h b o 1=some [x]:=by
 unfold aA at hr |-;revert hr;cases h.get b with
 |none=>simp
 |some c =>
   cases c<;>simp;intro h1 h2;refine⟨om,?_⟩;have:=congrArg (List.take 1) h2;rw[qd]at this;simpa using this
def hfE(E:List (Int×Int))(i x:Nat):Nat:=if tlE E i=x then 2*i else 2*i+1
set_option maxHeartbeats 4000000 in
theorem vR{h:AH}{bb n:Nat}{ev edv:AV}{E:List (Int×Int)}{Bl:List Nat}{la pa:Nat}{H V:Nat->Bool}{fav:AV}(u:Bu h bb n ev edv E Bl la pa H V fav)(hE:InG n E)(hL:∀i,i<E.length->tlE E i≠hdE E i)(hn:n<2^30)(hm:E.length<2^30)(hB:∀i∈Bl,i<E.length)(hBn:Bl.length<2^30)(hp:Pln (grE n E hE hL) Bl){x y i:Nat}(hx:x<n)(hy:y<n)(hi:i∈Bl)(hj:jn (grE n E hE hL) i x y=true) :
 C prg 52 [.ptr bb 0,.int .i64 (x:Nat),.int .i64 (y:Nat)] h λr h'=>r=.int .i64 (hfE E i x:Nat)/\Ext h.next h h':=by
 refine Ny pf52 ?_;have rb:aA h bb 2 1=some [edv]:=bJ u.o rfl;have lb:=u.b.len;rw[ah,ah]at lb;refine ai (aD (Mi0) ?_);refine ai (ai (aD (Mi2 rb lb) ?_))
 refine gA (α:=Unit) (N:=Bl.length) (λ_ _=>[(14,edv),(0,.ptr bb 0),(1,.int .i64 (x:Nat)),(2,.int .i64 (y:Nat))])
  (λk _ h'=>Ext h.next h h'/\i∉Bl.take k) () (λ_ _=>rfl) om (Hi0) ⟨Nu,by simp⟩ ?_ ?_
 .rintro k _ ts h1 hk ⟨j1,j2⟩ ⟨ei,en,e14,e0,e1,e2,-⟩;simp only at ei en e14 e0 e1 e2;have u1:=u.ext j1 (ab _);obtain⟨b3,o3,a3,r3,_⟩:=u1.b.at1 (i:=k) (y:=.int .i64 (Bl[k]:Nat)) (by rw[aG,aG,ae hk];rfl);have hBk:=aO hk;have htk:Bl.take (k+1)=Bl.take k++[Bl[k]]:=by rw[fH,ae hk];rfl
  generalize hq:Bl[k]=q at *
  have hqE:=hB q hBk;refine ai (aD (M4 e14 ei a3 r3) ?_);refine ai (bS (bE 3 (M2 e0 e1) rfl (Z2 e0 e1) (M2 e0 e1) (mQ u1 hE (show n<2^40 by omega) hqE hx) λv h2 hv=>?_));obtain⟨rfl,x2⟩:=hv;refine bM (M0) ?_;have x2':Ext h.next h h2:=j1.trans (x2.mono j1.nx);have u2:=u.ext x2' (ab _);have jiff:=Mb (n:=n) (E:=E) (hE:=hE) (hL:=hL) (i:=q) (x:=x) (y:=y);have skip:jn (grE n E hE hL) q y x≠true->i∉Bl.take (k+1):=λh hc=>by
   rw[htk,aw,aP]at hc;rcases hc with hc|hc
   .exact j2 hc
   .subst hc;rw[Go.Pla.jn_iff]at hj;exact h (by rw[Go.Pla.jn_iff];rcases hj with h|h;exact .inr h;exact .inl h)
  cases hI:lU E q x with
  |false =>
    refine ai (aD (M0) ?_);refine dR (Z0) (bQ ?_);exact⟨(),⟨x2',skip (by rw[ne_eq,jiff,hI];simp)⟩,H6 ei en e14 e0 e1 e2⟩
  |true =>
    by_cases hy':nN E q x=((y:Nat):Int)
    .have dy:decide (nN E q x=((y:Nat):Int))=true:=bp hy';have hji:=jiff.2 ⟨hI,hy'⟩;have:q=i:=hp.one q hBk i hi x y (by rw[Go.Pla.jn_iff]at hji |-;rcases hji with h|h;exact .inr h;exact .inl h) hj;subst this;obtain⟨q1,q2,q3⟩:=hE q hqE;obtain⟨b6,o6,a6,r6,_,_⟩:=u2.e.at (fR (f:=eE) hqE);rw[q1]at r6;have r6:aA h2 b6 o6 2=some [.int .i64 (tlE E q:Nat),.int .i64 (hdE E q:Nat)]:=r6;have r7:aA h2 b6 o6 1=some [.int .i64 (tlE E q:Nat)]:=GN r6;have r1:aA h2 bb 1 1=some [ev]:=bJ u2.o rfl;have w2q:IntKind.i64.wrap (2*((q:Nat):Int))=((2*q:Nat):Int):=by
      have:(2*((q:Nat):Int))=((2*q:Nat):Int):=om;rw[this];exact fx om om
     have w2q1:IntKind.i64.wrap (((2*q:Nat):Int)+1)=((2*q+1:Nat):Int):=fx om om;refine ai (bW (λts h'=>h'=h2/\aR ts 0=.ptr bb 0/\aR ts 1=.int .i64 (x:Nat)/\aR ts 8=.int .i64 (q:Nat)/\aR ts 32=.bool true) (by simp only[am,aI,simprocAttr,e0,e1,e2,dy]) ?_);rintro ts h2' ⟨rfl,e0,e1,e8,e32⟩;refine dv (Z1 e32) ?_;by_cases ht:tlE E q=x
     .have dt:decide (((tlE E q:Nat):Int)=((x:Nat):Int))=true:=by rw[decide_eq_true_iff,ht]
      refine ai (ai (aD (M7 e0 e1 e8 r1 a6 r7 dt) ?_));refine dv (Z1 dt) ?_;refine ai (bW (λts h'=>h'=h2'/\aR ts 6=.int .i64 ((2*q:Nat):Int)) (by simp only[am,aI,simprocAttr,e8,w2q]) ?_);rintro ts h3 ⟨rfl,e6⟩;exact bU ⟨.int .i64 ((2*q:Nat):Int),(by simp only[rs,rf52,am,aI,simprocAttr,e6]<;>rfl),by rw[hfE,if_pos ht],x2'⟩
     .have dt:decide (((tlE E q:Nat):Int)=((x:Nat):Int))=false:=by rw[aZ];omega
      refine ai (ai (bW (λts h'=>h'=h2'/\aR ts 8=.int .i64 (q:Nat)/\aR ts 43=.bool false) (by simp only[am,aI,simprocAttr,e0,e1,e8,r1,a6,r7,dt]) ?_));rintro ts h3 ⟨rfl,e8,e43⟩;refine dR (Z1 e43) (bQ ?_);refine ai (bW (λts h'=>h'=h3/\aR ts 6=.int .i64 ((2*q+1:Nat):Int)) (by simp only[am,aI,simprocAttr,e8,w2q,w2q1]) ?_);rintro ts h4 ⟨rfl,e6⟩;exact bU ⟨.int .i64 ((2*q+1:Nat):Int),(by simp only[rs,rf52,am,aI,simprocAttr,e6]<;>rfl),by rw[hfE,if_neg ht],x2'⟩
    .have dy:decide (nN E q x=((y:Nat):Int))=false:=aX hy';refine ai (aD (M2 e2 dy) ?_);refine dR (Z1 dy) (bQ ?_);exact⟨(),⟨x2',skip (by rw[ne_eq,jiff];simp[hy'])⟩,H6 ei en e14 e0 e1 e2⟩
 .rintro _ ts h1 ⟨j1,j2⟩ _;rw[cV (ab _)]at j2;exact absurd hi j2
end Go.Proofs.YtlolkmcdimgplaaGreat
namespace Go.Pla
open Go.Blk
variable {c d:List Nat}{e f1 f2 k p x y z z':Nat}
variable {g:Gr}{B:List Nat}{H:Nat->Bool}{nf:Nat}{fc:Nat->List Nat}
def Tri(c:List Nat)(y x z:Nat):Prop:=∃t,Rot c (y::x::z::t)
theorem Tri.nx1(h:Tri c y x z):Nx c y x:=by
 obtain⟨t,h⟩:=h;exact⟨z::t,h⟩
theorem Tri.nx2(h:Tri c y x z):Nx c x z:=by
 obtain⟨t,h⟩:=h;exact⟨t++[y],h.trans ⟨[y],x::z::t,rfl,rfl⟩⟩
theorem tri_of_nx(h:Nx c y x)(h3:3<=c.length):∃z,Tri c y x z:=by
 obtain⟨t,h⟩:=h;cases t with
 |nil =>
   obtain⟨a,b,h1,h2⟩:=h;have e1:=congrArg List.length h1;have e2:=congrArg List.length h2;simp at e1 e2;omega
 |cons z t=>exact⟨z,t,h⟩
theorem CJ(hp:p<c.length){j:Nat}(hj:j<c.length):(c.drop p++c.take p)[j]?=c[(p+j)%c.length]?:=by
 by_cases h:j<c.length-p
 .rw[bA (by rw[dr];exact h),eK,eP om]
 .rw[aV (by rw[dr];omega),dr,cM,if_pos om];have:(p+j)%c.length=p+j-c.length:=by
   rw[Nat.mod_eq_sub_mod om,eP om]
  rw[this];congr 1;omega
theorem Mv(h:Rot c d)(hc:0<c.length):∃p,p<c.length/\d=c.drop p++c.take p:=by
 obtain⟨a,b,rfl,rfl⟩:=h;cases b with
 |nil=>exact⟨0,hc,by simp⟩
 |cons x b=>exact⟨a.length,by simp,by rw[qh,yG]⟩
theorem GJ:Rot c (c.drop p++c.take p):=⟨c.take p,c.drop p,by rw[cm],rfl⟩
theorem zG{n:Nat}(hk:k<n):((k+n-1)%n+1)%n=k:=by
 by_cases h:k=0
 .subst h;have h1:(0+n-1)%n=n-1:=by rw[show 0+n-1=n-1 by omega];exact eP om
  rw[h1,show n-1+1=n by omega,Nat.mod_self]
 .have h1:(k+n-1)%n=k-1:=by
   rw[show k+n-1=(k-1)+n by omega,Nat.add_mod_right,eP om]
  rw[h1,show k-1+1=k by omega,eP hk]
theorem CZ{n:Nat}(hk:k<n):((k+n-1)%n+2)%n=(k+1)%n:=by
 have h:=zG hk;rw[show(k+n-1)%n+2=((k+n-1)%n+1)+1 by omega,Nat.add_mod,h];simp
theorem tri_at(hk:k<c.length)(h3:3<=c.length):Tri c (c.getD ((k+c.length-1)%c.length) 0) (c.getD k 0) (c.getD ((k+1)%c.length) 0):=by
 obtain⟨p,hp⟩:∃p,p=(k+c.length-1)%c.length:=⟨_,rfl⟩
 have hpl:p<c.length:=by rw[hp];exact nD _ om
 obtain⟨d,hd⟩:∃d,d=c.drop p++c.take p:=⟨_,rfl⟩
 have hr:Rot c d:=hd▸GJ;have hdl:d.length=c.length:=by rw[hd];simp;omega
 match d,hd,hr,hdl with
 |[],_,_,h=>exact absurd h (by simp;omega)
 |[_],_,_,h=>exact absurd h (by simp;omega)
 |[_,_],_,_,h=>exact absurd h (by simp;omega)
 |y::x::z::t,hd,hr,_ =>
   have g:∀j,j<c.length->(y::x::z::t)[j]?=c[(p+j)%c.length]?:=λj hj=>by rw[hd];exact CJ hpl hj
   have g0:=g 0 om;have g1:=g 1 om;have g2:=g 2 om;rw[dX,eP hpl]at g0;rw[hp,zG hk]at g1;rw[hp,CZ hk]at g2;refine⟨t,?_⟩;have e0:c.getD p 0=y:=by simp only[aj,<-g0];rfl
   have e1:c.getD k 0=x:=by simp only[aj,<-g1];rfl
   have e2:c.getD ((k+1)%c.length) 0=z:=by simp only[aj,<-g2];rfl
   rw[<-hp,e0,e1,e2];exact hr
theorem tri_ix(h:Tri c y x z):∃k,k<c.length/\y=c.getD ((k+c.length-1)%c.length) 0/\x=c.getD k 0/\z=c.getD ((k+1)%c.length) 0:=by
 obtain⟨t,h⟩:=h;have hl:c.length=(y::x::z::t).length:=by
  obtain⟨a,b,rfl,h2⟩:=h;rw[h2];simp[Nat.add_comm]
 have h3:3<=c.length:=by rw[hl];simp
 obtain⟨p,hp,hd⟩:=Mv h om;have g:∀j,j<c.length->(y::x::z::t)[j]?=c[(p+j)%c.length]?:=λj hj=>by rw[hd];exact CJ hp hj
 have g0:=g 0 om;have g1:=g 1 om;have g2:=g 2 om;rw[dX,eP hp]at g0;obtain⟨k,hk⟩:∃k,k=(p+1)%c.length:=⟨_,rfl⟩
 have hkl:k<c.length:=by rw[hk];exact nD _ om
 have hpk:(k+c.length-1)%c.length=p:=by
  by_cases h:p+1<c.length
  .rw[eP h]at hk;subst hk;rw[show p+1+c.length-1=p+c.length by omega,Nat.add_mod_right,eP hp]
  .have:p+1=c.length:=om;rw[this,Nat.mod_self]at hk;subst hk;rw[cq,eP om];omega
 have hk2:(p+2)%c.length=(k+1)%c.length:=by
  rw[<-CZ hkl,hpk]
 refine⟨k,hkl,?_,?_,?_⟩
 .rw[hpk,aj,<-g0];rfl
 .rw[hk,aj,<-g1];rfl
 .rw[<-hk2,aj,<-g2];rfl
theorem Bc(h:Rot c d)(hc:c.Nodup):d.Nodup:=by
 obtain⟨a,b,rfl,rfl⟩:=h;exact List.perm_append_comm.nodup_iff.1 hc
theorem zi{s t:List Nat}(h:Rot (x::s) (x::t))(nd:(x::s).Nodup):s=t:=by
 obtain⟨a,b,h1,h2⟩:=h;cases a with
 |nil =>
   simp only[bt,bV]at h1 h2;rw[<-h1]at h2;injection h2 with _ h2;exact h2.symm
 |cons q a =>
   simp only[aH]at h1;injection h1 with h3 h4;subst h3;cases b with
   |nil =>
     simp only[bt,bV]at h2 h4;injection h2 with _ h2;rw[h4,h2]
   |cons r b =>
     simp only[aH]at h2;injection h2 with h5 _;subst h5;exfalso;rw[h4]at nd;exact(aY.1 nd).1 (by simp)
theorem ME(nd:c.Nodup)(h1:Nx c x z)(h2:Nx c x z'):z=z':=by
 obtain⟨t,h1⟩:=h1;obtain⟨t',h2⟩:=h2;have:=zi (h1.symm.trans h2) (Bc h1 nd);injection this
theorem Gd{y':Nat}(nd:c.Nodup)(h1:Tri c y x z)(h2:Tri c y' x z'):y=y':=by
 obtain⟨t,h1⟩:=h1;obtain⟨t',h2⟩:=h2;have a1:Rot c (x::(z::t++[y])):=h1.trans ⟨[y],x::z::t,rfl,rfl⟩;have a2:Rot c (x::(z'::t'++[y'])):=h2.trans ⟨[y'],x::z'::t',rfl,rfl⟩;have:=zi (a1.symm.trans a2) (Bc a1 nd);obtain⟨_,h⟩:=dW this rfl;injection h
theorem CW(nd:c.Nodup)(h3:3<=c.length)(h1:Nx c x z)(h2:Nx c z x):False:=by
 obtain⟨w,hw⟩:=tri_of_nx h2 h3;have e1:=ME nd h1 hw.nx2;subst e1;obtain⟨t,ht⟩:=hw;have:=Bc ht nd;simp at this
theorem KH(p:Pln g B)(L:Lay g B H nf fc)(O:Ori g B H nf fc)(he:e∈B)(hH:H e=true)(hj:jn g e x z=true)(h1:f1<nf)(h2:f2<nf)(n1:Nx (fc f1) x z)(n2:Nx (fc f2) x z):f1=f2:=by
 have hj':jn g e z x=true:=by rw[jn_iff]at hj |-;rcases hj with h|h;exact .inr h;exact .inl h
 obtain⟨f3,h3,n3⟩:=O e he hH z x hj';have on:∀{f u v},f<nf->jn g e u v=true->Nx (fc f) u v->cy g (fc f) e=true:=fun {f u v} hf hj hn=>by
  obtain⟨t,hr⟩:=hn;rw[<-hr.cy];exact jv p (hr.cc (L.circ f hf)) he hj
 obtain⟨a,b,_,_,_,hab⟩:=L.two e he hH;have c1:=on h1 hj n1;have c2:=on h2 hj n2;have c3:=on h3 hj' n3;rw[hab f1 h1]at c1;rw[hab f2 h2]at c2;rw[hab f3 h3]at c3;simp only[du,beq_iff_eq]at c1 c2 c3;have len:∀f,f<nf->3<=(fc f).length:=λf hf=>by
  have:=L.circ f hf;cases hfc:fc f with
  |nil=>rw[hfc]at this;exact this.elim
  |cons q s=>rw[hfc]at this;exact this.2.2
 refine Classical.byContradiction λhne=>?_;have:f3=f1\/f3=f2:=om;rcases this with rfl|rfl
 .exact CW (L.circ _ h1).nodup (len _ h1) n1 n3
 .exact CW (L.circ _ h2).nodup (len _ h2) n2 n3
theorem tri_inj(p:Pln g B)(L:Lay g B H nf fc)(O:Ori g B H nf fc){y1 y2:Nat}(he:e∈B)(hH:H e=true)(hj:jn g e x z=true)(h1:f1<nf)(h2:f2<nf)(t1:Tri (fc f1) y1 x z)(t2:Tri (fc f2) y2 x z):y1=y2:=by
 have:=KH p L O he hH hj h1 h2 t1.nx2 t2.nx2;subst this;exact Gd (L.circ _ h1).nodup t1 t2
theorem cc_len(h:Cc g B c):3<=c.length:=by
 cases c with
 |nil=>exact h.elim
 |cons q s=>exact h.2.2
theorem nx_edge(hc:Cc g B c)(h:Nx c x z):∃e∈B,jn g e x z=true:=by
 obtain⟨t,hr⟩:=h;have:=hr.cc hc;obtain⟨⟨e,he,hj⟩,_⟩:=this.1;exact⟨e,he,hj⟩
end Go.Pla
namespace Go.Proofs.YtlolkmcdimgplaaGreat
open Go.Am
open Go.Pla (at_ jn On Rot Pln Bond Link Part Plc Hg Bld Dual Thr Tri Cc)
variable {Bl:List Nat}{F:List (List Nat)}{f:Nat}{l l':List (Int×AV)}
abbrev qc(h:AH)(mb:Nat)(l:List (Int×AV)):Prop:=MapG (λk:Int=>AV.int .i64 k) h mb l
def DI(g:Go.Blk.Gr)(E:List (Int×Int))(Bl:List Nat)(F:List (List Nat))(d v:Nat):Prop:=∃f y x z i j,f<F.length/\Tri (Go.Pla.fcs F f) y x z/\i∈Bl/\j∈Bl/\jn g i x y=true/\jn g j x z=true/\d=hfE E i x/\v=hfE E j x
structure Trn(g:Go.Blk.Gr)(E:List (Int×Int))(Bl:List Nat)(F:List (List Nat))(l l':List (Int×AV))(f k:Nat):Prop where
 old:∀q,lkG l' q=lkG l q\/∃d v:Nat,q=((d:Nat):Int)/\lkG l' q=some (.int .i64 (v:Nat))/\DI g E Bl F d v
 new:∀f' k',f'<F.length->k'<(Go.Pla.fcs F f').length->(f'<f\/f'=f/\k'<k)->∀i∈Bl,jn g i ((Go.Pla.fcs F f').getD k' 0) ((Go.Pla.fcs F f').getD ((k'+(Go.Pla.fcs F f').length-1)%(Go.Pla.fcs F f').length) 0)=true->∃v:Nat,lkG l' ((hfE E i ((Go.Pla.fcs F f').getD k' 0):Nat):Int)=some (.int .i64 (v:Nat))/\DI g E Bl F (hfE E i ((Go.Pla.fcs F f').getD k' 0)) v
theorem Trn.step{g:Go.Blk.Gr}{E:List (Int×Int)}{k:Nat}(t:Trn g E Bl F l l' f k)(p:Pln g Bl){d v i:Nat}(hT:DI g E Bl F d v)(hi:i∈Bl)(hj:jn g i ((Go.Pla.fcs F f).getD k 0) ((Go.Pla.fcs F f).getD ((k+(Go.Pla.fcs F f).length-1)%(Go.Pla.fcs F f).length) 0)=true)(hd:d=hfE E i ((Go.Pla.fcs F f).getD k 0)):Trn g E Bl F l (upG l' ((d:Nat):Int) (.int .i64 (v:Nat))) f (k+1):=by
 refine⟨λq=>?_,λf' k' hf' hk' ho j hj' hjj=>?_⟩
 .rw[lw];by_cases h:q=((d:Nat):Int)
  .rw[if_pos h];exact .inr ⟨d,v,h,rfl,hT⟩
  .rw[if_neg h];exact t.old q
 .rw[lw];by_cases h:((hfE E j ((Go.Pla.fcs F f').getD k' 0):Nat):Int)=((d:Nat):Int)
  .rw[if_pos h];have h:hfE E j ((Go.Pla.fcs F f').getD k' 0)=d:=om;exact⟨v,rfl,by rw[h];exact hT⟩
  .rw[if_neg h];have ho':f'<f\/f'=f/\k'<k:=by
    rcases ho with ho|⟨rfl,ho⟩
    .exact .inl ho
    .rcases eF k' k with h1|h1
     .exact .inr ⟨rfl,h1⟩
     .exfalso;have:k'=k:=om;subst this;have:=p.one i hi j hj' _ _ hj hjj;subst this;exact h (by rw[hd])
   exact t.new f' k' hf' hk' ho' j hj' hjj
theorem Trn.next{g:Go.Blk.Gr}{E:List (Int×Int)}(t:Trn g E Bl F l l' f (Go.Pla.fcs F f).length):Trn g E Bl F l l' (f+1) 0:=by
 refine⟨t.old,λf' k' hf' hk' ho=>t.new f' k' hf' hk' ?_⟩;rcases ho with ho|⟨_,ho⟩
 .rcases eF f' f with h|h
  .exact .inl h
  .have:f'=f:=om;subst this;exact .inr ⟨rfl,hk'⟩
 .omega
set_option maxHeartbeats 4000000 in
theorem Bo{h:AH}{bb n lo mb:Nat}{ev edv:AV}{E:List (Int×Int)}{la pa:Nat}{H V:Nat->Bool}{fav:AV}(u:Bu h bb n ev edv E Bl la pa H V fav)(hE:InG n E)(hL:∀i,i<E.length->tlE E i≠hdE E i)(hn:n<2^29)(hm:E.length<2^29)(hB:∀i∈Bl,i<E.length)(hBn:Bl.length<2^29)(hp:Pln (grE n E hE hL) Bl)(hF:LL h lo fav F)(hFl:F.length<2^29)(hcc:∀f,f<F.length->Cc (grE n E hE hL) Bl (Go.Pla.fcs F f))(hmp:qc h mb l)(hne:mb≠bb/\mb≠la/\mb≠pa/\mb<lo)(ome:Off (λc=>c=mb) ev)(omd:Off (λc=>c=mb) edv) :
 C prg 34 [.ptr bb 0,.mp mb] h λ_ h'=>∃l',qc h' mb l'/\Kp (λc=>c=mb) h h'/\Trn (grE n E hE hL) E Bl F l l' F.length 0:=by
 have kE:KeyE .ki (λk:Int=>AV.int .i64 k):=xW;refine Ny pf34 ?_;have r5:aA h bb 5 1=some [fav]:=bJ u.o rfl;have lf:=hF.len;refine ai (aD (Mi2 r5 lf) ?_)
 refine gA (α:=List (Int×AV)) (N:=F.length) (λ_ _=>[(12,fav),(0,.ptr bb 0),(1,.mp mb)])
  (λf l' h'=>qc h' mb l'/\Kp (λc=>c=mb) h h'/\Trn (grE n E hE hL) E Bl F l l' f 0) l (λ_ _=>rfl) om (Hi0) ⟨hmp,Ns,λq=>.inl rfl,λf' k' _ _ ho=>by omega⟩ ?_ ?_
 .rintro f l1 ts h1 hf ⟨m1,k1,t1⟩ ⟨ei,en,e12,e0,e1,-⟩;simp only at ei en e12 e0 e1;have F1:=hF.cong λc h1 h2=>k1.gt c h2 om;obtain⟨b2,o2,fv,a2,r2,i2,_⟩:=F1.at hf;have hFf:Go.Pla.fcs F f=F[f]:=by simp[Go.Pla.fcs,List.getD,hf]
  have hcf:=hcc f hf;rw[<-hFf]at i2;have hc3:=Go.Pla.cc_len hcf;have hcn:(Go.Pla.fcs F f).length<=n:=Go.Pla.nd_lt hcf.nodup λz hz=>by
   obtain⟨e,he,ha,_⟩:=Go.Pla.cy_at hp hcf hz;exact Go.Pla.at_lt (hp.lt e he) ha
  have hvn:∀x∈Go.Pla.fcs F f,x<n:=λx hx=>by
   obtain⟨e,he,ha,_⟩:=Go.Pla.cy_at hp hcf hx;exact Go.Pla.at_lt (hp.lt e he) ha
  have lc:=(et i2).len;rw[ah,ah]at lc;refine ai (aD (M4 e12 ei a2 r2) ?_);refine ai (aD (M1 lc) ?_);refine ai (bW (λts h'=>h'=h1/\Held [(22,.int .i64 0),(21,.int .i64 ((Go.Pla.fcs F f).length:Nat)),(20,fv),(14,.int .i64 (f:Nat)),(13,.int .i64 (F.length:Nat)),(12,fav),(0,.ptr bb 0),(1,.mp mb),(5,fv),(6,.int .i64 ((Go.Pla.fcs F f).length:Nat))] ts) (by simp only[am,aI,simprocAttr,ei,en,e12,e0,e1,lc,cG,dl]) ?_);rintro ts h1' ⟨rfl,hh⟩;obtain⟨c,hcd⟩:∃c,c=Go.Pla.fcs F f:=⟨_,rfl⟩
  rw[<-hcd]at i2 hcf hc3 hcn hvn lc hh
  refine gA (α:=List (Int×AV)) (N:=c.length) (λ_ _=>[(20,fv),(14,.int .i64 (f:Nat)),(13,.int .i64 (F.length:Nat)),(12,fav),(0,.ptr bb 0),(1,.mp mb),(5,fv),(6,.int .i64 (c.length:Nat))])
   (λk l' h'=>qc h' mb l'/\Kp (λc=>c=mb) h h'/\Kp (λc=>c=mb) h1' h'/\Trn (grE n E hE hL) E Bl F l l' f k) l1 (λ_ _=>rfl) om hh ⟨m1,k1,Ns,t1⟩ ?_ ?_
  .clear hh;rintro k l2 ts h2 hk ⟨m2,k2,k12,t2⟩ ⟨e22,e21,e20,ei,en,e12,e0,e1,e5,e6,-⟩;simp only at e22 e21 e20 ei en e12 e0 e1 e5 e6;have n1:=k1.nx;have n2:=k2.nx;have ltm:=m1.lt;have iS:∀{h':AH},Kp (λc=>c=mb) h1' h'->IsSl h' 1 lo fv (nC c):=fun {h'} q=>i2.cong λb m _ hb=>q.gt b (i2.lt ‹_›) om;have iF:=iS k12;obtain⟨b3,o3,a3,r3,_⟩:=(et iF).at1 (i:=k) (y:=.int .i64 (c[k]:Nat)) (by rw[aG,aG,ae hk];rfl);have hxm:=aO hk;have hxg:c.getD k 0=c[k]:=by simp[List.getD,hk]
   obtain⟨kp,hkp⟩:∃kp,kp=(k+c.length-1)%c.length:=⟨_,rfl⟩
   obtain⟨kn,hkn⟩:∃kn,kn=(k+1)%c.length:=⟨_,rfl⟩
   have hkpl:kp<c.length:=by rw[hkp];exact nD _ om
   have hknl:kn<c.length:=by rw[hkn];exact nD _ om
   have hpg:c.getD kp 0=c[kp]:=by simp[List.getD,hkpl]
   have hng:c.getD kn 0=c[kn]:=by simp[List.getD,hknl]
   have tri:=Go.Pla.tri_at hk hc3;rw[<-hkp,<-hkn,hxg,hpg,hng]at tri;obtain⟨i,hi,hji⟩:=Go.Pla.nx_edge hcf tri.nx1;obtain⟨j,hj,hjj⟩:=Go.Pla.nx_edge hcf tri.nx2;have hji':jn (grE n E hE hL) i c[k] c[kp]=true:=by rw[Go.Pla.jn_iff]at hji |-;rcases hji with h|h;exact .inr h;exact .inl h
   have hxn:=hvn _ hxm;have hpn:=hvn _ (aO hkpl);have hnn:=hvn _ (aO hknl);obtain⟨b4,o4,a4,r4,_⟩:=(et iF).at1 (i:=kp) (y:=.int .i64 (c[kp]:Nat)) (by rw[aG,aG,ae hkpl];rfl);obtain⟨b6,o6,a6,r6,lb6⟩:=(et iF).at1 (i:=kn) (y:=.int .i64 (c[kn]:Nat)) (by rw[aG,aG,ae hknl];rfl);have wa:IntKind.i64.wrap (((k:Nat):Int)+((c.length:Nat):Int))=((k+c.length:Nat):Int):=by rw[fx om om];omega
   have wb:IntKind.i64.wrap (((k+c.length:Nat):Int)-1)=((k+c.length-1:Nat):Int):=by rw[fx om om];omega
   have wc:((k+c.length-1:Nat):Int).tmod ((c.length:Nat):Int)=((kp:Nat):Int):=by rw[hkp];rfl
   have we:IntKind.i64.wrap (((k:Nat):Int)+1)=((k+1:Nat):Int):=fx om om;have wf:((k+1:Nat):Int).tmod ((c.length:Nat):Int)=((kn:Nat):Int):=by rw[hkn];rfl
   have hne0:((c.length:Nat):Int)≠0:=om;have u2:=u.kp k2 om om om ome omd;refine ai (aD (M4 e20 e22 a3 r3) ?_);have hf1:=vR u2 hE hL om om hB om hp hxn hpn hi hji';refine bS (oK 21 (by simp only[am,aI,simprocAttr,e0,e1,e5,e6,wa,wb,wc,if_neg hne0,we,wf,a4,r4,a6,r6]<;>rfl) rfl (by simp only[am,aI,simprocAttr,e0,e1,e5,e6,wa,wb,wc,if_neg hne0,we,wf,a4,r4,a6,r6]) (by simp only[am,aI,simprocAttr,e0,e1,e5,e6,wa,wb,wc,if_neg hne0,we,wf,a4,r4,a6,r6]<;>rfl) (hf1) λv3 h3 hq=>?_);obtain⟨rfl,x3⟩:=hq;have r63:aA h3 b6 o6 1=some [.int .i64 (c[kn]:Nat)]:=by rw[cU (x3.gt b6 lb6)];exact r6
   refine⟨Z1 r63,?_⟩;have u3:=u2.ext x3 (ab _);have hf2:=vR u3 hE hL om om hB om hp hxn hnn hj hjj;refine jU (Z4 e0 e1 e5 e6) (M4 e0 e1 e5 e6) (hf2) λv4 h4 hq=>?_;obtain⟨rfl,x4⟩:=hq;have n3:=x3.nx;have x24:Ext h2.next h2 h4:=x3.trans (x4.mono n3);have ltm2:=m2.lt;have m4:qc h4 mb l2:=m2.cong (x24.gt _ ltm2);obtain⟨h5,w5,m5,o5,u5⟩:=m4.up kE ((hfE E i c[k]:Nat):Int) (.int .i64 (hfE E j c[k]:Nat));refine bM (M1 w5) ?_;have k25:Kp (λc=>c=mb) h2 h5:=(x24.kp (S:=λc=>c=mb) (ab _)).trans (u5.kp (S:=λc=>c=mb) rfl) (λ_ _ q=>q);refine⟨_,⟨m5,k2.trans k25 (λ_ _ q=>q),k12.trans k25 (λ_ _ q=>q),?_⟩,H10 e22 e21 e20 ei en e12 e0 e1 e5 e6⟩;refine t2.step hp (i:=i) ⟨f,c[kp],c[k],c[kn],i,j,hf,by rw[<-hcd];exact tri,hi,hj,hji',hjj,rfl,rfl⟩ hi ?_ ?_
   .rw[<-hcd,hxg,<-hkp,hpg];exact hji'
   .rw[<-hcd,hxg]
  .rintro l2 ts h2 ⟨m2,k2,k12,t2⟩ ⟨e20,ei,en,e12,e0,e1,e5,e6,-⟩;simp only at ei en e12 e0 e1;rw[hcd]at t2;exact⟨l2,⟨m2,k2,t2.next⟩,H5 ei en e12 e0 e1⟩
 .rintro l1 ts h1 ⟨m1,k1,t1⟩ _;exact⟨.tup [],rfl,l1,m1,k1,t1⟩
end Go.Proofs.YtlolkmcdimgplaaGreat
namespace Go.Pla
def it(nx:Nat->Nat):Nat->Nat->Nat
 |0,d=>d
 |k+1,d=>nx (it nx k d)
variable {nx:Nat->Nat}{N:Nat}
theorem it_lt(hc:∀d,d<N->nx d<N){d:Nat}(hd:d<N):∀k,it nx k d<N
 |0=>hd
 |k+1=>hc _ (it_lt hc hd k)
theorem MP(a b d:Nat):it nx (a+b) d=it nx a (it nx b d):=by
 induction a with
 |zero=>rw[cq];rfl
 |succ a ih=>rw[show a+1+b=(a+b)+1 by omega];show nx _=nx _;rw[ih]
theorem wx(hc:∀d,d<N->nx d<N)(hi:∀a b,a<N->b<N->nx a=nx b->a=b){a b:Nat}(ha:a<N)(hb:b<N):∀k,it nx k a=it nx k b->a=b
 |0,h=>h
 |k+1,h=>wx hc hi ha hb k (hi _ _ (it_lt hc ha k) (it_lt hc hb k) h)
theorem least{P:Nat->Prop}{q:Nat}(h:P q):∃r,r<=q/\P r/\∀k,k<r->¬P k:=by
 induction q using Nat.strongRecOn with
 |_ q ih =>
   by_cases hk:∃k,k<q/\P k
   .obtain⟨k,h1,h2⟩:=hk;obtain⟨r,a,b,c⟩:=ih k h1 h2;exact⟨r,om,b,c⟩
   .exact⟨q,ab _,h,λk hk' hp=>hk ⟨k,hk',hp⟩⟩
def Back(nx:Nat->Nat)(d r:Nat):Prop:=0<r/\it nx r d=d/\∀k,0<k->k<r->it nx k d≠d
theorem back_of(hc:∀d,d<N->nx d<N)(hi:∀a b,a<N->b<N->nx a=nx b->a=b){d:Nat}(hd:d<N):∃r,r<=N/\Back nx d r:=by
 have h1:∃q,0<q/\q<=N/\it nx q d=d:=by
  refine Classical.byContradiction λhno=>?_;have nd:((List.range (N+1)).map λk=>it nx k d).Nodup:=by
   rw[List.Nodup,dH];refine List.Pairwise.imp_of_mem ?_ (List.pairwise_lt_range (n:=N+1));intro a b ha hb hab he;rw[aq]at ha hb;obtain⟨k,rfl⟩:∃k,b=k+a:=⟨b-a,om⟩
   rw[show k+a=a+k by omega,MP]at he;have:=wx hc hi hd (it_lt hc hd k) a he;exact hno ⟨k,om,om,this.symm⟩
  have:=nd_lt nd (n:=N) λx hx=>by
   obtain⟨k,_,rfl⟩:=bG.1 hx;exact it_lt hc hd k
  rw[ah,br]at this;omega
 obtain⟨q,h2,h3,h4⟩:=h1;obtain⟨r,a,b,c⟩:=least (P:=λq=>0<q/\it nx q d=d) ⟨h2,h4⟩;exact⟨r,om,b.1,b.2,λk hk hkr he=>c k hkr ⟨hk,he⟩⟩
def orb(nx:Nat->Nat)(d r:Nat):List Nat:=(List.range r).map λk=>it nx k d
theorem orb_len{d r:Nat}:(orb nx d r).length=r:=by simp[orb]
theorem orb_succ{d k:Nat}:orb nx d (k+1)=orb nx d k++[it nx k d]:=by
 rw[orb,cJ,bR];rfl
end Go.Pla
namespace Go.Proofs.YtlolkmcdimgplaaGreat
open Go.Am
open Go.Pla (it orb Back orb_succ orb_len)
variable {b:List Nat}{i m:Nat}{l:Nat->Nat}
set_option maxHeartbeats 2000000 in
theorem Bt{h:AH}{lo mb N r d:Nat}{lv:AV}{xs:List Nat}{l:List (Int×AV)}{nx:Nat->Nat}(hl:IsSl h 1 lo lv (nC xs))(hlo:lo<=h.next)(hm:qc h mb l)(hc:∀d,d<N->nx d<N)(hk:∀d,d<N->lkG l ((d:Nat):Int)=some (.int .i64 (nx d:Nat)))(hd:d<N)(hb:Back nx d r)(hx:xs.length+r<2^34) :
 C prg 35 [lv,.int .i64 (d:Nat),.mp mb] h λv h'=>IsSl h' 1 lo v (nC (xs++orb nx d r))/\Ext lo h h'/\h.next<=h'.next/\(∀c,c<h.next->(∀b n,lv=.sl b 0 n n->c≠b)->h'.get c=h.get c)/\∀b n,v=.sl b 0 n n->h.next<=b:=by
 have kE:KeyE .ki (λk:Int=>AV.int .i64 k):=xW;have hmb:∀b n,lv=.sl b 0 n n->mb≠b:=λb n e=>by
  rintro rfl;obtain⟨es,c,g,_⟩:=hm;rcases hl with⟨h1,_⟩|⟨b',m,_,h1,h2,_⟩
  .rw[h1]at e;cases e
  .rw[h1]at e;cases e;rw[g]at h2;cases h2
 refine Ny pf35 ?_;refine ai (aD (Mi0) ?_);refine ai (aD (Mi0) ?_);refine cA (fO (λm ts h'=>∃k v,m=r-k/\k<r/\aR ts 0=v/\aR ts 1=.int .i64 (d:Nat)/\aR ts 2=.mp mb/\aR ts 7=.int .i64 (it nx k d:Nat)/\IsSl h' 1 lo v (nC (xs++orb nx d k))/\Ext lo h h'/\h.next<=h'.next/\(∀c,c<h.next->(∀b n,lv=.sl b 0 n n->c≠b)->h'.get c=h.get c)/\∀b n,v=.sl b 0 n n->(v=lv\/h.next<=b)) ?_ (n:=r) ⟨0,lv,rfl,hb.1,Zi0,Zi0,Zi0,by simp only[am,aI,simprocAttr,bP];rfl,by simpa[orb]using hl,Nu,ab _,λ_ _ _=>rfl,λ_ _ _=>.inl rfl⟩);rintro m ts h1 ⟨k,v,rfl,hkr,e0,e1,e2,e7,i1,x1,n1,fr,nw⟩;refine cA ?_;obtain⟨v',h2,a2,i2,x2,n2,fr2,nw2⟩:=IsSl.grow i1 om (by rw[aB,orb_len];omega) (it nx k d);refine ai (bW (λts h'=>h'=h2/\aR ts 0=v'/\aR ts 1=.int .i64 (d:Nat)/\aR ts 2=.mp mb/\aR ts 7=.int .i64 (it nx k d:Nat)) (by simp only[am,aI,simprocAttr,e0,e1,e2,e7,a2]) ?_);rintro ts h2' ⟨rfl,e0,e1,e2,e7⟩;have hkN:=Go.Pla.it_lt hc hd k;have frT:∀c,c<h.next->(∀b n,lv=.sl b 0 n n->c≠b)->h2'.get c=h.get c:=λc hcl hno=>by
  rw[fr2 c om λb n e=>?_,fr c hcl hno];rcases nw b n e with q|q
  .exact hno b n (q▸e)
  .omega
 have m2:qc h2' mb l:=hm.cong (frT mb hm.lt hmb);have lk:=m2.look kE (.int .i64 0) ((it nx k d:Nat):Int);rw[hk _ hkN,er]at lk;refine ai (bW (λts h'=>h'=h2'/\aR ts 0=v'/\aR ts 1=.int .i64 (d:Nat)/\aR ts 2=.mp mb/\aR ts 7=.int .i64 (it nx (k+1) d:Nat)) (by simp only[am,aI,simprocAttr,e0,e1,e2,e7,lk];rfl) ?_);rintro ts h3 ⟨rfl,e0,e1,e2,e7⟩;rw[bO,<-orb_succ]at i2;by_cases q:it nx (k+1) d=d
 .have dq:decide (((it nx (k+1) d:Nat):Int)=((d:Nat):Int))=true:=by rw[decide_eq_true_iff,q]
  refine ai (aD (M3 e1 e7 dq) ?_);refine dv (Z1 dq) ?_;refine ai (aD (M1 e0) ?_);have:k+1=r:=by
   rcases eF (k+1) r with h1|h1
   .exact absurd q (hb.2.2 _ om h1)
   .omega
  subst this;exact bU ⟨v',(by simp only[rs,rf35,am,aI,simprocAttr,e0]<;>rfl),i2,x1.trans x2,om,frT,λb n e=>by have:=nw2 b n e;omega⟩
 .have dq:decide (((it nx (k+1) d:Nat):Int)=((d:Nat):Int))=false:=by rw[aZ];omega
  refine ai (bW (λts h'=>h'=h3/\aR ts 0=v'/\aR ts 1=.int .i64 (d:Nat)/\aR ts 2=.mp mb/\aR ts 7=.int .i64 (it nx (k+1) d:Nat)/\aR ts 18=.bool false) (by simp only[am,aI,simprocAttr,e0,e1,e2,e7,dq]) ?_);rintro ts h4 ⟨rfl,e0,e1,e2,e7,e18⟩;refine dR (Z1 e18) (bQ ?_);have hlt:k+1<r:=by
   rcases eF (k+1) r with h1|h1
   .exact h1
   .exfalso;have:k+1=r:=om;rw[this]at q;exact q hb.2.1
  exact⟨r-(k+1),om,k+1,v',rfl,hlt,e0,e1,e2,e7,i2,x1.trans x2,om,frT,λb n e=>.inr (by have:=nw2 b n e;omega)⟩
open Go.Am
open Go.Blk (Gr Lst canon IsBlock Cls Rel)
theorem IC{g:Gr}(hl:Lst g l)(hb:b∈canon g.m l):IsBlock g b:=by
 unfold canon at hb;obtain⟨i,hi,rfl⟩:=bG.1 hb;rw[aJ,aq,beq_iff_eq]at hi;refine⟨λe=>?_,λj hj k hk=>?_,λj hj k r=>?_⟩
 .have:i∈(List.range g.m).filter λk=>l k==i:=by rw[aJ,aq,beq_iff_eq];exact hi
  rw[e]at this;cases this
 .rw[aJ,aq,beq_iff_eq]at hj hk;exact(hl.iff hj.1 hk.1).1 (hj.2.trans hk.2.symm)
 .rw[aJ,aq,beq_iff_eq]at hj |-;have hk:k<g.m:=by obtain⟨x,_,q,_⟩:=r;exact q.1
  exact⟨hk,(hl.same j k hj.1 hk r).symm.trans hj.2⟩
theorem cn_lt(hb:b∈canon m l):b≠[]/\(∀i∈b,i<m)/\b.length<=m/\b.Nodup:=by
 unfold canon at hb;obtain⟨i,hi,rfl⟩:=bG.1 hb;rw[aJ,aq]at hi;refine⟨λe=>?_,λk hk=>?_,?_,List.nodup_range.filter _⟩
 .have:i∈(List.range m).filter λk=>l k==i:=by rw[aJ,aq];exact hi
  rw[e]at this;cases this
 .rw[aJ,aq]at hk;exact hk.1
 .have:=cF (λk=>l k==i) (List.range m);rwa [br]at this
theorem Nc:(canon m l).length<=m:=by
 unfold canon;rw[ah];have:=cF (λi=>l i==i) (List.range m);rwa [br]at this
theorem Nf(h2:∀i,i<m->l i<m)(h3:∀i,i<m->l (l i)=l i)(hi:i<m):∃b∈canon m l,i∈b:=by
 refine⟨(List.range m).filter λk=>l k==l i,?_,?_⟩
 .unfold canon;exact bG.2 ⟨l i,by rw[aJ,aq,beq_iff_eq];exact⟨h2 i hi,h3 i hi⟩,rfl⟩
 .rw[aJ,aq,beq_iff_eq];exact⟨hi,rfl⟩
theorem Nd{c:List Nat}(hb:b∈canon m l)(hc:c∈canon m l)(h1:i∈b)(h2:i∈c):b=c:=by
 unfold canon at hb hc;obtain⟨p,_,rfl⟩:=bG.1 hb;obtain⟨q,_,rfl⟩:=bG.1 hc;rw[aJ,aq,beq_iff_eq]at h1 h2;rw[<-h1.2,<-h2.2]
theorem Dx:(canon m l).flatten.Nodup:=by
 unfold canon;rw[List.Nodup,vz];refine⟨λb hb=>?_,?_⟩
 .obtain⟨i,_,rfl⟩:=bG.1 hb;exact List.nodup_range.filter _
 .rw[dH];refine List.Pairwise.imp ?_ (List.nodup_range.filter _);intro p q hpq x hx y hy e;subst e;rw[aJ,beq_iff_eq]at hx hy;exact hpq (hx.2.symm.trans hy.2)
theorem KN{g:Gr}(hl:Lst g l):(∀i,i<g.m->l i<g.m)/\∀i,i<g.m->l (l i)=l i :=
 ⟨λi hi=>Nat.lt_of_le_of_lt (hl.le i hi) hi,λi hi=>(hl.eqc hi (hl.cls i hi)).symm⟩
open Go.Am
open Go.Pla (at_ jn On Rot Pln Bond Link Part Plc Hg Bld Dual Thr Tri Cc)
open Go.Blk (Lst canon)
def BlkT(g:Go.Blk.Gr)(E:List (Int×Int))(b:List Nat)(l:List (Int×AV)):Prop :=
 (∃e,b=[e]/\lkG l ((2*e:Nat):Int)=some (.int .i64 (2*e:Nat))/\lkG l ((2*e+1:Nat):Int)=some (.int .i64 (2*e+1:Nat))) \/
 ∃H V F,Bld g b H V F/\(∀e∈b,H e=true)/\∀f,f<F.length->∀y x z,Tri (Go.Pla.fcs F f) y x z->∀i∈b,jn g i x y=true->∃v:Nat,lkG l ((hfE E i x:Nat):Int)=some (.int .i64 (v:Nat))/\DI g E b F (hfE E i x) v
theorem oQ{E:List (Int×Int)}{x:Nat}:hfE E i x/2=i:=by
 unfold hfE;split<;>omega
def sL(E:List (Int×Int))(d:Nat):Nat:=if d%2=0 then tlE E (d/2)else hdE E (d/2)
section
variable {F:List (List Nat)}{b:List Nat}{d y:Nat}{l l':List (Int×AV)}
variable {n:Nat}{E:List (Int×Int)}{hE:InG n E}{hL:∀i,i<E.length->tlE E i≠hdE E i}
theorem xZ(hL:∀i,i<E.length->tlE E i≠hdE E i)(hd:d/2<E.length):hfE E (d/2) (sL E d)=d:=by
 unfold hfE sL;have:=hL _ hd;by_cases h:d%2=0
 .rw[if_pos h,if_pos rfl];omega
 .rw[if_neg h,if_neg this];omega
theorem jt{i x:Nat}(hi:i<E.length)(h:at_ (grE n E hE hL) i x=true):sL E (hfE E i x)=x:=by
 rw[jA hi]at h;simp only[lU,du,aK]at h;unfold sL hfE;by_cases q:tlE E i=x
 .rw[if_pos q,if_pos om,show 2*i/2=i by omega,q]
 .rw[if_neg q,if_neg om,show(2*i+1)/2=i by omega];rcases h with h|h
  .exact absurd h q
  .exact h
theorem yy(hd:d/2<E.length):at_ (grE n E hE hL) (d/2) (sL E d)=true:=by
 rw[jA hd];unfold sL;split<;>simp[lU]
theorem uj{i x:Nat}(hi:i<E.length)(h:jn (grE n E hE hL) i x y=true):at_ (grE n E hE hL) i x=true:=by
 rw[jA hi];rw[Go.Pla.jn_iff]at h;have h:(tlE E i=x/\hdE E i=y)\/(tlE E i=y/\hdE E i=x):=h;simp only[lU,du,aK];omega
theorem zT{i x:Nat}(hi:i<E.length)(h:at_ (grE n E hE hL) i x=true):∃y,jn (grE n E hE hL) i x y=true:=by
 rw[jA hi]at h;simp only[lU,du,aK]at h;rcases h with h|h
 .exact⟨hdE E i,by rw[Go.Pla.jn_iff];exact .inl ⟨h,rfl⟩⟩
 .exact⟨tlE E i,by rw[Go.Pla.jn_iff];exact .inr ⟨rfl,h⟩⟩
theorem KV{i x z:Nat}(hi:i<E.length)(h:jn (grE n E hE hL) i x y=true)(h2:jn (grE n E hE hL) i x z=true):y=z:=by
 rw[Go.Pla.jn_iff]at h h2;have h:(tlE E i=x/\hdE E i=y)\/(tlE E i=y/\hdE E i=x):=h;have h2:(tlE E i=x/\hdE E i=z)\/(tlE E i=z/\hdE E i=x):=h2;have:=hL i hi;omega
theorem IX(t:BlkT (grE n E hE hL) E b l)(p:Pln (grE n E hE hL) b){i x:Nat}(hi:i∈b)(hx:at_ (grE n E hE hL) i x=true):∃v j:Nat,lkG l ((hfE E i x:Nat):Int)=some (.int .i64 (v:Nat))/\j∈b/\v=hfE E j x/\at_ (grE n E hE hL) j x=true:=by
 have hiE:i<E.length:=p.lt i hi;rcases t with⟨e,rfl,h1,h2⟩|⟨H,V,F,I,hall,ht⟩
 .have:i=e:=by simpa using hi
  subst this;refine⟨hfE E i x,i,?_,by simp,rfl,hx⟩;unfold hfE;split
  .exact h1
  .exact h2
 .obtain⟨y,hj⟩:=zT hiE hx;obtain⟨f,hf,hn⟩:=I.ori i hi (hall i hi) y x (by rw[Go.Pla.jn_symm];exact hj);obtain⟨z,htri⟩:=Go.Pla.tri_of_nx hn (Go.Pla.cc_len (I.lay.circ f hf));obtain⟨v,h1,f',y',x',z',i',j,hf',tri',hi',hj',hji,hjj,hd,hv⟩:=ht f hf y x z htri i hi hj;have hii:i=i':=by
   have:=congrArg (· / 2) hd;simp only[oQ]at this;exact this
  subst hii;have hxx:x=x':=by
   rw[<-jt hiE hx,hd,jt hiE (uj hiE hji)]
  subst hxx;exact⟨v,j,h1,hj',hv,uj (p.lt j hj') hjj⟩
theorem IY(t:BlkT (grE n E hE hL) E b l)(p:Pln (grE n E hE hL) b){i x i' x':Nat}(hi:i∈b)(hx:at_ (grE n E hE hL) i x=true)(hi':i'∈b)(hx':at_ (grE n E hE hL) i' x'=true)(he:lkG l ((hfE E i x:Nat):Int)=lkG l ((hfE E i' x':Nat):Int)):i=i'/\x=x':=by
 have hiE:i<E.length:=p.lt i hi;have hiE':i'<E.length:=p.lt i' hi';rcases t with⟨e,rfl,h1,h2⟩|⟨H,V,F,I,hall,ht⟩
 .have:i=e:=by simpa using hi
  subst this;have:i'=i:=by simpa using hi'
  subst this;refine⟨rfl,?_⟩;have key:hfE E i' x=hfE E i' x':=by
   have hv:∀{w},lkG l ((hfE E i' w:Nat):Int)=some (.int .i64 ((hfE E i' w:Nat):Int)):=fun {w}=>by
    unfold hfE;split
    .exact h1
    .exact h2
   rw[hv,hv]at he;simp only[aa,AV.int.injEq,true_and]at he;omega
  rw[<-jt hiE hx,key,jt hiE hx']
 .have get:∀{i x:Nat},i∈b->at_ (grE n E hE hL) i x=true->∃(v f y z j:Nat),lkG l ((hfE E i x:Nat):Int)=some (.int .i64 (v:Nat))/\f<F.length/\Tri (Go.Pla.fcs F f) y x z/\j∈b/\jn (grE n E hE hL) i x y=true/\jn (grE n E hE hL) j x z=true/\v=hfE E j x:=fun {i x} hi hx=>by
   have hiE:i<E.length:=p.lt i hi;obtain⟨y,hj⟩:=zT hiE hx;obtain⟨f,hf,hn⟩:=I.ori i hi (hall i hi) y x (by rw[Go.Pla.jn_symm];exact hj);obtain⟨z,htri⟩:=Go.Pla.tri_of_nx hn (Go.Pla.cc_len (I.lay.circ f hf));obtain⟨v,h1,f',y',x',z',i',j,hf',tri',hi',hj',hji,hjj,hd,hv⟩:=ht f hf y x z htri i hi hj;have hii:i=i':=by
    have:=congrArg (· / 2) hd;simp only[oQ]at this;exact this
   subst hii;have hxx:x=x':=by
    rw[<-jt hiE hx,hd,jt hiE (uj hiE hji)]
   subst hxx;exact⟨v,f',y',z',j,h1,hf',tri',hj',hji,hjj,hv⟩
  obtain⟨v,f,y,z,j,a1,a2,a3,a4,a5,a6,a7⟩:=get hi hx;obtain⟨v',f',y',z',j',b1,b2,b3,b4,b5,b6,b7⟩:=get hi' hx';rw[a1,b1]at he;simp only[aa,AV.int.injEq,true_and]at he;have hvv:v=v':=om;rw[a7,b7]at hvv;have hjj:j=j':=by
   have:=congrArg (· / 2) hvv;simp only[oQ]at this;exact this
  subst hjj;have hjE:j<E.length:=p.lt j a4;have hxx:x=x':=by
   rw[<-jt hjE (uj hjE a6),hvv,jt hjE (uj hjE b6)]
  subst hxx;have hzz:=KV hjE a6 b6;subst hzz;have hyy:=Go.Pla.tri_inj p I.lay I.ori a4 (hall j a4) a6 a2 b2 a3 b3;subst hyy;exact⟨p.one i hi i' hi' _ _ a5 b5,rfl⟩
theorem BlkT.keep{g:Go.Blk.Gr}(t:BlkT g E b l)(h:∀d:Nat,d/2∈b->lkG l' ((d:Nat):Int)=lkG l ((d:Nat):Int)):BlkT g E b l':=by
 rcases t with⟨e,rfl,h1,h2⟩|⟨H,V,F,I,hall,ht⟩
 .exact .inl ⟨e,rfl,by rw[h _ (by simp)];exact h1,by rw[h _ (by rw[show(2*e+1)/2=e by omega];simp)];exact h2⟩
 .refine .inr ⟨H,V,F,I,hall,λf hf y x z tri i hi hj=>?_⟩;rw[h _ (by rw[oQ];exact hi)];exact ht f hf y x z tri i hi hj
theorem Gc{g:Go.Blk.Gr}{k:Nat}(t:Trn g E b F l l' k 0){d:Nat}(hd:d/2∉b):lkG l' ((d:Nat):Int)=lkG l ((d:Nat):Int):=by
 rcases t.old ((d:Nat):Int)with h|⟨d',v,h1,_,f,y,x,z,i,j,_,_,hi,_,_,_,h2,_⟩
 .exact h
 .have:d=d':=om;subst this;rw[h2,oQ]at hd;exact absurd hi hd
theorem Jz{g:Go.Blk.Gr}{H V:Nat->Bool}(t:Trn g E b F l l' F.length 0)(I:Bld g b H V F)(hall:∀e∈b,H e=true):BlkT g E b l':=by
 refine .inr ⟨H,V,F,I,hall,λf hf y x z tri i hi hj=>?_⟩;obtain⟨k,hk,h1,h2,h3⟩:=Go.Pla.tri_ix tri;rw[h1,h2]at hj;have:=t.new f k hf hk (.inl hf) i hi hj;rw[<-h2]at this;exact this
theorem Ho{bs:List (List Nat)}(ht:∀b∈bs,BlkT (grE n E hE hL) E b l)(hp:∀b∈bs,Pln (grE n E hE hL) b)(cov:∀i,i<E.length->∃b∈bs,i∈b)(dis:∀b∈bs,∀c∈bs,∀i,i∈b->i∈c->b=c) :
 ∃nx:Nat->Nat,(∀d,d<2*E.length->nx d<2*E.length)/\(∀d,d<2*E.length->lkG l ((d:Nat):Int)=some (.int .i64 (nx d:Nat)))/\(∀a b,a<2*E.length->b<2*E.length->nx a=nx b->a=b)/\∀d,d<2*E.length->sL E (nx d)=sL E d:=by
 have get:∀d,d<2*E.length->∃v:Nat,lkG l ((d:Nat):Int)=some (.int .i64 (v:Nat))/\v<2*E.length/\sL E v=sL E d/\∃b∈bs,d/2∈b/\v/2∈b:=λd hd=>by
  have hd2:d/2<E.length:=om;obtain⟨b,hb,hib⟩:=cov _ hd2;obtain⟨v,j,h1,h2,h3,h4⟩:=IX (ht b hb) (hp b hb) hib (yy hd2);rw[xZ hL hd2]at h1;have hjE:j<E.length:=(hp b hb).lt j h2;refine⟨v,h1,?_,by rw[h3,jt hjE h4],b,hb,hib,by rw[h3,oQ];exact h2⟩;rw[h3];unfold hfE;split<;>omega
 refine⟨λd=>if h:d<2*E.length then Classical.choose (get d h)else 0,λd hd=>?_,λd hd=>?_,λa b ha hb he=>?_,λd hd=>?_⟩
 .simp only[dif_pos hd];exact(Classical.choose_spec (get d hd)).2.1
 .simp only[dif_pos hd];exact(Classical.choose_spec (get d hd)).1
 .simp only[dif_pos ha,dif_pos hb]at he;obtain⟨a1,a2,a3,c,hc,a4,a5⟩:=Classical.choose_spec (get a ha);obtain⟨b1,b2,b3,c',hc',b4,b5⟩:=Classical.choose_spec (get b hb);rw[he]at a5;have:=dis c hc c' hc' _ a5 b5;subst this;rw[he,<-b1]at a1;have ha2:a/2<E.length:=om;have hb2:b/2<E.length:=om;have e1:=xZ (E:=E) hL ha2;have e2:=xZ (E:=E) hL hb2;have:=IY (ht c hc) (hp c hc) a4 (yy ha2) b4 (yy hb2) (by rw[e1,e2];exact a1);rw[<-e1,<-e2,this.1,this.2]
 .simp only[dif_pos hd];exact(Classical.choose_spec (get d hd)).2.2.1
end
end Go.Proofs.YtlolkmcdimgplaaGreat
namespace Go.Spl
def addG{α:Type}[DecidableEq α](ks:List α)(k:α):List α:=if k∈ks then ks else ks++[k]
section
variable {α:Type} [DecidableEq α]
theorem Jj{ks:List α}{k x:α}:x∈addG ks k↔x∈ks\/x=k:=by
 unfold addG;split
 .rename_i h
  constructor
  .exact .inl
  .rintro (h'|rfl)
   .exact h'
   .exact h
 .simp
theorem Cq{ks:List α}{k:α}(h:ks.Nodup):(addG ks k).Nodup:=by
 unfold addG;split
 .exact h
 .rename_i hk
  rw[aN];refine⟨h,by simp,λa ha b hb=>?_⟩;rw[aP]at hb;subst hb;rintro rfl;exact hk ha
theorem addAllG_mem:∀{l ks:List α}{x:α},x∈l.foldl addG ks↔x∈ks\/x∈l
 |[],ks,x=>by simp
 |a::r,ks,x=>by rw[gu,addAllG_mem,Jj,ao,or_assoc]
theorem addAllG_nodup:∀{l ks:List α},ks.Nodup->(l.foldl addG ks).Nodup
 |[],_,h=>h
 |_::r,_,h=>addAllG_nodup (l:=r) (Cq h)
theorem addAllG_len:∀(l ks:List α),(l.foldl addG ks).length<=ks.length+l.length/\((l.foldl addG ks).length=ks.length+l.length↔l.Nodup/\∀x∈l,x∉ks)
 |[],ks=>by simp
 |a::r,ks=>by
   obtain⟨h1,h2⟩:=addAllG_len r (addG ks a);rw[gu,ar];by_cases q:a∈ks
   .have e:addG ks a=ks:=if_pos q;rw[e]at h1 h2;rw[e];refine⟨om,⟨λh=>by omega,λh=>absurd q (h.2 a (aM ..))⟩⟩
   .have e:addG ks a=ks++[a]:=if_neg q;rw[e]at h1 h2;rw[e];rw[aB,ar,aU]at h1 h2;refine⟨om,?_⟩;have:((r.foldl addG (ks++[a])).length=ks.length+(r.length+1))↔((r.foldl addG (ks++[a])).length=ks.length+(0+1)+r.length):=om;rw[this,h2,aY];constructor
    .rintro⟨n1,n2⟩;refine⟨⟨λh=>n2 a h (by simp),n1⟩,λx hx=>?_⟩;rcases ao.1 hx with rfl|hx
     .exact q
     .exact λh=>n2 x hx (bg _ h)
    .rintro⟨⟨n1,n2⟩,n3⟩;refine⟨n2,λx hx hm=>?_⟩;rcases aw.1 hm with h|h
     .exact n3 x (aQ _ hx) h
     .rw[aP]at h;subst h;exact n1 hx
end
end Go.Spl
