/- Five vertices, all joined -/
import Derived.Test.YtlolkmcdimgplaaGreatVTAW
set_option linter.all false
namespace Go.Pla
open Go.Blk
variable {g g':Gr}{B:List Nat}{Φ:Type}{l r:Nat->Φ}
theorem Even.gr{X:Nat->Bool}(h:Even g B X)(ha:∀e∈B,∀v,at_ g e v=at_ g' e v):Even g' B X:=λv=>by
 rw[<-h v];exact bD λe he=>by rw[ha e he v]
theorem Dual.gr(d:Dual g B l r)(ha:∀e∈B,∀v,at_ g e v=at_ g' e v):Dual g' B l r where
 two:=λS=>(d.two S).gr ha
 one:=λX hX=>d.one X (hX.gr λe he v=>(ha e he v).symm)
theorem Ip:Dual g [] (λ_=>()) (λ_=>()) where
 two:=λ_ _=>rfl
 one:=λ_ _=>⟨λ_=>false,by simp⟩
theorem jp{m:Nat}{p:Nat->Bool}:par (List.range (m+1)) p=(par (List.range m) p^^p m):=by
 rw[cJ,sW];simp[par]
theorem wF{m x:Nat}(hx:∀e,e<m->at_ g e x=false)(hm:at_ g m x=true){X:Nat->Bool}(h:Even g (List.range (m+1)) X):X m=false:=by
 have:=h x;rw[jp,eH λe he=>by rw[hx e (aq.1 he),jR],hm]at this;simpa using this
theorem zY{m x:Nat}(hx:∀e,e<m->at_ g e x=false)(hm:at_ g m x=true):(∃(Φ:Type) (l r:Nat->Φ),Dual g (List.range (m+1)) l r)↔∃(Φ:Type) (l r:Nat->Φ),Dual g (List.range m) l r:=by
 constructor
 .rintro⟨Φ,l,r,d⟩;refine⟨Φ,l,r,λS v=>?_,λX hX=>?_⟩
  .have h1:=d.two S v;have h2:(S (l m)^^S (r m))=false:=wF hx hm (d.two S);rw[jp]at h1;dsimp only at h1;rw[h2]at h1;simpa using h1
  .obtain⟨S,hS⟩:=d.one (λe=>X e&&decide (e<m)) λv=>by
    rw[jp,bD (q:=λe=>X e&&at_ g e v) (λe he=>by simp[aq.1 he]),hX v];simp
   refine⟨S,λe he=>?_⟩;have hem:=aq.1 he;have:=hS e (aq.2 om);simpa[hem]using this
 .rintro⟨Φ,l,r,d⟩;refine⟨Φ,λe=>if e=m then l m else l e,λe=>if e=m then l m else r e,λS v=>?_,λX hX=>?_⟩
  .rw[jp,bD (q:=λe=>(S (l e)^^S (r e))&&at_ g e v) (λe he=>by
    have:e≠m:=by have:=aq.1 he;omega
    simp[this]),d.two S v]
   simp
  .have h0:=wF hx hm hX;obtain⟨S,hS⟩:=d.one X λv=>by
    have:=hX v;rw[jp,h0]at this;simpa using this
   refine⟨S,λe he=>?_⟩;by_cases hem:e=m
   .subst hem;simp[h0]
   .have hlt:e<m:=by have:=aq.1 he;omega
    simp only[if_neg hem];exact hS e (aq.2 hlt)
theorem Cx{m k x:Nat}(hk:k<m)(h1:∀e,e<m->e≠k->∀v,at_ g' e v=at_ g e v)(h2:∀v,v≠x->at_ g k v=(at_ g' k v^^at_ g' m v))(h3:∀e,e<m->at_ g e x=false)(h4:at_ g' k x=true)(h5:at_ g' m x=true) :
 (∃(Φ:Type) (l r:Nat->Φ),Dual g' (List.range (m+1)) l r)↔∃(Φ:Type) (l r:Nat->Φ),Dual g (List.range m) l r:=by
 have hkm:k∈List.range m:=aq.2 hk;have both:∀{X},Even g' (List.range (m+1)) X->X m=X k:=fun {X} hX=>by
  have:=hX x;rw[jp,bD (q:=λe=>(e==k)&&X e) (λe he=>by
   by_cases q:e=k
   .subst q;rw[h4];simp
   .rw[h1 e (aq.1 he) q x,h3 e (aq.1 he)];simp[q]),dG be hkm,h5]at this
  cases hm:X m<;>cases hk':X k<;>simp[hm,hk']at this |-
 have shift:∀{X:Nat->Bool}{v:Nat},X m=X k->v≠x->par (List.range (m+1)) (λe=>X e&&at_ g' e v)=par (List.range m) (λe=>X e&&at_ g e v):=fun {X v} hm hv=>by
  rw[jp,hm,bD (l:=List.range m) (p:=λe=>X e&&at_ g e v) (q:=λe=>(X e&&at_ g' e v)^^((e==k)&&(X e&&at_ g' m v))) (λe he=>by
   by_cases q:e=k
   .subst q;rw[h2 v hv];simp only[beq_self_eq_true,nK];cases X e<;>simp
   .have q':(e==k)=false:=by rw[beq_eq_false_iff_ne];exact q
    rw[h1 e (aq.1 he) q v,q',mf,cX]),ew,dG be hkm]
 have ev1:∀{X:Nat->Bool},Even g' (List.range (m+1)) X->Even g (List.range m) X:=fun {X} hX v=>by
  by_cases hv:v=x
  .subst hv;exact eH λe he=>by rw[h3 e (aq.1 he),jR]
  .rw[<-shift (both hX) hv];exact hX v
 have ev2:∀{X:Nat->Bool},Even g (List.range m) X->X m=X k->Even g' (List.range (m+1)) X:=fun {X} hX hm v=>by
  by_cases hv:v=x
  .subst hv;rw[jp,bD (q:=λe=>(e==k)&&X e) (λe he=>by
    by_cases q:e=k
    .subst q;rw[h4];simp
    .rw[h1 e (aq.1 he) q v,h3 e (aq.1 he)];simp[q]),dG be hkm,h5,hm]
   simp
  .rw[shift hm hv];exact hX v
 constructor
 .rintro⟨Φ,l,r,d⟩;refine⟨Φ,l,r,λS=>ev1 (d.two S),λX hX=>?_⟩;obtain⟨S,hS⟩:=d.one (λe=>if e=m then X k else X e) (ev2 (hX.congr λe he=>by
   have:e≠m:=by have:=aq.1 he;omega
   simp[this]) (by have:k≠m:=om
                   simp[this]))
  refine⟨S,λe he=>?_⟩;have hem:=aq.1 he;have:=hS e (aq.2 om);rwa [if_neg om]at this
 .rintro⟨Φ,l,r,d⟩;refine⟨Φ,λe=>if e=m then l k else l e,λe=>if e=m then r k else r e,λS=>ev2 ((d.two S).congr λe he=>by
   have:e≠m:=by have:=aq.1 he;omega
   simp[this]) (by have:k≠m:=om
                   simp[this]),λX hX=>?_⟩
  obtain⟨S,hS⟩:=d.one X (ev1 hX);refine⟨S,λe he=>?_⟩;by_cases hem:e=m
  .subst hem;simp only[if_true];rw[both hX];exact hS k hkm
  .simp only[if_neg hem];exact hS e (aq.2 (by have:=aq.1 he;omega))
end Go.Pla
namespace Go.Proofs.YtlolkmcdimgplaaGreat
open Go.Am
open Go.Pla (Dual at_)
variable {E:List (Int×Int)}{n:Nat}
theorem xY(hP:ip n E)(hE:InG n E)(hL:∀i,i<E.length->tlE E i≠hdE E i):IsP n E↔∃(Φ:Type) (l r:Nat->Φ),Dual (grE n E hE hL) (List.range E.length) l r :=
 ⟨λh=>h.2 hE hL,λh=>⟨hP,λ_ _=>h⟩⟩
theorem MS(h:∀e∈E,∃a b:Nat,e=(((a:Nat):Int),((b:Nat):Int))/\a<n/\b<n):InG n E:=λi hi=>by
 obtain⟨a,b,e,ha,hb⟩:=h E[i] (aO hi);have:=tlE_getD' hi e;rw[this.1,this.2];exact⟨e,ha,hb⟩
where
 tlE_getD' {E:List (Int×Int)}{a b:Nat}{i:Nat} (hi:i<E.length) (h:E[i]=(((a:Nat):Int),((b:Nat):Int))):tlE E i=a/\hdE E i=b:=by
  unfold tlE hdE;rw[aj,ae hi,h];simp
theorem MT(h:InG n E):∀e∈E,∃a b:Nat,e=(((a:Nat):Int),((b:Nat):Int))/\a<n/\b<n:=λe he=>by
 obtain⟨i,hi,rfl⟩:=hG.1 he;exact⟨_,_,(h i hi).1,(h i hi).2.1,(h i hi).2.2⟩
theorem GR{n:Nat}(h1:1<=n)(h2:n<=64)(h3:E.length<=128)(hE:InG n E)(hL:∀i,i<E.length->tlE E i≠hdE E i)
 (hD:∀i j,i<j->j<E.length->¬((tlE E i=tlE E j/\hdE E i=hdE E j)\/(tlE E i=hdE E j/\hdE E i=tlE E j))):ip (n:Nat) E:=by
 refine⟨?_,λe he=>?_,?_⟩
 .unfold pM;have:E.all (okE (n:Nat))=true:=by
   rw[bZ];intro e he;obtain⟨a,b,rfl,ha,hb⟩:=MT hE e he;unfold okE;simp only[aL,aK];omega
  rw[this];simp only[fW,aL,aK];omega
 .obtain⟨i,hi,rfl⟩:=hG.1 he;have:=hL i hi;rw[(hE i hi).1];simp only;omega
 .rw[qg,dH,dm];intro i j hi hj hij e;rw[sX]at e;refine hD i j hij hj ?_;rw[(hE i hi).1,(hE j hj).1]at e;simp only[ak]at e;omega
theorem zo(hP:ip (n:Nat) E):∀i j,i<j->j<E.length->¬((tlE E i=tlE E j/\hdE E i=hdE E j)\/(tlE E i=hdE E j/\hdE E i=tlE E j)):=λi j hij hj hc=>by
 have hE:InG n E:=by simpa using mX hP.1
 have:=hP.2.2;rw[qg,dH,dm]at this;refine this i j om hj hij (sX.2 ?_);rw[(hE i om).1,(hE j hj).1];simp only[ak];omega
end Go.Proofs.YtlolkmcdimgplaaGreat
namespace Go.Pla
section
open Go.Blk
variable {g:Gr}{σ:Nat->Nat}{k:Nat}
theorem xE{α β:Type}{f:α->β}{q:β->Bool}:∀{l:List α},par (l.map f) q=par l λx=>q (f x)
 |[]=>rfl
 |x::l=>by simp only[aS,par];rw[xE]
end
open Go.Blk
theorem dual_pick{g g':Gr}{f ν:Nat->Nat}(hf:∀j,j<g'.m->f j<g.m)(fi:∀i j,i<g'.m->j<g'.m->f i=f j->i=j)(νi:∀u v,u<g.n->v<g.n->ν u=ν v->u=v)
 (ht:∀j,j<g'.m->g'.tl j=ν (g.tl (f j))/\g'.hd j=ν (g.hd (f j))) (h:∃(Φ:Type) (l r:Nat->Φ),Dual g (List.range g.m) l r):∃(Φ:Type) (l r:Nat->Φ),Dual g' (List.range g'.m) l r:=by
 obtain⟨Φ,l0,r0,d0⟩:=h;have nd:((List.range g'.m).map f).Nodup:=by
  rw[List.Nodup,dH];refine List.Pairwise.imp_of_mem ?_ (be (n:=g'.m));intro a b ha hb hab he;exact hab (fi a b (aq.1 ha) (aq.1 hb) he)
 obtain⟨l,r,d⟩:=sub_dual (A:=List.range g.m) be nd (λe he=>by
  obtain⟨j,hj,rfl⟩:=bG.1 he;exact aq.2 (hf j (aq.1 hj))) d0
 have at1:∀j,j<g'.m->∀u,u<g.n->at_ g' j (ν u)=at_ g (f j) u:=λj hj u hu=>by
  have hok:=g.ok _ (hf j hj);have e1:(ν (g.tl (f j))==ν u)=(g.tl (f j)==u):=by
   rw[eq,beq_iff_eq,beq_iff_eq];exact⟨λe=>νi _ _ hok.1 hu e,λe=>by rw[e]⟩
  have e2:(ν (g.hd (f j))==ν u)=(g.hd (f j)==u):=by
   rw[eq,beq_iff_eq,beq_iff_eq];exact⟨λe=>νi _ _ hok.2.1 hu e,λe=>by rw[e]⟩
  unfold at_;rw[(ht j hj).1,(ht j hj).2,e1,e2]
 have at2:∀v,(∀u,u<g.n->ν u≠v)->∀j,j<g'.m->at_ g' j v=false:=λv hv j hj=>by
  have hok:=g.ok _ (hf j hj);have e1:(ν (g.tl (f j))==v)=false:=by rw[beq_eq_false_iff_ne];exact hv _ hok.1
  have e2:(ν (g.hd (f j))==v)=false:=by rw[beq_eq_false_iff_ne];exact hv _ hok.2.1
  unfold at_;rw[(ht j hj).1,(ht j hj).2,e1,e2];rfl
 refine⟨Φ,λj=>l (f j),λj=>r (f j),λS v=>?_,λX hX=>?_⟩
 .by_cases hv:∃u,u<g.n/\ν u=v
  .obtain⟨u,hu,rfl⟩:=hv;have:=d.two S u;rw[xE]at this;rw[<-this];exact bD λj hj=>by rw[at1 j (aq.1 hj) u hu]
  .refine eH λj hj=>?_;rw[at2 v (λu hu e=>hv ⟨u,hu,e⟩) j (aq.1 hj),jR]
 .obtain⟨Y,hY⟩:∃Y:Nat->Bool,∀j,j<g'.m->Y (f j)=X j:=by
   classical
   refine⟨λe=>decide (∃j,j<g'.m/\f j=e/\X j=true),λj hj=>?_⟩;rw[eq,aK];constructor
   .rintro⟨i,hi,he,hx⟩;rw[<-fi i j hi hj he];exact hx
   .intro hx;exact⟨j,hj,rfl,hx⟩
  obtain⟨S,hS⟩:=d.one Y λu=>by
   rw[xE];by_cases hu:u<g.n
   .rw[bD (q:=λj=>X j&&at_ g' j (ν u)) λj hj=>by rw[hY j (aq.1 hj),at1 j (aq.1 hj) u hu]];exact hX (ν u)
   .refine eH λj hj=>?_;have hok:=g.ok _ (hf j (aq.1 hj));have e1:(g.tl (f j)==u)=false:=by rw[beq_eq_false_iff_ne];omega
    have e2:(g.hd (f j)==u)=false:=by rw[beq_eq_false_iff_ne];omega
    unfold at_;rw[e1,e2];simp
  refine⟨S,λj hj=>?_⟩;rw[<-hY j (aq.1 hj)];exact hS (f j) (bG.2 ⟨j,hj,rfl⟩)
end Go.Pla
namespace Go.Proofs.YtlolkmcdimgplaaGreat
open Go.Am
open Go.Pla (Dual at_)
variable {E:List (Int×Int)}{L:List Nat}{ν:Nat->Nat}
def gG(E:List (Int×Int))(ν:Nat->Nat)(L:List Nat):List (Int×Int):=L.map λi=>(((ν (tlE E i):Nat):Int),((ν (hdE E i):Nat):Int))
theorem jh:(gG E ν L).length=L.length:=by simp[gG]
theorem jm{j:Nat}(hj:j<L.length):tlE (gG E ν L) j=ν (tlE E L[j])/\hdE (gG E ν L) j=ν (hdE E L[j]):=by
 have:(gG E ν L).getD j (0,0)=(((ν (tlE E L[j]):Nat):Int),((ν (hdE E L[j]):Nat):Int)):=by
  unfold gG;rw[aj,aG,ae hj];rfl
 show((gG E ν L).getD j (0,0)).1.toNat=_/\((gG E ν L).getD j (0,0)).2.toNat=_;rw[this];exact⟨dn _,dn _⟩
theorem tN{n:Nat}(hP:ip (n:Nat) E)(nd:L.Nodup)(hLt:∀i∈L,i<E.length)(hν:∀v,v<n->ν v<n)(νi:∀u v,u<n->v<n->ν u=ν v->u=v):ip (n:Nat) (gG E ν L)/\InG n (gG E ν L)/\∀j,j<(gG E ν L).length->tlE (gG E ν L) j≠hdE (gG E ν L) j:=by
 have hE:InG n E:=by simpa using mX hP.1
 have hL:=vW hP.1 hP.2.1;have hE':InG n (gG E ν L):=MS λe he=>by
  obtain⟨i,hi,rfl⟩:=bG.1 he;have:=hE i (hLt i hi);exact⟨_,_,rfl,hν _ this.2.1,hν _ this.2.2⟩
 have hlen:L.length<=E.length:=Go.Pla.nd_lt nd hLt;have hL':∀j,j<(gG E ν L).length->tlE (gG E ν L) j≠hdE (gG E ν L) j:=λj hj=>by
  rw[jh]at hj;rw[(jm hj).1,(jm hj).2];have hi:=hLt _ (aO hj);exact λe=>hL _ hi (νi _ _ (hE _ hi).2.1 (hE _ hi).2.2 e)
 obtain⟨m1,m2,m3,m4⟩:=xO hP.1;have hP':ip (n:Nat) (gG E ν L):=GR m1 m2 (by rw[jh];omega) hE' hL' λi j hij hj hc=>by
  rw[jh]at hj;have hi:i<L.length:=om;rw[(jm hi).1,(jm hi).2,(jm hj).1,(jm hj).2]at hc;have bi:=hE _ (hLt _ (aO hi));have bj:=hE _ (hLt _ (aO hj));have hne:L[i]≠L[j]:=λe=>by
   have:=(dm.1 nd) i j hi hj hij;exact this e
  have key:(tlE E L[i]=tlE E L[j]/\hdE E L[i]=hdE E L[j])\/(tlE E L[i]=hdE E L[j]/\hdE E L[i]=tlE E L[j]):=by
   rcases hc with⟨c1,c2⟩|⟨c1,c2⟩
   .exact .inl ⟨νi _ _ bi.2.1 bj.2.1 c1,νi _ _ bi.2.2 bj.2.2 c2⟩
   .exact .inr ⟨νi _ _ bi.2.1 bj.2.2 c1,νi _ _ bi.2.2 bj.2.1 c2⟩
  rcases Nat.lt_or_gt_of_ne hne with q|q
  .exact zo hP _ _ q (hLt _ (aO hj)) key
  .refine zo hP _ _ q (hLt _ (aO hi)) ?_;rcases key with⟨c1,c2⟩|⟨c1,c2⟩
   .exact .inl ⟨c1.symm,c2.symm⟩
   .exact .inr ⟨c2.symm,c1.symm⟩
 exact⟨hP',hE',hL'⟩
theorem HJ{n:Nat}(h:IsP (n:Nat) E)(nd:L.Nodup)(hLt:∀i∈L,i<E.length)(hν:∀v,v<n->ν v<n)(νi:∀u v,u<n->v<n->ν u=ν v->u=v):IsP (n:Nat) (gG E ν L):=by
 have hP:=h.1;have hE:InG n E:=by simpa using mX hP.1
 have hL:=vW hP.1 hP.2.1;obtain⟨hP',hE',hL'⟩:=tN hP nd hLt hν νi;rw[xY hP' hE' hL'];rw[xY hP hE hL]at h;have hd:=Go.Pla.dual_pick (g:=grE n E hE hL) (g':=grE n (gG E ν L) hE' hL') (f:=λj=>L.getD j 0) (ν:=ν) (λj hj=>?_) (λi j hi hj e=>?_) νi (λj hj=>?_) h
 .exact hd
 .have hj:j<L.length:=by rw[<-jh (E:=E) (ν:=ν)];exact hj
  show L.getD j 0<E.length;rw[aj,ae hj];exact hLt _ (aO hj)
 .have hi:i<L.length:=by rw[<-jh (E:=E) (ν:=ν)];exact hi
  have hj:j<L.length:=by rw[<-jh (E:=E) (ν:=ν)];exact hj
  simp only[aj,ae hj,ae hi,er]at e;rcases jF i j with q|q|q
  .exact absurd e ((dm.1 nd) i j hi hj q)
  .exact q
  .exact absurd e.symm ((dm.1 nd) j i hj hi q)
 .have hj:j<L.length:=by rw[<-jh (E:=E) (ν:=ν)];exact hj
  have:=jm (E:=E) (ν:=ν) hj;simp only[aj,ae hj,er];exact this
end Go.Proofs.YtlolkmcdimgplaaGreat
namespace Go.Pla
open Go.Blk
variable {g:Gr}{B:List Nat}{Φ:Type}
theorem oa{p:Nat->Bool}(nd:B.Nodup)(h:par B p=false){e:Nat}(he:e∈B)(hp:p e=true):∃k∈B,k≠e/\p k=true:=by
 refine Classical.byContradiction λhno=>?_;rw[bD (q:=λj=>(j==e)&&true) (λj hj=>by
  by_cases q:j=e
  .subst q;simp[hp]
  .have q':(j==e)=false:=by rw[beq_eq_false_iff_ne];exact q
   rw[q',mf];cases hpj:p j with
   |false=>rfl
   |true=>exact absurd ⟨j,hj,q,hpj⟩ hno),dG (p:=λ_=>true) nd he]at h
 cases h
theorem oN:∀{a b:List Nat},a.Nodup->(∀x∈a,x∈b)->a.length<=b.length
 |[],_,_,_=>dx _
 |x::a,b,nd,h=>by
   obtain⟨h1,h2⟩:=aY.1 nd;have hx:=h x (by simp);have:=oN (b:=b.erase x) h2 λy hy=>(hM λ(q:y=x)=>h1 (q▸hy)).2 (h y (by simp[hy]));rw[ff hx]at this;have:=uZ hx;rw[ar];omega
theorem BL(p:Pln g B){X:Nat->Bool}(hX:Even g B X){e:Nat}(he:e∈B)(hXe:X e=true):3<=B.countP X:=by
 have hne:=p.ne he;have a1:at_ g e (g.tl e)=true:=by unfold at_;simp[Ne.symm hne]
 have a2:at_ g e (g.hd e)=true:=by unfold at_;simp[hne]
 obtain⟨k1,hk1,n1,x1⟩:=oa p.nd (hX (g.tl e)) he (by simp[hXe,a1]);obtain⟨k2,hk2,n2,x2⟩:=oa p.nd (hX (g.hd e)) he (by simp[hXe,a2]);simp only[aL]at x1 x2;have h12:k1≠k2:=λq=>by
  subst q;refine n1 (p.one k1 hk1 e he (g.tl e) (g.hd e) ?_ (jn_iff.2 (.inl ⟨rfl,rfl⟩)));have:=p.ne hk1;have y1:=((at_inc (p.lt k1 hk1)).1 x1.2).2;have y2:=((at_inc (p.lt k1 hk1)).1 x2.2).2;rw[jn_iff];omega
 have nd3:[e,k1,k2].Nodup:=by simp[Ne.symm n1,Ne.symm n2,h12]
 have hsub:∀x∈[e,k1,k2],x∈B.filter X:=λx hx=>by
  simp only[ao,bd,or_false]at hx;rw[aJ];rcases hx with rfl|rfl|rfl
  .exact⟨he,hXe⟩
  .exact⟨hk1,x1.1⟩
  .exact⟨hk2,x2.1⟩
 rw[di];exact oN nd3 hsub
theorem tR:∀(L:List Φ),∃D:List Φ,D.Nodup/\∀x,x∈D↔x∈L
 |[]=>⟨[],fI,λ_=>Iff.rfl⟩
 |y::L=>by
   obtain⟨D,h1,h2⟩:=tR L;by_cases h:y∈D
   .exact⟨D,h1,λx=>by
     rw[ao,h2];constructor
     .exact .inr
     .rintro (rfl|q)
      .exact(h2 _).1 h
      .exact q⟩
   .exact⟨y::D,aY.2 ⟨h,h1⟩,λx=>by rw[ao,ao,h2]⟩
theorem mq{α β:Type}{p:α->β->Bool}{L:List β}:∀{D:List α},(D.map λa=>L.countP (p a)).sum=(L.map λb=>D.countP λa=>p a b).sum
 |[]=>by induction L with
   |nil=>rfl
   |cons b L ih=>simpa using ih
 |a::D=>by
   rw[aS,eA,mq (D:=D)];clear mq;induction L with
   |nil=>rfl
   |cons b L ih =>
     simp only[aS,eA,dV]at ih |-;omega
theorem tB{α:Type}{f:α->Nat}{c:Nat}:∀{L:List α},(∀a∈L,f a<=c)->(L.map f).sum<=L.length*c
 |[],_=>by simp
 |a::L,h=>by
   rw[aS,eA,ar,cT];have:=h a (by simp);have:=tB (L:=L) λb hb=>h b (by simp[hb]);omega
theorem uc{α:Type}{f:α->Nat}{c:Nat}:∀{L:List α},(∀a∈L,c<=f a)->L.length*c<=(L.map f).sum
 |[],_=>by simp
 |a::L,h=>by
   rw[aS,eA,ar,cT];have:=h a (by simp);have:=uc (L:=L) λb hb=>h b (by simp[hb]);omega
open Classical in
theorem oV{D:List Φ}(nd:D.Nodup){x:Φ}:D.countP (λa=>decide (x=a))<=1:=by
 induction D with
 |nil=>simp
 |cons y D ih =>
   obtain⟨h1,h2⟩:=aY.1 nd;rw[dV];by_cases q:x=y
   .subst q;have:D.countP (λa=>decide (x=a))=0:=by
     rw[List.countP_eq_zero];intro a ha;simp only[aK];rintro rfl;exact h1 ha
    rw[this];simp
   .have:=ih h2;simp[q];simpa using this
def cod(S:Φ->Bool):List Φ->Nat
 |[]=>0
 |a::D=>2*cod S D+if S a then 1 else 0
theorem uL{S:Φ->Bool}:∀{D:List Φ},cod S D<2^D.length
 |[]=>by simp[cod]
 |a::D=>by
   have:=uL (S:=S) (D:=D);rw[cod,ar,Nat.pow_succ];split<;>omega
theorem qK{S S':Φ->Bool}:∀{D:List Φ},cod S D=cod S' D->∀a∈D,S a=S' a
 |[],_,a,ha=>by simp at ha
 |b::D,h,a,ha=>by
   rw[cod,cod]at h;have h1:cod S D=cod S' D/\S b=S' b:=by
    cases hb:S b<;>cases hb':S' b<;>simp[hb,hb']at h |-<;>omega
   rcases ao.1 ha with rfl|ha
   .exact h1.2
   .exact qK h1.1 a ha
theorem BB{l r:Nat->Φ}(p:Pln g B)(d:Dual g B l r){k:Nat}{X:Nat->Nat->Bool}(hX:∀c,c<2^k->Even g B (X c))(hi:∀c c',c<2^k->c'<2^k->(∀e∈B,X c e=X c' e)->c=c')(hc:∀e∈B,∃c,c<2^k/\X c e=true)(hB:B≠[]):3*(k+1)<=2*B.length:=by
 classical
 have hlr:∀e∈B,l e≠r e:=λe he q=>by
  obtain⟨c,h1,h2⟩:=hc e he;obtain⟨S,hS⟩:=d.one _ (hX c h1);have:=hS e he;rw[h2,q]at this;simp at this
 obtain⟨D,nd,hD⟩:=tR (B.flatMap λe=>[l e,r e]);have hDm:∀x,x∈D↔∃e∈B,x=l e\/x=r e:=λx=>by rw[hD];simp
 have h3:∀x∈D,3<=B.countP λe=>(decide (l e=x)^^decide (r e=x)):=λx hx=>by
  obtain⟨e,he,hxe⟩:=(hDm x).1 hx;refine BL p (X:=λe=>(decide (l e=x)^^decide (r e=x))) (d.two λa=>decide (a=x)) he ?_;have:=hlr e he;rcases hxe with rfl|rfl
  .simp[Ne.symm this]
  .simp[this]
 have hsum:=uc h3;rw[mq]at hsum;have hup:=tB (L:=B) (f:=λe=>D.countP λx=>(decide (l e=x)^^decide (r e=x))) (c:=2) λe he=>by
  have h1:=oV nd (x:=l e);have h2:=oV nd (x:=r e);have:∀(D:List Φ),D.countP (λx=>(decide (l e=x)^^decide (r e=x)))<=D.countP (λx=>decide (l e=x))+D.countP λx=>decide (r e=x):=by
   intro D;induction D with
   |nil=>simp
   |cons y D ih =>
     rw[dV,dV,dV];generalize decide (l e=y)=u;generalize decide (r e=y)=v;cases u<;>cases v<;>simp<;>omega
  have:=this D;omega
 obtain⟨e0,he0⟩:=dE B hB;obtain⟨x0,D',hDD⟩:∃x0 D',D=x0::D':=dL λq=>by
  have:=(hDm (l e0)).2 ⟨e0,he0,.inl rfl⟩;rw[q]at this;simp at this
 have hS:∀c,∃S:Φ->Bool,c<2^k->S x0=false/\∀e∈B,X c e=(S (l e)^^S (r e)):=λc=>by
  by_cases h:c<2^k
  .obtain⟨S,hS⟩:=d.one _ (hX c h);refine⟨λa=>S a^^S x0,λ_=>⟨by simp,λe he=>?_⟩⟩;rw[hS e he];dsimp only;cases S (l e)<;>cases S (r e)<;>cases S x0<;>rfl
  .exact⟨λ_=>false,λh'=>absurd h' h⟩
 obtain⟨S,hS⟩:∃S:Nat->Φ->Bool,∀c,c<2^k->S c x0=false/\∀e∈B,X c e=(S c (l e)^^S c (r e)):=⟨λc=>Classical.choose (hS c),λc=>Classical.choose_spec (hS c)⟩
 have ndc:((List.range (2^k)).map λc=>cod (S c) D').Nodup:=by
  rw[List.Nodup,dH];refine List.Pairwise.imp_of_mem ?_ (be (n:=2^k));intro a b ha hb hab he;rw[aq]at ha hb;have heq:=qK he;refine hab (hi a b ha hb λe he=>?_);have hon:∀x∈D,S a x=S b x:=λx hx=>by
   rw[hDD]at hx;rcases ao.1 hx with rfl|hx
   .rw[(hS a ha).1,(hS b hb).1]
   .exact heq x hx
  rw[(hS a ha).2 e he,(hS b hb).2 e he,hon _ ((hDm _).2 ⟨e,he,.inl rfl⟩),hon _ ((hDm _).2 ⟨e,he,.inr rfl⟩)]
 have hle:=nd_lt ndc (n:=2^D'.length) λx hx=>by
  obtain⟨c,_,rfl⟩:=bG.1 hx;exact uL
 rw[ah,br]at hle;have hkd:k<=D'.length:=(Nat.pow_le_pow_iff_right om).1 hle;have hDl:D.length=D'.length+1:=by rw[hDD];rfl
 omega
open Go.Blk
def t5(e:Nat):Nat:=[0,0,0,0,1,1,1,2,2,3].getD e 0
def h5(e:Nat):Nat:=[1,2,3,4,2,3,4,3,4,4].getD e 0
section
open Go.Blk
def ixo:List Nat->Nat->Nat
 |[],_=>0
 |x::l,d=>if x=d then 0 else ixo l d+1
theorem mV:∀{l:List Nat}{d:Nat},d∈l->ixo l d<l.length/\l.getD (ixo l d) 0=d
 |[],d,h=>by simp at h
 |x::l,d,h=>by
   unfold ixo;by_cases e:x=d
   .rw[if_pos e];subst e;simp
   .rw[if_neg e];have:=mV (l:=l) (d:=d) (by
     rcases ao.1 h with h|h
     .exact absurd h.symm e
     .exact h)
    exact⟨by rw[ar];omega,by rw[ph];exact this.2⟩
theorem Ac{l:List Nat}{i:Nat}(h:i<l.length):l.getD i 0∈l:=by
 rw[aj,ae h];exact aO h
variable {g:Gr}{T:List (List Nat)}
end
open Go.Blk
variable {i j m:Nat}
def g59:Gr where
 m:=9
 n:=5
 tl:=t5
 hd:=h5
 ok:=by decide
theorem p59(X:Nat->Bool)(v:Nat):par (List.range 9) (λe=>X e&&at_ g59 e v)=((X 0&&((0==v)^^(1==v)))^^(X 1&&((0==v)^^(2==v)))^^(X 2&&((0==v)^^(3==v)))^^(X 3&&((0==v)^^(4==v)))^^(X 4&&((1==v)^^(2==v)))^^(X 5&&((1==v)^^(3==v)))^^(X 6&&((1==v)^^(4==v)))^^(X 7&&((2==v)^^(3==v)))^^(X 8&&((2==v)^^(4==v)))):=by
 have:List.range 9=[0,1,2,3,4,5,6,7,8]:=rfl;rw[this];simp[par,at_,g59,t5,h5]
theorem b59a:∀a b c d e f:Bool,((a^^d)^^(b^^e)^^(a^^b)^^(d^^e))=false/\((a^^d)^^(c^^f)^^(a^^c)^^(d^^f))=false/\((b^^e)^^(c^^f)^^(b^^c)^^(e^^f))=false/\((a^^b)^^(a^^c)^^(b^^c))=false/\((d^^e)^^(d^^f)^^(e^^f))=false:=by decide
theorem b59b:∀x0 x1 x2 x3 x4 x5 x6 x7 x8:Bool,(x0^^x1^^x2^^x3)=false->(x0^^x4^^x5^^x6)=false->(x1^^x4^^x7^^x8)=false->(x3^^x6^^x8)=false ->
 x2=((x0^^x6)^^(x1^^x8))/\x3=(x6^^x8)/\x5=((x0^^x6)^^x4)/\x7=((x1^^x8)^^x4):=by decide
theorem Hq:∃(Φ:Type) (l r:Nat->Φ),Dual g59 (List.range 9) l r:=by
 refine⟨Nat,λe=>[0,1,0,3,2,0,3,1,4].getD e 0,λe=>[3,4,1,4,5,2,5,2,5].getD e 0,λS v=>?_,λX hX=>?_⟩
 .rw[p59];obtain⟨h0,h1,h2,h3,h4⟩:=b59a (S 0) (S 1) (S 2) (S 3) (S 4) (S 5);have e0:v=0\/v=1\/v=2\/v=3\/v=4\/5<=v:=om;rcases e0 with rfl|rfl|rfl|rfl|rfl|h
  .rw[<-h0];simp
  .rw[<-h1];simp
  .rw[<-h2];simp
  .rw[<-h3];simp
  .rw[<-h4];simp
  .have h0:(0==v)=false:=by rw[beq_eq_false_iff_ne];omega
   have h1:(1==v)=false:=by rw[beq_eq_false_iff_ne];omega
   have h2:(2==v)=false:=by rw[beq_eq_false_iff_ne];omega
   have h3:(3==v)=false:=by rw[beq_eq_false_iff_ne];omega
   have h4:(4==v)=false:=by rw[beq_eq_false_iff_ne];omega
   simp[h0,h1,h2,h3,h4]
 .have a0:=hX 0;have a1:=hX 1;have a2:=hX 2;have a4:=hX 4;rw[p59]at a0 a1 a2 a4;obtain⟨y2,y3,y5,y7⟩:=b59b (X 0) (X 1) (X 2) (X 3) (X 4) (X 5) (X 6) (X 7) (X 8) (by rw[<-a0];simp) (by rw[<-a1];simp) (by rw[<-a2];simp) (by rw[<-a4];simp);refine⟨λf=>if f=0 then X 0^^X 6 else if f=1 then X 1^^X 8 else if f=2 then X 4 else if f=3 then X 6 else if f=4 then X 8 else false,λe he=>?_⟩;have he:=aq.1 he;have:e=0\/e=1\/e=2\/e=3\/e=4\/e=5\/e=6\/e=7\/e=8:=om;rcases this with rfl|rfl|rfl|rfl|rfl|rfl|rfl|rfl|rfl
  .simp
  .simp
  .rw[y2];simp
  .rw[y3];simp
  .simp
  .rw[y5];simp
  .simp
  .rw[y7];simp
  .simp
def sw2(i j e:Nat):Nat:=if e=i then j else if e=j then i else e
theorem tA{e:Nat}(hi:i<m)(hj:j<m)(he:e<m):sw2 i j e<m:=by
 unfold sw2;split
 .exact hj
 .split<;>assumption
theorem jS{i j e:Nat}:sw2 i j (sw2 i j e)=e:=by
 unfold sw2;by_cases h1:e=i
 .subst h1;simp only[if_true];by_cases h2:j=e<;>simp[h2]
 .rw[if_neg h1];by_cases h2:e=j
  .subst h2;simp
  .rw[if_neg h2,if_neg h1,if_neg h2]
def swG(g:Gr)(i j:Nat)(hi:i<g.m)(hj:j<g.m):Gr where
 m:=g.m
 n:=g.n
 tl:=λe=>g.tl (sw2 i j e)
 hd:=λe=>g.hd (sw2 i j e)
 ok:=λe he=>g.ok _ (tA hi hj he)
theorem tz{g:Gr}(hi:i<g.m)(hj:j<g.m)(h:∃(Φ:Type) (l r:Nat->Φ),Dual (swG g i j hi hj) (List.range g.m) l r):∃(Φ:Type) (l r:Nat->Φ),Dual g (List.range g.m) l r :=
 dual_pick (g:=swG g i j hi hj) (g':=g) (f:=sw2 i j) (ν:=λv=>v) (λe he=>tA hi hj he) (λa b _ _ h=>by rw[<-@jS i j a,h,jS]) (λ_ _ _ _ h=>h)
  (λe _=>⟨by show g.tl e=g.tl (sw2 i j (sw2 i j e));rw[jS],by show g.hd e=g.hd (sw2 i j (sw2 i j e));rw[jS]⟩) h
theorem mO{g:Gr}(hi:i<g.m)(hj:j<g.m){e v:Nat}:at_ (swG g i j hi hj) e v=at_ g (sw2 i j e) v:=rfl
theorem Mx{g:Gr}{k:Nat}(hk:k<m)(h:∀v,at_ g m v=at_ g k v)(hd:∃(Φ:Type) (l r:Nat->Φ),Dual g (List.range m) l r):∃(Φ:Type) (l r:Nat->Φ),Dual g (List.range (m+1)) l r:=by
 obtain⟨Φ,l,r,d⟩:=hd;have hkm:k∈List.range m:=aq.2 hk;have key:∀(X:Nat->Bool) v,par (List.range (m+1)) (λe=>X e&&at_ g e v)=par (List.range m) (λe=>(X e^^((e==k)&&X m))&&at_ g e v):=λX v=>by
  rw[jp,h v,bD (l:=List.range m) (p:=λe=>(X e^^((e==k)&&X m))&&at_ g e v) (q:=λe=>(X e&&at_ g e v)^^((e==k)&&(X m&&at_ g e v))) (λe _=>by
   cases X e<;>cases X m<;>cases at_ g e v<;>cases (e==k)<;>rfl),ew,dG (p:=λe=>X m&&at_ g e v) be hkm]
 refine⟨Option Φ,λe=>if e=m then none else some (l e),λe=>if e=m then some (r k)else if e=k then none else some (r e),λS v=>?_,λX hX=>?_⟩
 .rw[key,<-d.two (λa=>S (some a)) v];refine bD λe he=>?_;have hem:e≠m:=by have:=aq.1 he;omega
  simp only[if_neg hem,if_true];by_cases q:e=k
  .subst q;simp only[if_true,beq_self_eq_true,nK];cases S (some (l e))<;>cases S none<;>cases S (some (r e))<;>rfl
  .have q':(e==k)=false:=by rw[beq_eq_false_iff_ne];exact q
   simp only[if_neg q,q',mf,cX]
 .obtain⟨S,hS⟩:=d.one (λe=>X e^^((e==k)&&X m)) λv=>by rw[<-key];exact hX v
  have hSk:=hS k hkm;simp only[beq_self_eq_true,nK]at hSk;refine⟨λa=>match a with|none=>S (l k)^^X k|some b=>S b,λe he=>?_⟩;by_cases hem:e=m
  .subst hem;simp only[if_true];revert hSk;cases S (l k)<;>cases S (r k)<;>cases X k<;>cases X e<;>simp
  .have hlt:e<m:=by have:=aq.1 he;omega
   simp only[if_neg hem];by_cases q:e=k
   .subst q;simp only[if_true];cases S (l e)<;>cases X e<;>rfl
   .have q':(e==k)=false:=by rw[beq_eq_false_iff_ne];exact q
    have:=hS e (aq.2 hlt);simp only[q',mf,cX]at this;simp only[if_neg q];exact this
def LW(x y:Nat):Bool:=x==y||(x==3&&y==4)||(x==4&&y==3)||(List.range 9).any λc=>(t5 c==x&&h5 c==y)||(t5 c==y&&h5 c==x)
theorem JA:((List.range 5).all λx=>(List.range 5).all λy=>LW x y)=true:=by decide
theorem tri59(x:Nat)(hx:x<5)(y:Nat)(hy:y<5)(h1:x≠y)(h2:¬(x=3/\y=4))(h3:¬(x=4/\y=3)):∃c,c<9/\((t5 c=x/\h5 c=y)\/(t5 c=y/\h5 c=x)):=by
 have h:=bZ.1 (bZ.1 JA x (aq.2 hx)) y (aq.2 hy);unfold LW at h;simp only[du,aL,beq_iff_eq,fU,aq]at h;rcases h with((h|h)|h)|h
 .exact absurd h h1
 .exact absurd h h2
 .exact absurd h h3
 .exact h
theorem dif5:∀c,c<10->∀d,d<10->((t5 c=t5 d/\h5 c=h5 d)\/(t5 c=h5 d/\h5 c=t5 d))->c=d:=by decide
theorem lt5x:∀c,c<10->t5 c<5/\h5 c<5/\t5 c≠h5 c:=by decide
def Ends(g:Gr)(e a b:Nat):Prop:=(g.tl e=a/\g.hd e=b)\/(g.tl e=b/\g.hd e=a)
theorem Ends.at{g:Gr}{e a b:Nat}(h:Ends g e a b)(v:Nat):at_ g e v=((a==v)^^(b==v)):=by
 unfold at_;rcases h with⟨h1,h2⟩|⟨h1,h2⟩
 .rw[h1,h2]
 .rw[h1,h2,kN]
theorem mD{W:List Nat}(nd:W.Nodup)(hi:i<W.length)(hj:j<W.length)(h:W.getD i 0=W.getD j 0):i=j:=by
 rw[aj,aj,ae hi,ae hj]at h;exact(nF nd).1 h
theorem wL{g:Gr}(hm:m<=g.m)(h8:m<10)(hs:∀i j,i<m->j<m->(∀v,at_ g i v=at_ g j v)->i=j){W:List Nat}(nd:W.Nodup)(hW:W.length=5)(hin:∀e,e<m->g.tl e∈W/\g.hd e∈W) :
 ∃(Φ:Type) (l r:Nat->Φ),Dual g (List.range m) l r:=by
 classical
 obtain⟨p,q,hp,hq,hpq,hno⟩:∃p q,p∈W/\q∈W/\p≠q/\∀e,e<m->¬Ends g e p q:=by
  refine Classical.byContradiction λhall=>?_;have h1:∀c,∃e,c<10->e<m/\Ends g e (W.getD (t5 c) 0) (W.getD (h5 c) 0):=λc=>by
   by_cases hc:c<10
   .obtain⟨a1,a2,a3⟩:=lt5x c hc;refine Classical.byContradiction λhne=>hall ⟨W.getD (t5 c) 0,W.getD (h5 c) 0,Ac om,Ac om,λh=>a3 (mD nd om om h),λe he hE=>hne ⟨e,λ_=>⟨he,hE⟩⟩⟩
   .exact⟨0,λh=>absurd h hc⟩
  obtain⟨f,hf⟩:∃f:Nat->Nat,∀c,c<10->f c<m/\Ends g (f c) (W.getD (t5 c) 0) (W.getD (h5 c) 0):=⟨λc=>Classical.choose (h1 c),λc=>Classical.choose_spec (h1 c)⟩
  have ndf:((List.range 10).map f).Nodup:=by
   rw[List.Nodup,dH];refine List.Pairwise.imp_of_mem ?_ (be (n:=10));intro a b ha hb hab he;rw[aq]at ha hb;refine hab (dif5 a ha b hb ?_);have xa:=(hf a ha).2;have xb:=(hf b hb).2;rw[he]at xa;obtain⟨a1,a2,a3⟩:=lt5x a ha;obtain⟨b1,b2,b3⟩:=lt5x b hb;have key:(W.getD (t5 a) 0=W.getD (t5 b) 0/\W.getD (h5 a) 0=W.getD (h5 b) 0)\/(W.getD (t5 a) 0=W.getD (h5 b) 0/\W.getD (h5 a) 0=W.getD (t5 b) 0):=by
    rcases xa with⟨u1,u2⟩|⟨u1,u2⟩<;>rcases xb with⟨w1,w2⟩|⟨w1,w2⟩<;>omega
   rcases key with⟨k1,k2⟩|⟨k1,k2⟩
   .exact .inl ⟨mD nd om om k1,mD nd om om k2⟩
   .exact .inr ⟨mD nd om om k1,mD nd om om k2⟩
  have:=nd_lt ndf (n:=m) λx hx=>by
   obtain⟨c,hc,rfl⟩:=bG.1 hx;exact(hf c (aq.1 hc)).1
  rw[ah,br]at this;omega
 obtain⟨ν,hν,νi,n3,n4⟩:∃ν:Nat->Nat,(∀x,x∈W->∃i,i<5/\ν i=x)/\(∀i j,i<5->j<5->ν i=ν j->i=j)/\ν 3=p/\ν 4=q:=by
  have hq':q∈W.erase p:=(hM (Ne.symm hpq)).2 hq;have l1:((W.erase p).erase q).length=3:=by
   rw[ff hq',ff hp,hW]
  have nd1:(W.erase p).Nodup:=nd.erase p;have nd2:((W.erase p).erase q).Nodup:=nd1.erase q;have n1:p∉(W.erase p).erase q:=λh=>(List.Nodup.mem_erase_iff nd).1 (jD h) |>.1 rfl;have n2:q∉(W.erase p).erase q:=λh=>((List.Nodup.mem_erase_iff nd1).1 h).1 rfl;have ndW:((W.erase p).erase q++[p,q]).Nodup:=by
   rw[aN];refine⟨nd2,by simp[hpq],λa ha b hb hab=>?_⟩;subst hab;simp only[ao,bd,or_false]at hb;rcases hb with rfl|rfl
   .exact n1 ha
   .exact n2 ha
  have lW:((W.erase p).erase q++[p,q]).length=5:=by simp[l1]
  have i3:((W.erase p).erase q++[p,q]).getD 3 0=p:=by
   rw[aj,aV om,l1];rfl
  have i4:((W.erase p).erase q++[p,q]).getD 4 0=q:=by
   rw[aj,aV om,l1];rfl
  have iW:∀x,x∈W->x∈(W.erase p).erase q++[p,q]:=λx hx=>by
   by_cases h1:x=p
   .subst h1;simp
   .by_cases h2:x=q
    .subst h2;simp
    .exact bg _ ((hM h2).2 ((hM h1).2 hx))
  generalize (W.erase p).erase q++[p,q]=W' at *
  refine⟨λi=>W'.getD i 0,λx hx=>?_,λi j hi hj h=>mD ndW om om h,i3,i4⟩;obtain⟨i,hi,rfl⟩:=hG.1 (iW x hx);exact⟨i,om,by show W'.getD i 0=_;rw[aj,ae hi];rfl⟩
 have hf:∀e,∃c,e<m->c<9/\Ends g e (ν (t5 c)) (ν (h5 c)):=λe=>by
  by_cases he:e<m
  .obtain⟨x,hx,ex⟩:=hν _ (hin e he).1;obtain⟨y,hy,ey⟩:=hν _ (hin e he).2;have hne:=(g.ok e om).2.2;obtain⟨c,hc,h⟩:=tri59 x hx y hy (λq=>hne (by rw[<-ex,<-ey,q])) (λ⟨a,b⟩=>hno e he (.inl ⟨by rw[<-ex,a,n3],by rw[<-ey,b,n4]⟩)) (λ⟨a,b⟩=>hno e he (.inr ⟨by rw[<-ex,a,n4],by rw[<-ey,b,n3]⟩));refine⟨c,λ_=>⟨hc,?_⟩⟩;rcases h with⟨a,b⟩|⟨a,b⟩
   .exact .inl ⟨by rw[a,ex],by rw[b,ey]⟩
   .exact .inr ⟨by rw[b,ex],by rw[a,ey]⟩
  .exact⟨0,λh=>absurd h he⟩
 obtain⟨f,hf⟩:∃f:Nat->Nat,∀e,e<m->f e<9/\Ends g e (ν (t5 (f e))) (ν (h5 (f e))):=⟨λe=>Classical.choose (hf e),λe=>Classical.choose_spec (hf e)⟩
 have okk:∀e,e<m->ν (t5 (f e))<g.n/\ν (h5 (f e))<g.n/\ν (t5 (f e))≠ν (h5 (f e)):=λe he=>by
  have:=(hf e he).2;have hok:=g.ok e om;rcases this with⟨a,b⟩|⟨a,b⟩
  .rw[<-a,<-b];exact hok
  .rw[<-a,<-b];exact⟨hok.2.1,hok.1,Ne.symm hok.2.2⟩
 let g':Gr:={ m:=m,n:=g.n,tl:=λe=>ν (t5 (f e)),hd:=λe=>ν (h5 (f e)),ok:=okk}
 obtain⟨Φ,l,r,d⟩:=dual_pick (g:=g59) (g':=g') (f:=f) (ν:=ν) (λj hj=>(hf j hj).1) (λi j hi hj he=>hs i j hi hj λv=>by
  rw[(hf i hi).2.at v,(hf j hj).2.at v,he]) (λu v hu hv h=>νi u v hu hv h) (λj _=>⟨rfl,rfl⟩) Hq
 exact⟨Φ,l,r,d.gr λe he v=>by rw[(hf e (aq.1 he)).2.at v];rfl⟩
theorem qE:∀(m:Nat) (g:Gr),g.m=m->m<=8->∃(Φ:Type) (l r:Nat->Φ),Dual g (List.range m) l r
 |0,_,_,_=>⟨Unit,_,_,Ip⟩
 |m+1,g,hg,h8=>by
   classical
   by_cases hp:∃i j,i<m+1/\j<m+1/\i≠j/\∀v,at_ g i v=at_ g j v
   .obtain⟨i,j,hi,hj,hij,hv⟩:=hp;have hi':i<g.m:=om;have hm':m<g.m:=om;rw[<-hg];refine tz hi' hm' ?_;rw[hg];refine Mx (k:=sw2 i m j) (m:=m) ?_ (λv=>?_) ?_
    .unfold sw2;rw[if_neg (Ne.symm hij)];split<;>omega
    .rw[mO,mO,jS,<-hv v];have:sw2 i m m=i:=by unfold sw2;split<;>simp_all
     rw[this]
    .obtain⟨Φ,l,r,d⟩:=qE m { swG g i m hi' hm' with m:=m,ok:=λe he=>(swG g i m hi' hm').ok e (by show e<g.m;omega)} rfl om;exact⟨Φ,l,r,d.gr λ_ _ _=>rfl⟩
   by_cases h1:∃v i,i<m+1/\at_ g i v=true/\∀e,e<m+1->e≠i->at_ g e v=false
   .obtain⟨v,i,hi,hv,ho⟩:=h1;have hi':i<g.m:=om;have hm':m<g.m:=om;rw[<-hg];refine tz hi' hm' ?_;rw[hg];refine(zY (x:=v) (λe he=>?_) ?_).2 ?_
    .rw[mO];refine ho _ (by rw[<-hg];exact tA hi' hm' om) λh=>?_;have:e=sw2 i m i:=by rw[<-@jS i m e,h]
     unfold sw2 at this;rw[if_pos rfl]at this;omega
    .rw[mO];have:sw2 i m m=i:=by unfold sw2;split<;>simp_all
     rw[this];exact hv
    .obtain⟨Φ,l,r,d⟩:=qE m { swG g i m hi' hm' with m:=m,ok:=λe he=>(swG g i m hi' hm').ok e (by show e<g.m;omega)} rfl om;exact⟨Φ,l,r,d.gr λ_ _ _=>rfl⟩
   have hs:∀i j,i<m+1->j<m+1->(∀v,at_ g i v=at_ g j v)->i=j:=λi j hi hj hv=>Classical.byContradiction λhne=>hp ⟨i,j,hi,hj,hne,hv⟩;have ate:∀{e v},at_ g e v=true->g.tl e=v\/g.hd e=v:=fun {e v} h=>by
    unfold at_ at h;by_cases q:g.tl e=v
    .exact .inl q
    .by_cases q':g.hd e=v
     .exact .inr q'
     .have a1:(g.tl e==v)=false:=by rw[beq_eq_false_iff_ne];exact q
      have a2:(g.hd e==v)=false:=by rw[beq_eq_false_iff_ne];exact q'
      rw[a1,a2]at h;cases h
   by_cases h2:∃v i j,i<m+1/\j<m+1/\i≠j/\at_ g i v=true/\at_ g j v=true/\∀e,e<m+1->e≠i->e≠j->at_ g e v=false
   .obtain⟨v,i,j,hi,hj,hij,hvi,hvj,ho⟩:=h2;have hi':i<g.m:=om;have hm':m<g.m:=om;rw[<-hg];refine tz hi' hm' ?_;rw[hg];have sm:sw2 i m m=i:=by unfold sw2;split<;>simp_all
    have hk:sw2 i m j<m:=by unfold sw2;rw[if_neg (Ne.symm hij)];split<;>omega
    have sk:sw2 i m (sw2 i m j)=j:=jS;generalize sw2 i m j=k at hk sk;obtain⟨a,ea⟩:∃a,Ends g j v a:=by
     rcases ate hvj with h|h
     .exact⟨_,.inl ⟨h,rfl⟩⟩
     .exact⟨_,.inr ⟨rfl,h⟩⟩
    obtain⟨b,eb⟩:∃b,Ends g i v b:=by
     rcases ate hvi with h|h
     .exact⟨_,.inl ⟨h,rfl⟩⟩
     .exact⟨_,.inr ⟨rfl,h⟩⟩
    have hab:a≠b:=λq=>hij (hs i j hi hj λw=>by rw[ea.at,eb.at,q]);have oi:=g.ok i om;have oj:=g.ok j om;have an:a<g.n/\a≠v:=by rcases ea with⟨x,y⟩|⟨x,y⟩<;>omega
    have bn:b<g.n/\b≠v:=by rcases eb with⟨x,y⟩|⟨x,y⟩<;>omega
    have okk:∀e,e<m->(if e=k then a else g.tl (sw2 i m e))<g.n/\(if e=k then b else g.hd (sw2 i m e))<g.n/\(if e=k then a else g.tl (sw2 i m e))≠(if e=k then b else g.hd (sw2 i m e)):=λe he=>by
     by_cases q:e=k
     .rw[if_pos q,if_pos q];exact⟨an.1,bn.1,hab⟩
     .rw[if_neg q,if_neg q];exact g.ok _ (tA hi' hm' om)
    let g0:Gr:={ m:=m,n:=g.n,tl:=λe=>if e=k then a else g.tl (sw2 i m e),hd:=λe=>if e=k then b else g.hd (sw2 i m e),ok:=okk}
    have k0:∀w,at_ g0 k w=((a==w)^^(b==w)):=λw=>by
     show(((if k=k then a else _)==w)^^((if k=k then b else _)==w))=_;rw[if_pos rfl,if_pos rfl]
    have e0:∀e,e≠k->∀w,at_ g0 e w=at_ g (sw2 i m e) w:=λe q w=>by
     show(((if e=k then a else _)==w)^^((if e=k then b else _)==w))=_;rw[if_neg q,if_neg q];rfl
    refine(Cx (g:=g0) (k:=k) (x:=v) hk (λe _ q w=>?_) (λw hw=>?_) (λe he=>?_) ?_ ?_).2 (qE m g0 rfl om)
    .rw[e0 e q w,mO]
    .rw[k0,mO,mO,sk,sm,ea.at,eb.at];have:(v==w)=false:=by rw[beq_eq_false_iff_ne];exact Ne.symm hw
     rw[this,dF,dF]
    .by_cases q:e=k
     .subst q;rw[k0];have a1:(a==v)=false:=by rw[beq_eq_false_iff_ne];exact an.2
      have b1:(b==v)=false:=by rw[beq_eq_false_iff_ne];exact bn.2
      rw[a1,b1];rfl
     .rw[e0 e q];refine ho _ (by rw[<-hg];exact tA hi' hm' om) (λh=>?_) λh=>?_
      .have:e=sw2 i m i:=by rw[<-@jS i m e,h]
       unfold sw2 at this;rw[if_pos rfl]at this;omega
      .exact q (by rw[<-@jS i m e,h,<-sk,jS])
    .rw[mO,sk];exact hvj
    .rw[mO,sm];exact hvi
   have h3:∀v e,e<m+1->at_ g e v=true->3<=(List.range (m+1)).countP λe=>at_ g e v:=λv e he hv=>by
    obtain⟨i,hi,hie,hiv⟩:∃i,i<m+1/\i≠e/\at_ g i v=true:=Classical.byContradiction λhne=>h1 ⟨v,e,he,hv,λi hi hie=>by
     cases q:at_ g i v with
     |false=>rfl
     |true=>exact absurd ⟨i,hi,hie,q⟩ hne⟩
    obtain⟨j,hj,hje,hji,hjv⟩:∃j,j<m+1/\j≠e/\j≠i/\at_ g j v=true:=Classical.byContradiction λhne=>h2 ⟨v,e,i,he,hi,Ne.symm hie,hv,hiv,λj hj hje hji=>by
     cases q:at_ g j v with
     |false=>rfl
     |true=>exact absurd ⟨j,hj,hje,hji,q⟩ hne⟩
    rw[di];refine oN (a:=[e,i,j]) (by simp[Ne.symm hie,Ne.symm hje,Ne.symm hji]) λx hx=>?_;simp only[ao,bd,or_false]at hx;rw[aJ,aq];rcases hx with rfl|rfl|rfl
    .exact⟨he,hv⟩
    .exact⟨hi,hiv⟩
    .exact⟨hj,hjv⟩
   have hV:∀v,v∈(List.range g.n).filter (λv=>decide (∃e,e<m+1/\at_ g e v=true))↔v<g.n/\∃e,e<m+1/\at_ g e v=true:=λv=>by rw[aJ,aq,aK]
   have ndV:((List.range g.n).filter (λv=>decide (∃e,e<m+1/\at_ g e v=true))).Nodup:=List.nodup_range.filter _;generalize (List.range g.n).filter (λv=>decide (∃e,e<m+1/\at_ g e v=true))=V at hV ndV;have s1:=uc (L:=V) (f:=λv=>(List.range (m+1)).countP λe=>at_ g e v) (c:=3) λv hv=>by
    obtain⟨_,e,he,hev⟩:=(hV v).1 hv;exact h3 v e he hev
   rw[mq (p:=λv e=>at_ g e v)]at s1;have s2:=tB (L:=List.range (m+1)) (f:=λe=>V.countP λv=>at_ g e v) (c:=2) λe _=>by
    rw[di];refine oN (b:=[g.tl e,g.hd e]) (ndV.filter _) λx hx=>?_;have:=ate (aJ.1 hx).2;simp only[ao,bd,or_false];rcases this with h|h
    .exact .inl h.symm
    .exact .inr h.symm
   rw[br]at s2;have hl:V.length<=5:=om;have ndW:(V++(List.range (5-V.length)).map (·+g.n)).Nodup:=by
    rw[aN];refine⟨ndV,?_,λa ha b hb hab=>?_⟩
    .rw[List.Nodup,dH];exact(be (n:=5-V.length)).imp λh q=>h om
    .obtain⟨c,_,rfl⟩:=bG.1 hb;have:=((hV a).1 ha).1;omega
   refine wL (g:=g) om om hs ndW (by simp;omega) λe he=>?_;have hok:=g.ok e om;have t1:at_ g e (g.tl e)=true:=by
    have:(g.hd e==g.tl e)=false:=by rw[beq_eq_false_iff_ne];omega
    unfold at_;rw[this];simp
   have t2:at_ g e (g.hd e)=true:=by
    have:(g.tl e==g.hd e)=false:=by rw[beq_eq_false_iff_ne];omega
    unfold at_;rw[this];simp
   exact⟨bg _ ((hV _).2 ⟨hok.1,e,he,t1⟩),bg _ ((hV _).2 ⟨hok.2.1,e,he,t2⟩)⟩
end Go.Pla
