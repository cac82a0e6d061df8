/- planar -/
import Derived.Test.YtlolkmcdimgplaaGreatVTAM
import Derived.Test.YtlolkmcdimgplaaGreatVTAP
set_option linter.all false
namespace Go.Proofs.YtlolkmcdimgplaaGreat
open Go.Am
open Go.Pla (Met ks tr tr_app at_ goes stepE full Srch Hit todo)
variable {E:List (Int×Int)}{H V:Nat->Bool}{bb i n pa x:Nat}{edv ev fav:AV}{h:AH}{w:List Nat}
theorem jA{hE:InG n E}{hL:∀i,i<E.length->tlE E i≠hdE E i}(hi:i<E.length):at_ (grE n E hE hL) i x=lU E i x:=by
 have:=hL i hi;show((tlE E i==x)^^(hdE E i==x))=(decide (tlE E i=x)||decide (hdE E i=x))
 by_cases a:tlE E i=x
 .have b:hdE E i≠x:=λh=>this (a.trans h.symm);simp[a,b]
 .by_cases b:hdE E i=x
  .simp[a,b]
  .rw[beq_eq_false_iff_ne.2 a,beq_eq_false_iff_ne.2 b,aX a,aX b];rfl
theorem Ha{hE:InG n E}{hL:∀i,i<E.length->tlE E i≠hdE E i}(hi:lU E i x=true):nN E i x=(((grE n E hE hL).oth i x:Nat):Int):=by
 show((tlE E i:Nat):Int)+((hdE E i:Nat):Int)-((x:Nat):Int)=((tlE E i+hdE E i-x:Nat):Int)
 simp only[lU,du,aK]at hi;omega
theorem CA{α:Type}[DecidableEq α]:∀{l:List (α×AV)}{k:α}{v:AV},lkG l k=none->upG l k v=l++[(k,v)]
 |[],_,_,_=>rfl
 |p::l,k,v,h=>by
   simp only[lkG]at h;split at h
   .cases h
   .rename_i hne
    simp only[upG,if_neg hne];rw[CA h];rfl
set_option maxHeartbeats 2000000 in
theorem tO{Bl:List Nat}{la:Nat}(u:Bu h bb n ev edv E Bl la pa H V fav)(hE:InG n E)(hL:∀i,i<E.length->tlE E i≠hdE E i)(hn:n<2^30)(hm:E.length<2^30)(hB:∀i∈Bl,i<E.length)(hBn:Bl.length<2^30){r:Nat}(hr:r<n){ke kt:FuncId}{ce ct:List AV}{fin thr:Nat->Bool}
 (hend:∀y,y<n->∀h',Ext h.next h h'->C prg ke ([.int .i64 (y:Nat)]++ce) h' λv h''=>v=.bool (fin y)/\Ext h'.next h' h'')
 (hthr:∀y,y<n->∀h',Ext h.next h h'->C prg kt ([.int .i64 (y:Nat)]++ct) h' λv h''=>v=.bool (thr y)/\Ext h'.next h' h'') :
 C prg 69 [.ptr bb 0,.int .i64 (r:Nat),.fn ke ce,.fn kt ct] h λv h'=>Ext h.next h h'/\∃o,Hit (full (grE n E hE hL) Bl H thr (n+1) ([(r,r)],[r])) fin o/\(match o with|none=>v=.nils|some y=>IsSl h' 1 h.next v (nC (tr (full (grE n E hE hL) Bl H thr (n+1) ([(r,r)],[r])) y))):=by
 obtain⟨F,hF⟩:∃F,F=full (grE n E hE hL) Bl H thr (n+1) ([(r,r)],[r]):=⟨_,rfl⟩
 rw[<-hF];have hBg:∀i∈Bl,i<(grE n E hE hL).m:=hB;have hrg:r<(grE n E hE hL).n:=hr;refine Ny pf69 ?_;refine ai (aD (Mi0) ?_);have x1:Ext h.next h (h.new (.mapo [] 0)):=Nt (ab _);have g1:(h.new (.mapo [] 0)).get h.next=some (.mapo [] 0):=by rw[AH.get_new,if_pos rfl]
 have n1:(h.new (.mapo [] 0)).next=h.next+1:=rfl;have m1:sH (h.new (.mapo [] 0)) h.next []:=MapG.nil g1;obtain⟨h2,a2,m2,o2,u2⟩:=m1.up xW ((r:Nat):Int) (.int .i64 (r:Nat));have m2:sH h2 h.next [(r,r)]:=m2;have a2:pL (h.new (.mapo [] 0)) .ki (.mp h.next) (.int .i64 (r:Nat)) (.int .i64 (r:Nat))=some (.un,h2):=a2;have x2:Ext h.next h h2:=x1.trans (u2.ext (ab _));have n2:h2.next=h.next+1:=by rw[u2.nx,n1]
 refine ai (bW (λts h'=>h'=h2/\aR ts 0=.ptr bb 0/\aR ts 1=.int .i64 (r:Nat)/\aR ts 2=.fn ke ce/\aR ts 3=.fn kt ct/\aR ts 9=.mp h.next) (by simp only[am,aI,simprocAttr,bP,a2]) ?_);rintro ts h2' ⟨rfl,e0,e1,e2,e3,e9⟩;have x3:Ext h2'.next h2' (h2'.new (.cells [.int .i64 (r:Nat)] 1 false)):=Nt (ab _);have g3:(h2'.new (.cells [.int .i64 (r:Nat)] 1 false)).get h2'.next=some (.cells [.int .i64 (r:Nat)] 1 false):=by rw[AH.get_new,if_pos rfl]
 refine ai (bW (λts h'=>h'=h2'.new (.cells [.int .i64 (r:Nat)] 1 false)/\aR ts 0=.ptr bb 0/\aR ts 2=.fn ke ce/\aR ts 3=.fn kt ct/\aR ts 9=.mp h.next/\aR ts 10=.sl h2'.next 0 1 1) (by simp only[am,aI,simprocAttr,e0,e1,e2,e3,e9]) ?_);rintro ts h3 ⟨rfl,e0,e2,e3,e9,e10⟩;have m3:sH (h2'.new (.cells [.int .i64 (r:Nat)] 1 false)) h.next [(r,r)]:=m2.cong (x3.gt _ om);have q3:IsQ (h2'.new (.cells [.int .i64 (r:Nat)] 1 false)) (h.next+1) (.sl h2'.next 0 1 1) [r]:=IsQ.one om g3;have x3:=x2.trans (x3.mono (by omega:h.next<=h2'.next));have n3:(h2'.new (.cells [.int .i64 (r:Nat)] 1 false)).next=h.next+2:=by rw[AH.next_new,n2]
 generalize h2'.new (.cells [.int .i64 (r:Nat)] 1 false)=h3 at *
 have hbd:∀{s:Go.Pla.LQ}{cu:Option (Nat×List Nat)},Srch (grE n E hE hL) Bl H thr r s cu->(∀z∈ks s.1,z<n)/\s.1.length<=n:=fun {s cu} hs=>by
  have a:=hs.met.lt hBg hrg;exact⟨a,by
   have:=Go.Pla.nd_lt hs.met.nd a;rw[ks,ah]at this;exact this⟩
 have hFm:Met (grE n E hE hL) Bl H thr r F:=by
  rw[hF];exact(Go.Pla.full_srch hBg hrg (n+1) Srch.start (by show n-1+1<=n+1;omega)).met
 refine ai (cA (fO (λf ts h'=>∃(L:List (Nat×Nat)) (Q:List Nat) (qv:AV),Srch (grE n E hE hL) Bl H thr r (L,Q) none/\full (grE n E hE hL) Bl H thr f (L,Q)=F/\todo n (L,Q)<=f/\(∀z∈ks L.tail,fin z=false)/\sH h' h.next L/\IsQ h' (h.next+1) qv Q/\todo n (L,Q)<=n+1/\Ext h.next h h'/\h.next<h'.next/\aR ts 0=.ptr bb 0/\aR ts 2=.fn ke ce/\aR ts 3=.fn kt ct/\aR ts 9=.mp h.next/\aR ts 10=qv) ?_ (n:=n+1) ⟨[(r,r)],[r],_,Srch.start,hF.symm,by show n-1+1<=n+1;omega,by simp[ks],m3,q3,by show n-1+1<=n+1;omega,x3,om,e0,e2,e3,e9,e10⟩));clear e0 e2 e3 e9 e10 m3 q3 x3 n3 g3 m2 a2 u2 x2 n2 m1 g1 n1 x1;rintro f ts h4 ⟨L,Q,qv,hs,hff,htd,hno,m4,q4,hQn,x4,hlt4,e0,e2,e3,e9,e10⟩;have el:=q4.len;cases Q with
 |nil =>
   refine ai (ai (aD (M2 e10 el) ?_));have dz:decide ((0:Int)<(([]:List Nat).length:Nat))=false:=by simp
   refine dR (by simp only[am,aI,simprocAttr,aU,de,Int.lt_irrefl,decide_false]) ?_;refine fp ⟨λ_=>?_,λe=>absurd rfl e⟩;refine ai (aD (M0) ?_);refine bU ⟨.nils,(by simp only[rs,rf69,am,aI,simprocAttr]<;>rfl),x4,none,?_,rfl⟩;have:F=L:=by
    rw[<-hff];cases f<;>rfl
   rw[this];exact hno
 |cons x Q =>
   have hf1:1<=f:=by simp only[todo,ar]at htd;omega
   obtain⟨f',rfl⟩:∃f',f=f'+1:=⟨f-1,om⟩
   have hff:full (grE n E hE hL) Bl H thr f' (Bl.foldl (stepE (grE n E hE hL) H thr x) (L,Q))=F:=hff;have hpop:=hs.pop;have hxn:x<n:=(hbd hs).1 x (hs.que x (by simp)).1;rw[ar]at el;refine ai (ai (aD (M2 e10 el) ?_));have dz:decide ((0:Int)<((Q.length+1:Nat):Int))=true:=by rw[aK];omega
   refine dv (Z1 dz) (bQ (cA ?_));obtain⟨qb,qo,ha,hrd⟩:=q4.head;obtain⟨qv',hst,q5⟩:=q4.tail;have u4:=u.ext x4 (ab _);have rb:aA h4 bb 2 1=some [edv]:=bJ u4.o rfl;have lb:=u4.b.len;rw[ah,ah]at lb;refine ai (aD (M3 e10 ha hrd) ?_);refine ai (aD (by simp only[am,aI,simprocAttr,dY,bN,e10,hst]<;>rfl) ?_);refine ai (aD (M3 e0 rb lb) ?_)
   refine gA (α:=Go.Pla.LQ×AV) (N:=Bl.length) (λ_ a=>[(35,edv),(0,.ptr bb 0),(2,.fn ke ce),(3,.fn kt ct),(9,.mp h.next),(10,a.2),(11,.int .i64 (x:Nat))])
    (λk a h'=>Srch (grE n E hE hL) Bl H thr r a.1 (some (x,Bl.drop k))/\(Bl.drop k).foldl (stepE (grE n E hE hL) H thr x) a.1=Bl.foldl (stepE (grE n E hE hL) H thr x) (L,Q)/\todo n a.1<=todo n (L,Q)/\(∀z∈ks a.1.1.tail,fin z=false)/\sH h' h.next a.1.1/\IsQ h' (h.next+1) a.2 a.1.2/\Ext h.next h h'/\h.next<h'.next)
    ((L,Q),qv') (λ_ _=>rfl) om (H4 e0 e2 e3 e9) ⟨hpop,rfl,ab _,hno,m4,q5,x4,hlt4⟩ ?_ ?_
   .clear e0 e2 e3 e9 e10 rb lb;rintro k ⟨s,qw⟩ ts h5 hk ⟨j1,j2,j3,j4,j5,j6,x5,hlt5⟩ ⟨ei,en,e35,e0,e2,e3,e9,e10,e11,-⟩;simp only at ei en e35 e0 e2 e3 e9 e10 e11 j1 j2 j3 j4 j5 j6;have hdk:Bl.drop k=Bl[k]::Bl.drop (k+1):=cn hk;have hBk:Bl[k]∈Bl:=aO hk;have hik:=hB _ hBk;generalize hi:Bl[k]=i at *
    rw[hdk]at j1 j2;rw[gu]at j2;have jn:=j1.step hBg hBk;have tdn:=Go.Pla.todo_step j1 hBg hrg hBk;have u5:=u.ext x5 (ab _);obtain⟨b5,o5,a5,r5,_⟩:=u5.b.at1 (i:=k) (y:=.int .i64 (i:Nat)) (by rw[aG,aG,ae hk,hi];rfl);refine ai (aD (M4 e35 ei a5 r5) ?_);have hC:=mQ u5 hE (show n<2^40 by omega) hik hxn;have skip1:goes (grE n E hE hL) H x s.1 i=false->stepE (grE n E hE hL) H thr x s i=s:=λhg=>by rw[stepE,hg];rfl
    cases hI:lU E i x with
    |false =>
      have hst:stepE (grE n E hE hL) H thr x s i=s:=skip1 (by rw[goes,jA hik,hI];rfl);rw[hst]at j2 jn tdn;rw[hI]at hC;refine ai (bS (bE 3 (M2 e0 e11) rfl (Z2 e0 e11) (M2 e0 e11) (hC) λv h6 hq=>?_));obtain⟨rfl,x6⟩:=hq;refine bM (M0) ?_;have x6':=x5.trans (x6.mono x5.nx);have m6:=j5.cong (x6.gt _ j5.lt);have l6:=m6.look2 xW (.int .i64 0) (nN E i x);refine ai (aD (M2 e9 l6) ?_);refine ai (ai (aD (by simp only[am,aI,simprocAttr,cr]<;>rfl) ?_));refine dv (by simp only[am,aI,simprocAttr,cr]) (fp ⟨λ_=>⟨(s,qw),⟨jn,j2,j3,j4,m6,j6.ext x6 (ab _),x6',cB hlt5 x6.nx⟩,H10 ei en e35 e0 e2 e3 e9 e10 e11 e11⟩,λe=>absurd rfl e⟩)
    |true =>
      obtain⟨y,hy⟩:∃y,y=(grE n E hE hL).oth i x:=⟨_,rfl⟩
      have hyo:nN E i x=((y:Nat):Int):=by rw[hy];exact Ha hI
      have hyn:y<n:=by
       have hat:at_ (grE n E hE hL) i x=true:=by rw[jA hik];exact hI
       have:=(Go.Pla.at_inc hik).1 hat;rw[hy];exact Go.Blk.inc_lt (Go.Blk.inc_oth this).1
      rw[hI,hyo]at hC;refine ai (bS (bE 3 (M2 e0 e11) rfl (Z2 e0 e11) (M2 e0 e11) (hC) λv h6 hq=>?_));obtain⟨rfl,x6⟩:=hq;refine bM (M0) ?_;have x6':=x5.trans (x6.mono x5.nx);have m6:=j5.cong (x6.gt _ j5.lt);have l6:=m6.look2 xW (.int .i64 0) ((y:Nat):Int);have q6:=j6.ext x6 (ab _);have hlt6:=cB hlt5 x6.nx;have u6:=u.ext x6' (ab _);refine ai (aD (M2 e9 l6) ?_);by_cases hky:y∈ks s.1
      .have hso:(lkG (Lm s.1) ((y:Nat):Int)).isSome=true:=by
        cases hq:lkG (Lm s.1) ((y:Nat):Int)with
        |none=>exact absurd hky (sZ.1 hq)
        |some _=>rfl
       have hst:stepE (grE n E hE hL) H thr x s i=s:=skip1 (by
        rw[goes,<-hy];simp[hky])
       rw[hst]at j2 jn tdn;refine ai (ai (aD (M2 @cD hso) ?_));refine dv (Z1 hso) (fp ⟨λ_=>⟨(s,qw),⟨jn,j2,j3,j4,m6,q6,x6',hlt6⟩,H10 ei en e35 e0 e2 e3 e9 e10 e11 e11⟩,λe=>absurd rfl e⟩)
      .have hso:(lkG (Lm s.1) ((y:Nat):Int)).isSome=false:=by rw[sZ.2 hky];rfl
       have r3:aA h6 bb 3 1=some [.sl la 0 E.length E.length]:=bJ u6.o rfl;have ia:iV ((i:Nat):Int) E.length=some i:=eU hik;have rl:aA h6 la i 1=some [.bool (H i)]:=bJ u6.l (nJ hik);cases hH:H i with
       |true =>
         rw[hH]at rl;have hst:stepE (grE n E hE hL) H thr x s i=s:=skip1 (by rw[goes,hH];simp);rw[hst]at j2 jn tdn;refine ai (ai (aD (by simp only[am,aI,simprocAttr,cD,hso,e0,r3,ia,bh,rl]<;>rfl) ?_));refine dv (Z0) (fp ⟨λ_=>⟨(s,qw),⟨jn,j2,j3,j4,m6,q6,x6',hlt6⟩,H10 ei en e35 e0 e2 e3 e9 e10 e11 e11⟩,λe=>absurd rfl e⟩)
       |false =>
         rw[hH]at rl;have hg:goes (grE n E hE hL) H x s.1 i=true:=by
          rw[goes,<-hy,jA hik,hI,hH];simp[hky]
         have hst:stepE (grE n E hE hL) H thr x s i=(s.1++[(y,x)],if thr y=true then s.2++[y]else s.2):=by rw[stepE,if_pos hg,<-hy]
         rw[hst]at j2 jn tdn;refine ai (ai (aD (by simp only[am,aI,simprocAttr,cD,hso,e0,r3,ia,bh,rl]<;>rfl) ?_));refine dR (Z0) (bQ ?_);obtain⟨h7,a7,m7,o7,u7⟩:=m6.up xW ((y:Nat):Int) (.int .i64 (x:Nat));have m7:sH h7 h.next (s.1++[(y,x)]):=by
          rw[CA (sZ.2 hky)]at m7;have:Lm s.1++[(((y:Nat):Int),AV.int .i64 ((x:Nat):Int))]=Lm (s.1++[(y,x)]):=by simp[Lm]
          rw[this]at m7;exact m7
         have a7:pL h6 .ki (.mp h.next) (.int .i64 (y:Nat)) (.int .i64 (x:Nat))=some (.un,h7):=a7;have x7:Ext h.next h h7:=x6'.trans (u7.ext (ab _));have hlt7:h.next<h7.next:=by rw[u7.nx];exact hlt6
         have q7:IsQ h7 (h.next+1) qw s.2:=q6.cong λc hc _=>u7.ne om;refine ai (aD (M3 e9 e11 a7) ?_);refine ai (ai (bS (ku 2 (M1 e2) rfl (Z1 e2) (M1 e2) (M1 e2) (hend y hyn h7 x7) λv h8 hq=>?_)));obtain⟨rfl,x8⟩:=hq;refine bM (M0) ?_;have x8':=x7.trans (x8.mono x7.nx);have m8:=m7.cong (x8.gt _ m7.lt);have hlt8:=cB hlt7 x8.nx;have q8:=q7.ext x8 (ab _);cases hfin:fin y with
         |true =>
           refine dv (Z0) ?_;have hlen:(s.1++[(y,x)]).length<2^30:=by have:=(hbd jn).2;dsimp only at this;omega
           have hyk:y∈ks (s.1++[(y,x)]):=by simp[ks]
           refine ai (bS (bE 2 (M1 e9) rfl (Z1 e9) (M1 e9) (Ev m8 jn.met hBg hyk hlen) λv h9 hq=>?_));obtain⟨i9,x9⟩:=hq;refine bM (M0) ?_;obtain⟨C1,hC1⟩:=Go.Pla.fold_pre (g:=grE n E hE hL) (laid:=H) (thr:=thr) (x:=x) (Bl.drop (k+1)) (s.1++[(y,x)],if thr y=true then s.2++[y]else s.2);obtain⟨C2,hC2⟩:=Go.Pla.full_pre (g:=grE n E hE hL) (Bl:=Bl) (laid:=H) (thr:=thr) f' (Bl.foldl (stepE (grE n E hE hL) H thr x) (L,Q));rw[hff,<-j2,hC1]at hC2;have hC2:F=(s.1++[(y,x)])++(C1++C2):=by rw[hC2];simp
           obtain⟨T,hT⟩:=j1.met.root;have hne:s.1≠[]:=by rw[hT];simp
           refine bU ⟨v,(by simp only[rs,rf69,am,aI,simprocAttr]<;>rfl),x8'.trans (x9.mono x8'.nx),some y,⟨s.1,x,C1++C2,by rw[hC2];simp,hne,j4,hfin⟩,?_⟩;have htr:tr F y=tr (s.1++[(y,x)]) y:=by
            have nd:=hFm.nd;rw[hC2]at nd |-;exact tr_app nd hyk
           show IsSl h9 1 h.next v (nC (tr F y));rw[htr];exact i9.mono x8'.nx
         |false =>
           refine dR (Z0) (bQ ?_);have j4':∀z∈ks (s.1++[(y,x)]).tail,fin z=false:=by
            obtain⟨T,hT⟩:=j1.met.root;have hne:s.1≠[]:=by rw[hT];simp
            rw[Go.Pla.tail_app hne];intro z hz;rcases aw.1 hz with hz|hz
            .exact j4 z hz
            .have:z=y:=by simpa[ks]using hz
             rw[this];exact hfin
           refine ai (bS (ku 2 (M1 e3) rfl (Z1 e3) (M1 e3) (M1 e3) (hthr y hyn h8 x8') λv h9 hq=>?_));obtain⟨rfl,x9⟩:=hq;refine bM (M0) ?_;have x9':=x8'.trans (x9.mono x8'.nx);have m9:=m8.cong (x9.gt _ m8.lt);have hlt9:=cB hlt8 x9.nx;have q9:=q8.ext x9 (ab _);cases hth:thr y with
           |true =>
             rw[hth]at j2 jn tdn;simp only[if_true]at j2 jn tdn;refine dv (Z0) ?_;have hql:s.2.length<2^34:=by
              have h1:todo n s<=n+1:=by
               have:todo n (L,x::Q)=todo n (L,Q)+1:=by simp only[todo,ar];omega
               omega
              simp only[todo]at h1;omega
             obtain⟨qz,h10,a10,q10,x10,n10,_,_⟩:=q9.push om hql y;have m10:=m9.cong (x10.gt _ om);have x10':Ext h.next h h10:=x9'.trans (x10.mono om);refine bW (λts h'=>h'=h10/\Held [(37,.int .i64 (k:Nat)),(36,.int .i64 (Bl.length:Nat)),(35,edv),(0,.ptr bb 0),(2,.fn ke ce),(3,.fn kt ct),(9,.mp h.next),(10,qz),(11,.int .i64 (x:Nat))] ts) (by simp only[am,aI,simprocAttr,ei,en,e35,e0,e2,e3,e9,e10,e11,a10,cG,dl]) ?_;rintro ts h' ⟨rfl,hh⟩;exact⟨((s.1++[(y,x)],s.2++[y]),qz),⟨jn,j2,cI tdn j3,j4',m10,q10,x10',om⟩,hh⟩
           |false =>
             rw[hth]at j2 jn tdn;simp only[bC,if_false]at j2 jn tdn;refine dR (Z0) (bQ ?_);exact⟨((s.1++[(y,x)],s.2),qw),⟨jn,j2,cI tdn j3,j4',m9,q9,x9',hlt9⟩,H10 ei en e35 e0 e2 e3 e9 e10 e11 e11⟩
   .rintro⟨s,qw⟩ ts h5 ⟨j1,j2,j3,j4,j5,j6,x5,hlt5⟩ ⟨e35,e0,e2,e3,e9,e10,e11,-⟩;simp only at e35 e0 e2 e3 e9 e10 e11 j1 j2 j3 j4 j5 j6;rw[cL (ab _)]at j1 j2;have j2:s=_:=j2;refine⟨f',om,s.1,s.2,qw,j1.end,by rw[<-hff,<-j2],?_,j4,j5,j6,?_,x5,hlt5,e0,e2,e3,e9,e10⟩
    .have:todo n (L,x::Q)=todo n (L,Q)+1:=by simp only[todo,ar];omega
     show todo n s<=f';omega
    .have:todo n (L,x::Q)=todo n (L,Q)+1:=by simp only[todo,ar];omega
     show todo n s<=n+1;omega
open Go.Am
open Go.Pla (at_ jn On)
theorem CU{g:Go.Blk.Gr}{k:Nat}(hk:k<w.length):On g (w.take (k+1)) i↔On g (w.take k) i\/∃j,k=j+1/\jn g i (w.getD j 0) (w.getD k 0)=true:=by
 have h1:w.take (k+1)=w.take k++[w[k]]:=by rw[fH,ae hk];rfl
 have hd:w.getD k 0=w[k]:=by simp[List.getD,hk]
 constructor
 .rintro⟨a,x,y,b,h2,h3⟩;rw[h1]at h2;rcases cS b with rfl|⟨b,q,rfl⟩
  .have h4:w.take k++[w[k]]=(a++[x])++[y]:=by rw[h2];simp
   obtain⟨h5,h6⟩:=dW h4 rfl;injection h6 with h6;have hl:=congrArg List.length h5;rw[bK,aB,vA]at hl;have hk1:k=a.length+1:=om;refine .inr ⟨a.length,hk1,?_⟩;have:w.getD a.length 0=x:=by
    have h7:(w.take k)[a.length]?=some x:=by rw[h5];simp
    rw[cM]at h7;rw[if_pos om]at h7;simp[List.getD,h7]
   rw[this,hd,h6];exact h3
  .rw[dC]at h2;have h4:w.take k++[w[k]]=(a++x::y::b)++[q]:=by rw[h2];simp
   obtain⟨h5,_⟩:=dW h4 rfl;exact .inl ⟨a,x,y,b,h5,h3⟩
 .rintro (⟨a,x,y,b,h2,h3⟩|⟨j,rfl,h3⟩)
  .exact⟨a,x,y,b++[w[k]],by rw[h1,h2];simp,h3⟩
  .have hj:j<w.length:=om;have h4:w.take (j+1)=w.take j++[w[j]]:=by rw[fH,ae hj];rfl
   have hdj:w.getD j 0=w[j]:=by simp[List.getD,hj]
   rw[hd,hdj]at h3;exact⟨w.take j,w[j],w[j+1],[],by rw[h1,h4,bO];rfl,h3⟩
theorem Mb{hE:InG n E}{hL:∀i,i<E.length->tlE E i≠hdE E i}{y:Nat}:jn (grE n E hE hL) i y x=true↔lU E i x=true/\nN E i x=((y:Nat):Int):=by
 rw[Go.Pla.jn_iff];show((tlE E i=y/\hdE E i=x)\/(tlE E i=x/\hdE E i=y))↔_;simp only[lU,nN,du,aK];omega
set_option maxHeartbeats 2000000 in
theorem zt{wv:AV}{Bl:List Nat}{la:Nat}(u:Bu h bb n ev edv E Bl la pa H V fav)(hE:InG n E)(hL:∀i,i<E.length->tlE E i≠hdE E i)(hn:n<2^30)(hm:E.length<2^30)(hB:∀i∈Bl,i<E.length)(hBn:Bl.length<2^30)(hw:SlN h wv w)(hwn:∀x∈w,x<n)(hwl:w.length<2^30)(ho:Off (λc=>c=la\/c=pa) wv) :
 C prg 71 [.ptr bb 0,wv] h λ_ h'=>∃H' V',Bu h' bb n ev edv E Bl la pa H' V' fav/\Kp (λc=>c=la\/c=pa) h h'/\(∀i,H' i=true↔H i=true\/(i∈Bl/\On (grE n E hE hL) w i))/\(∀v,V' v=true↔V v=true\/v∈w):=by
 refine Ny pf71 ?_;have wl:=hw.len;rw[ah,ah]at wl;refine ai (aD (Mi1 wl) ?_)
 refine gA (α:=(Nat->Bool)×(Nat->Bool)) (N:=w.length) (λ_ _=>[(10,wv),(0,.ptr bb 0),(1,wv)])
  (λk a h'=>Bu h' bb n ev edv E Bl la pa a.1 a.2 fav/\Kp (λc=>c=la\/c=pa) h h'/\(∀i,a.1 i=true↔H i=true\/(i∈Bl/\On (grE n E hE hL) (w.take k) i))/\(∀v,a.2 v=true↔V v=true\/v∈w.take k))
  (H,V) (λ_ _=>rfl) om (Hi1 @de) ⟨u,Ns,λi=>?_,λv=>by simp⟩ ?_ ?_
 .constructor
  .exact .inl
  .rintro (h|⟨_,a,x,y,b,h,_⟩)
   .exact h
   .have:=congrArg List.length h;simp at this
 .rintro k ⟨Hk,Vk⟩ ts h1 hk ⟨j1,j2,j3,j4⟩ ⟨ei,en,e10,e0,e1,-⟩;simp only at ei en e10 e0 e1 j1 j2 j3 j4;have hw1:=hw.kp j2 ho;obtain⟨b,o,a,rr,_⟩:=hw1.at1 (i:=k) (y:=.int .i64 (w[k]:Nat)) (by rw[aG,aG,ae hk];rfl);have hxn:=hwn _ (aO hk);have hgd:w.getD k 0=w[k]:=by simp[List.getD,hk]
  have htk:w.take (k+1)=w.take k++[w[k]]:=by rw[fH,ae hk];rfl
  generalize hx:w[k]=x at *
  refine ai (aD (M4 e10 ei a rr) ?_);have r4:aA h1 bb 4 1=some [.sl pa 0 n n]:=bJ j1.o rfl;have ix:iV ((x:Nat):Int) n=some x:=eU hxn;obtain⟨h2,w2,u2,up2⟩:=j1.putV hxn;refine ai (bW (λts h'=>h'=h2/\Held [(12,.int .i64 (k:Nat)),(11,.int .i64 (w.length:Nat)),(10,wv),(0,.ptr bb 0),(1,wv),(4,.int .i64 (k:Nat)),(5,.int .i64 (x:Nat))] ts) (by simp only[am,aI,simprocAttr,ei,en,e10,e0,e1,r4,ix,bh,w2,cG,dl]) ?_);rintro ts h2' ⟨rfl,ei,en,e10,e0,e1,e4,e5,-⟩;have k2:=j2.trans (up2.kp (S:=λc=>c=la\/c=pa) (.inr rfl)) (λ_ _ q=>q);have hV2:∀v,(if v=x then true else Vk v)=true↔V v=true\/v∈w.take (k+1):=λv=>by
   rw[htk,aw,aP];by_cases q:v=x
   .simp[q]
   .simp[q,j4 v]
  by_cases hk0:k=0
  .subst hk0;refine ai (ai (aD (M3 e4 @de @decide_true) ?_));refine dv (Z1 @decide_true) (fp ⟨λ_=>⟨(Hk,λj=>if j=x then true else Vk j),⟨u2,k2,λi=>?_,hV2⟩,H5 ei en e10 e0 e1⟩,λe=>absurd rfl e⟩);rw[CU hk,j3];constructor
   .rintro (h|⟨h1,h2⟩)
    .exact .inl h
    .exact .inr ⟨h1,.inl h2⟩
   .rintro (h|⟨h1,h2|⟨j,h2,_⟩⟩)
    .exact .inl h
    .exact .inr ⟨h1,h2⟩
    .omega
  .obtain⟨k',rfl⟩:∃k',k=k'+1:=⟨k-1,om⟩
   have d0:decide (((k'+1:Nat):Int)=0)=false:=by rw[aZ];omega
   refine ai (ai (aD (M2 e4 d0) ?_));refine dR (Z1 d0) (bQ ?_);have rb:aA h2' bb 2 1=some [edv]:=bJ u2.o rfl;have lb:=u2.b.len;rw[ah,ah]at lb;refine ai (aD (M3 e0 rb lb) ?_);have hk':k'<w.length:=om;have hgd':w.getD k' 0=w[k']:=by simp[List.getD,hk']
   have w1:IntKind.i64.wrap (((k'+1:Nat):Int)-1)=((k':Nat):Int):=by
    have:((k'+1:Nat):Int)-1=((k':Nat):Int):=om;rw[this];exact fx om om
   refine gA (α:=Nat->Bool) (N:=Bl.length) (λ_ _=>[(28,edv),(12,.int .i64 ((k'+1:Nat):Int)),(11,.int .i64 (w.length:Nat)),(10,wv),(0,.ptr bb 0),(1,wv),(4,.int .i64 ((k'+1:Nat):Int)),(5,.int .i64 (x:Nat))])
    (λi a h'=>Bu h' bb n ev edv E Bl la pa a (λj=>if j=x then true else Vk j) fav/\Kp (λc=>c=la\/c=pa) h h'/\∀j,a j=true↔Hk j=true\/(j∈Bl.take i/\jn (grE n E hE hL) j (w.getD k' 0) x=true))
    Hk (λ_ _=>rfl) om (H7 ei en e10 e0 e1 e4 e5) ⟨u2,k2,λj=>by simp⟩ ?_ ?_
   .clear ei en e10 e0 e1 e4 e5 rb lb r4 a rr;rintro i Hi ts h3 hi ⟨i1,i2,i3⟩ ⟨f30,f29,f28,ei,en,e10,e0,e1,e4,e5,-⟩;simp only at f30 f29 f28 ei en e10 e0 e1 e4 e5 i1 i2 i3;obtain⟨b3,o3,a3,r3,_⟩:=i1.b.at1 (i:=i) (y:=.int .i64 (Bl[i]:Nat)) (by rw[aG,aG,ae hi];rfl);have hBi:=aO hi;have htb:Bl.take (i+1)=Bl.take i++[Bl[i]]:=by rw[fH,ae hi];rfl
    have hei:=hB _ hBi;generalize hq:Bl[i]=q at *
    refine ai (aD (M4 f28 f30 a3 r3) ?_);have hC:=mQ i1 hE (show n<2^40 by omega) hei hxn;refine ai (bS (bE 3 (M2 e0 e5) rfl (Z2 e0 e5) (M2 e0 e5) (hC) λv h4 hv=>?_));obtain⟨rfl,x4⟩:=hv;refine bM (M0) ?_;have u4:=i1.ext x4 (ab _);have k4:Kp (λc=>c=la\/c=pa) h h4:=i2.trans (x4.kp (S:=λc=>c=la\/c=pa) (ab _)) (λ_ _ q=>q);have hw4:=hw.kp k4 ho;obtain⟨b5,o5,a5,r5,_⟩:=hw4.at1 (i:=k') (y:=.int .i64 (w[k']:Nat)) (by rw[aG,aG,ae hk'];rfl);have jiff:=Mb (n:=n) (E:=E) (hE:=hE) (hL:=hL) (i:=q) (x:=x) (y:=w.getD k' 0);have step:∀(a':Nat->Bool),(∀j,a' j=true↔Hi j=true\/(j=q/\jn (grE n E hE hL) q (w.getD k' 0) x=true))->∀j,a' j=true↔Hk j=true\/(j∈Bl.take (i+1)/\jn (grE n E hE hL) j (w.getD k' 0) x=true):=λa' ha' j=>by
     rw[ha',i3,htb,aw,aP];constructor
     .rintro ((h|⟨h1,h2⟩)|⟨rfl,h2⟩)
      .exact .inl h
      .exact .inr ⟨.inl h1,h2⟩
      .exact .inr ⟨.inr rfl,h2⟩
     .rintro (h|⟨h1|h1,h2⟩)
      .exact .inl (.inl h)
      .exact .inl (.inr ⟨h1,h2⟩)
      .subst h1;exact .inr ⟨rfl,h2⟩
    cases hI:lU E q x with
    |false =>
      refine ai (aD (M0) ?_);refine dR (Z0) (bQ ?_);exact⟨Hi,⟨u4,k4,step Hi λj=>by rw[jiff,hI];simp⟩,H10 f30 f29 f28 ei en e10 e0 e1 e4 e5⟩
    |true =>
      by_cases hy:nN E q x=((w[k']:Nat):Int)
      .have dy:decide (nN E q x=((w[k']:Nat):Int))=true:=bp hy;refine ai (aD (M6 e1 e4 w1 a5 r5 dy) ?_);refine dv (Z1 dy) ?_;have r6:aA h4 bb 3 1=some [.sl la 0 E.length E.length]:=bJ u4.o rfl;have iq:iV ((q:Nat):Int) E.length=some q:=eU hei;obtain⟨h6,w6,u6,up6⟩:=u4.putH hei;refine bW (λts h'=>h'=h6/\Held [(30,.int .i64 (i:Nat)),(29,.int .i64 (Bl.length:Nat)),(28,edv),(12,.int .i64 ((k'+1:Nat):Int)),(11,.int .i64 (w.length:Nat)),(10,wv),(0,.ptr bb 0),(1,wv),(4,.int .i64 ((k'+1:Nat):Int)),(5,.int .i64 (x:Nat))] ts) (by simp only[am,aI,simprocAttr,f30,f29,f28,ei,en,e10,e0,e1,e4,e5,r6,iq,bh,w6,cG,dl]) ?_;rintro ts h6' ⟨rfl,hh⟩;refine⟨_,⟨u6,k4.trans (up6.kp (S:=λc=>c=la\/c=pa) (.inl rfl)) (λ_ _ q=>q),step _ λj=>?_⟩,hh⟩;have hj:jn (grE n E hE hL) q (w.getD k' 0) x=true:=jiff.2 ⟨hI,by rw[hgd'];exact hy⟩;by_cases hjq:j=q
       .subst hjq;exact⟨λ_=>.inr ⟨rfl,hj⟩,λ_=>by simp⟩
       .simp[hjq]
      .have dy:decide (nN E q x=((w[k']:Nat):Int))=false:=aX hy;refine ai (aD (M6 e1 e4 w1 a5 r5 dy) ?_);refine dR (Z1 dy) (bQ ?_);refine⟨Hi,⟨u4,k4,step Hi λj=>?_⟩,H10 f30 f29 f28 ei en e10 e0 e1 e4 e5⟩;rw[jiff,hgd'];simp[hy]
   .rintro Hi ts h3 ⟨i1,i2,i3⟩ ⟨f28,ei,en,e10,e0,e1,e4,e5,-⟩;simp only at f28 ei en e10 e0 e1 e4 e5 i1 i2 i3;refine⟨(Hi,λj=>if j=x then true else Vk j),⟨i1,i2,λj=>?_,hV2⟩,H5 ei en e10 e0 e1⟩;rw[cV (ab _)]at i3;rw[i3,j3,CU hk,hgd];constructor
    .rintro ((h|⟨h1,h2⟩)|⟨h1,h2⟩)
     .exact .inl h
     .exact .inr ⟨h1,.inl h2⟩
     .exact .inr ⟨h1,.inr ⟨k',rfl,h2⟩⟩
    .rintro (h|⟨h1,h2|⟨j',h3,h2⟩⟩)
     .exact .inl (.inl h)
     .exact .inl (.inr ⟨h1,h2⟩)
     .have:j'=k':=om;subst this;exact .inr ⟨h1,h2⟩
 .rintro⟨Hk,Vk⟩ ts h1 ⟨j1,j2,j3,j4⟩ ⟨e10,e0,e1,-⟩;rw[cV (ab _)]at j3 j4;exact⟨.tup [],rfl,Hk,Vk,j1,j2,j3,j4⟩
end Go.Proofs.YtlolkmcdimgplaaGreat
namespace Go.Pla
open Go.Blk
variable {g:Gr}{Bl:List Nat}{laid thr:Nat->Bool}
theorem Ax(p:Pln g Bl){X:Nat->Bool}(hX:Even g Bl X)(K:Nat->Bool):par Bl (λe=>X e&&(K (g.tl e)^^K (g.hd e)))=false:=by
 have h1:par (List.range g.n) (λv=>K v&&par Bl (λe=>X e&&at_ g e v))=false:=eH λv _=>by rw[hX v];simp
 rw[bD (q:=λv=>par Bl (λe=>X e&&(K v&&at_ g e v))) (λv _=>by
  rw[<-iu];exact bD λe _=>by cases X e<;>cases K v<;>rfl),jV]at h1
 rw[<-h1];refine bD λe he=>?_;rw[iu];congr 1;have hok:=g.ok e (p.lt e he);rw[bD (q:=λv=>((v==g.tl e)&&K v)^^((v==g.hd e)&&K v)) (λv _=>by
  unfold at_;rw[fV (a:=g.tl e),fV (a:=g.hd e)];cases v==g.tl e<;>cases v==g.hd e<;>cases K v<;>rfl),ew,dG be (by simpa using hok.1),dG be (by simpa using hok.2.1)]
theorem yT{r:Nat}{L:List (Nat×Nat)}(m:Met g Bl laid thr r L){y z:Nat}(hy:y∈ks L)(hz:z∈tr L y):z∈ks L:=by
 obtain⟨t,h1,_,_,_,h5⟩:=tr_ok L.length (ab _) m y hy;rw[h1]at hz;exact(h5 z hz).1
theorem xq{r:Nat}:∀(n:Nat) {L:List (Nat×Nat)},L.length<=n->Met g Bl laid thr r L->∀(y z:Nat),y∈ks L->z∈tr L y->∃s,tr L y=tr L z++s
 |0,L,hn,m=>by
   obtain⟨T,hT⟩:=m.root;rw[hT]at hn;simp at hn
 |n+1,L,hn,m=>by
   intro y z hy hz;rcases cS L with h|⟨A,⟨w,x⟩,h⟩
   .rw[h]at hy;simp[ks]at hy
   rw[dC]at h;subst h;by_cases hA:A=[]
   .subst hA;obtain⟨T,hT⟩:=m.root;rw[bt]at hT hy hz |-;injection hT with h1 h2;injection h1 with h1 h3;subst h1 h3;have hyw:=hy;simp only[ks,aS,jf,aP]at hyw;subst hyw;have hzy:=hz;simp[tr,trr]at hzy;subst hzy;exact⟨[],by simp⟩
   .have mA:=m.pre hA;by_cases hyA:y∈ks A
    .rw[tr_app m.nd hyA]at hz |-;have hzA:=yT mA hyA hz;obtain⟨s,hs⟩:=xq n (by simp at hn;omega) mA y z hyA hz;exact⟨s,by rw[tr_app m.nd hzA];exact hs⟩
    .have hyw:y=w:=by
      rw[ks_app,aw]at hy;rcases hy with hy|hy
      .exact absurd hy hyA
      .simpa[ks]using hy
     subst hyw;obtain⟨hx,_⟩:=m.par A y x [] rfl hA;by_cases hzy:z=y
     .subst hzy;exact⟨[],by simp⟩
     .rw[tr_last hA]at hz |-;have hz:z∈tr A x:=by
       rcases aw.1 hz with h|h
       .exact h
       .exact absurd (by simpa using h) hzy
      have hzA:=yT mA hx hz;obtain⟨s,hs⟩:=xq n (by simp at hn;omega) mA x z hx hz;exact⟨s++[y],by rw[tr_app m.nd hzA,hs,bO]⟩
theorem tT{z:Nat}:∀{a b c d:List Nat},(a++z::b).Nodup->a++z::b=c++z::d->a=c
 |[],b,[],d,_,_=>rfl
 |[],b,e::c,d,nd,h=>by
   rw[bt,aH]at h;injection h with h1 h2;rw[bt,aY]at nd;exact absurd (by rw[h2];simp) nd.1
 |e::a,b,[],d,nd,h=>by
   rw[bt,aH]at h;injection h with h1 h2;subst h1;rw[aH,aY]at nd;exact absurd (by simp) nd.1
 |e::a,b,e'::c,d,nd,h=>by
   rw[aH,aH]at h;injection h with h1 h2;subst h1;rw[aH,aY]at nd;rw[tT nd.2 h2]
theorem lst_cat{r:Nat}:∀{t:List Nat},∃s,r::t=s++[lst r t]
 |[]=>⟨[],rfl⟩
 |y::t=>by
   obtain⟨s,h⟩:=lst_cat (r:=y) (t:=t);exact⟨r::s,by rw[lst,aH,<-h]⟩
theorem fork{r:Nat}{L:List (Nat×Nat)}(m:Met g Bl laid thr r L){y1 y2:Nat}(h1:y1∈ks L)(h2:y2∈ks L){c a b:List Nat}{v:Nat}(e1:tr L y1=c++v::a)(e2:tr L y2=c++v::b)(hd:∀z a' b',a=z::a'->b=z::b'->False):∀z∈a,z∉b:=by
 intro z hza hzb;obtain⟨s1,q1⟩:=xq L.length (ab _) m y1 z h1 (by rw[e1];simp[hza]);obtain⟨s2,q2⟩:=xq L.length (ab _) m y2 z h2 (by rw[e2];simp[hzb]);have hz:z∈ks L:=yT m h1 (by rw[e1];simp[hza]);obtain⟨t,t1,t2,_⟩:=tr_ok L.length (ab _) m z hz;obtain⟨s,hs⟩:=lst_cat (r:=r) (t:=t);rw[<-t1,t2]at hs;obtain⟨a1,a2,rfl⟩:=cw hza;obtain⟨b1,b2,rfl⟩:=cw hzb;have n1:(c++v::(a1++z::a2)).Nodup:=by
  obtain⟨t',u1,_,u3,_⟩:=tr_ok L.length (ab _) m y1 h1;rw[<-e1,u1];exact u3
 have n2:(c++v::(b1++z::b2)).Nodup:=by
  obtain⟨t',u1,_,u3,_⟩:=tr_ok L.length (ab _) m y2 h2;rw[<-e2,u1];exact u3
 rw[e1,hs]at q1;rw[e2,hs]at q2;have r1:c++v::a1=s:=tT (z:=z) (b:=a2) (d:=s1) (by simpa using n1) (by simpa using q1);have r2:c++v::b1=s:=tT (z:=z) (b:=b2) (d:=s2) (by simpa using n2) (by simpa using q2);have r3:a1=b1:=by
  have:=r1.trans r2.symm;have:=List.append_cancel_left this;injection this
 subst r3;cases a1 with
 |nil=>exact hd z a2 b2 rfl rfl
 |cons w a1=>exact hd w (a1++z::a2) (a1++z::b2) rfl rfl
theorem back_ex(p:Pln g Bl)(hb:Bond g Bl)(hl:Link g Bl){e0 k0:Nat}(he0:e0∈Bl)(hk0:k0∈Bl)(hne:k0≠e0){f:Nat}(hf:g.n<=f){o:Option Nat}(h:Hit (full g Bl (λe=>decide (e=e0)) (λ_=>true) f ([(g.tl e0,g.tl e0)],[g.tl e0])) (λy=>decide (y=g.hd e0)) o) :
 o=some (g.hd e0)/\∃t,tr (full g Bl (λe=>decide (e=e0)) (λ_=>true) f ([(g.tl e0,g.tl e0)],[g.tl e0])) (g.hd e0)=t/\Cc g Bl t/\∃t',t=g.tl e0::t'/\lst (g.tl e0) t'=g.hd e0:=by
 have hlt:=p.lt e0 he0;have hok:=g.ok e0 hlt;have hs:=full_srch (g:=g) (Bl:=Bl) (laid:=λe=>decide (e=e0)) (thr:=λ_=>true) (r:=g.tl e0) p.lt hok.1 f Srch.start (by show g.n-1+1<=f;omega);generalize full g Bl (λe=>decide (e=e0)) (λ_=>true) f ([(g.tl e0,g.tl e0)],[g.tl e0])=F at h hs |-;have hm:Met g Bl (λe=>decide (e=e0)) (λ_=>true) (g.tl e0) F:=hs.met;have hcl:∀z∈ks F,∀i∈Bl,at_ g i z=true->i≠e0->g.oth i z∈ks F:=λz hz i hi ha hie=>by
  rcases hs.done z hz (.inr rfl)with h1|⟨_,h1⟩|h1
  .simp at h1
  .cases h1
  .exact h1 i hi ha (by simpa using hie)
 obtain⟨T,hT⟩:=hm.root;have hroot:g.tl e0∈ks F:=by rw[hT];simp[ks]
 have hmet:g.hd e0∈ks F:=by
  refine Classical.byContradiction λhno=>?_;have:∃v k,k∈Bl/\k≠e0/\at_ g e0 v=true/\at_ g k v=true:=by
   refine Classical.byContradiction λhnx=>?_;have:=hl (λe=>e==e0) (λv e k he hk hev hkv=>by
    by_cases q1:e=e0
    .by_cases q2:k=e0
     .rw[q1,q2]
     .exact absurd ⟨v,k,hk,q2,q1▸hev,hkv⟩ hnx
    .by_cases q2:k=e0
     .exact absurd ⟨v,e,he,q1,q2▸hkv,hev⟩ hnx
     .rw[beq_eq_false_iff_ne.2 q1,beq_eq_false_iff_ne.2 q2]) e0 he0 k0 hk0
   simp[hne]at this
  obtain⟨v,k,hk,hke,hev,hkv⟩:=this;obtain⟨X,hX,hXj⟩:=hb v e0 k he0 hk hev hkv (Ne.symm hke);have hx0:X e0=true:=by rw[hXj e0 he0 hev];simp
  have h1:=Ax p hX (λz=>decide (z∈ks F));rw[bD (q:=λe=>(e==e0)&&X e) (λe he=>by
   by_cases q:e=e0
   .subst q;rw[bp hroot,aX hno,beq_self_eq_true];cases X e<;>rfl
   .rw[beq_eq_false_iff_ne.2 q];have hie:=p.lt e he;have it:g.inc e (g.tl e):=⟨hie,.inl rfl⟩
    have ih:g.inc e (g.hd e):=⟨hie,.inr rfl⟩
    have ot:g.oth e (g.tl e)=g.hd e:=by unfold Gr.oth;omega
    have oh:g.oth e (g.hd e)=g.tl e:=by unfold Gr.oth;omega
    have:(g.tl e∈ks F)↔(g.hd e∈ks F):=by
     constructor
     .intro hz;have:=hcl _ hz e he ((at_inc hie).2 it) q;rwa [ot]at this
     .intro hz;have:=hcl _ hz e he ((at_inc hie).2 ih) q;rwa [oh]at this
    have this:decide (g.tl e∈ks F)=decide (g.hd e∈ks F):=by rw[decide_eq_decide];exact this
    rw[this];simp),dG p.nd he0,hx0]at h1
  cases h1
 obtain⟨t,t1,t2,t3,t4,t5⟩:=tr_ok F.length (ab _) hm (g.hd e0) hmet;constructor
 .cases o with
  |none =>
    exfalso;have h:∀z∈ks F.tail,decide (z=g.hd e0)=false:=h;have:g.hd e0∈ks F.tail:=by
     rw[hT]at hmet |-;simp only[ks,aS,ao,qf]at hmet |-;rcases hmet with h1|h1
     .exact absurd h1.symm hok.2.2
     .exact h1
    have:=h _ this;simp at this
  |some y =>
    obtain⟨A,x,C,_,_,_,hy⟩:=h;have:y=g.hd e0:=by simpa using hy
    rw[this]
 .refine⟨_,t1,?_⟩;have hmono:∀(s:List Nat),Ch g (Bl.filter λi=>!(decide (i=e0))) s->Ch g Bl s:=by
   intro s;induction s with
   |nil=>exact λh=>h
   |cons a s ih =>
     cases s with
     |nil=>exact λh=>h
     |cons b s =>
       rintro⟨⟨e,he,hj⟩,h2⟩;exact⟨⟨e,(aJ.1 he).1,hj⟩,ih h2⟩
  refine⟨⟨?_,t3,?_⟩,t,rfl,t2⟩
  .have key:∀(t:List Nat) (u:Nat),Ch g Bl (u::t)->lst u t=g.hd e0->Ch g Bl (u::t++[g.tl e0]):=by
    intro t;induction t with
    |nil =>
      intro u _ hu;have hu:u=g.hd e0:=hu;subst hu;exact⟨⟨e0,he0,by rw[jn_iff];exact .inr ⟨rfl,rfl⟩⟩,trivial⟩
    |cons w t ih =>
      intro u hc hu;exact⟨hc.1,ih w hc.2 hu⟩
   exact key t _ (hmono _ t4) t2
  .cases t with
   |nil=>exact absurd t2 hok.2.2
   |cons a t =>
     cases t with
     |nil =>
       have:a=g.hd e0:=t2;subst this;obtain⟨⟨e,he,hj⟩,_⟩:=t4;obtain⟨he1,he2⟩:=aJ.1 he;have:=p.one e he1 e0 he0 _ _ hj (by rw[jn_iff];exact .inl ⟨rfl,rfl⟩);simp[this]at he2
     |cons b t=>simp
end Go.Pla
