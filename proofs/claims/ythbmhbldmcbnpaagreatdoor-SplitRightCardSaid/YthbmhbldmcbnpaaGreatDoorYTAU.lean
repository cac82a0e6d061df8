/- arborref14.Is -/
import Derived.Test.YthbmhbldmcbnpaaGreatDoorYTAT
import Derived.Test.YthbmhbldmcbnpaaGreatDoorYTAQ
set_option linter.all false
namespace Go.Proofs.YthbmhbldmcbnpaaGreatDoor
open Go.Am
open Go.Spl (T4 OkT tA tB deg vs rk rkE mem_vs vs_len vs_rise vs_nodup end_vs rk_mem rk_get rkE_len nParts)
theorem Co {T:List T4}{i k x:Nat} (hi:i<(vs T).length) (hk:k<(vs T).length) (hx:x<(vs T).length):dG T (((vs T)[i]:Nat):Int) (((vs T)[k]:Nat):Int) x=iQ i k x:=by
 unfold dG iQ
 have e:(vs T).getD x 0=(vs T)[x]:=by rw[aF,au hx]; rfl
 have key:∀ j (hj:j<(vs T).length),decide ((((vs T)[x]:Nat):Int)=(((vs T)[j]:Nat):Int))=decide (x=j):=λj hj=>by
  rw[decide_eq_decide]
  constructor
  ·intro q
   exact (GK (vs_nodup T)).1 om
  ·intro q; subst q; rfl
 rw[e,key i hi,key k hk]
theorem Jf {T:List T4}{x:Nat}:dG T (-1) (-1) x=wNo x:=by
 unfold dG wNo
 rw[ai om]
 rfl
set_option maxHeartbeats 2000000 in
theorem EN {h:AH}{v:AV}{kind:Int}{T:List T4} (hv:qA h v T) (hok:∀ t∈T,OkT t) (hxl:T.length<2 ^ 29) :
 C prg 18 [.agg [.int .i64 kind,v]] h λr h'=>∃ b,r=.bool b∧(b=true↔IsK kind T)∧Ext h.next h h':=by
 have hvl:=vs_len T
 have hE:=yZ hok
 obtain⟨vc,vo⟩:=hv.cells
 have tl:=hv.len
 rw[ar] at tl
 refine NX pf18 ?_
 refine ah (ak (Mi0) ?_)
 have x0:Ext h.next h (h.new (.cells [.int .i64 kind,v] 2 false)):=NU (ae _)
 have g0:(h.new (.cells [.int .i64 kind,v] 2 false)).get h.next=some (.cells [.int .i64 kind,v] 2 false):=by rw[AH.get_new,if_pos rfl]
 have n0:(h.new (.cells [.int .i64 kind,v] 2 false)).next=h.next+1:=rfl
 generalize (h.new (.cells [.int .i64 kind,v] 2 false))=h1 at *
 have rV:aj h1 h.next 1 1=some [v]:=aJ g0 rfl
 refine ah (bF (bg 2 (Mi1 rV) rfl (Zi1 rV) (Mi1 rV) (nA (hv.ext x0 (ae _)) hok om) λr h2 hq=>?_))
 obtain⟨i2,x2⟩:=hq
 refine bp (M0) ?_
 generalize hlv:r=lv at *
 clear hlv
 have n2:=x2.nx
 have X2:Ext h.next h h2:=x0.trans (x2.mono om)
 have g2:h2.get h.next=some (.cells [.int .i64 kind,v] 2 false):=by rw[x2.gt _ om]; exact g0
 have rV2:aj h2 h.next 1 1=some [v]:=aJ g2 rfl
 have rK2:aj h2 h.next 0 1=some [.int .i64 kind]:=aJ g2 rfl
 have s2:=kH i2
 have l2:=s2.len
 rw[ar,ar] at l2
 by_cases q3:3≤T.length
 ·have c3:decide (((T.length:Nat):Int)<3)=false:=ai om
  refine ah (ah (ak (Mi3 rV2 tl c3) ?_))
  refine cj (Z0) (be ?_)
  by_cases k2:kind=2
  ·have c2:decide (kind=2)=true:=aq k2
   refine ah (ah (ak (Mi2 rK2 c2) ?_))
   refine bq (Z0) ?_
   refine ah (ak (M1 l2) ?_)
   refine aV ⟨.bool (decide ((((vs T).length:Nat):Int)=2)),(by simp only[rs,rf18,am,aC,simprocAttr]<;>rfl),_,rfl,?_,X2⟩
   rw[az]
   constructor
   ·exact λp=>⟨q3,.inl ⟨k2,om⟩⟩
   ·rintro⟨_,⟨_,p⟩|⟨e,_⟩|⟨e,_⟩⟩
    ·omega
    ·omega
    ·omega
  have c2:decide (kind=2)=false:=ai k2
  refine ah (ah (ak (Mi2 rK2 c2) ?_))
  refine cj (Z0) (be ?_)
  by_cases k1:kind=1
  ·have c1:decide (kind=1)=true:=aq k1
   refine ah (ah (ak (Mi2 rK2 c1) ?_))
   refine bq (Z0) ?_
   refine ah (ah (ak (M0) ?_))
   refine er (α:=Unit) (N:=(vs T).length) (λi _=>[(1,.ptr h.next 0),(3,lv),(4,.int .i64 (i:Nat))])
    (λi _ h'=>(∀ j (hj:j<(vs T).length),j<i→deg T (vs T)[j]=2)∧h'=h2) () (Hi1 @aW) ⟨λj hj q=>absurd q (bm _),rfl⟩ ?_ ?_ ?_
   ·rintro i _ ts h4 hi ⟨j1,rfl⟩ ⟨e1,e3,e4,-⟩
    simp only at e1 e3 e4
    exact⟨_,(M4 e3 e4 l2 @bw),Z0,H3 e1 e3 e4⟩
   ·rintro i _ ts h4 hi ⟨j1,rfl⟩ ⟨e1,e3,e4,-⟩
    simp only at e1 e3 e4
    have w4:=dF (k:=i) om
    obtain⟨b1,p1,a1,r1,_⟩:=s2.at1 (i:=i) (y:=.int .i64 (((vs T)[i]:Nat):Int)) (by rw[aE,aE,au hi]; rfl)
    refine ah (bF (bg 6 (M6 e1 e3 e4 rV2 a1 r1) rfl (Z6 e1 e3 e4 rV2 a1 r1) (M6 e1 e3 e4 rV2 a1 r1) (qe (x:=(vs T)[i]) (hv.ext X2 (ae _)) hok om) λr h5 hq=>?_))
    obtain⟨rfl,rfl⟩:=hq
    by_cases q:deg T (vs T)[i]=2
    ·have cc:decide (((deg T (vs T)[i]:Nat):Int)=2)=true:=aq om
     refine bp (M1 cc) ?_
     refine cj (Z0) (be ?_)
     refine⟨(),⟨λj hj hji=>?_,rfl⟩,_,(M2 e4 w4),H2 e1 e3⟩
     by_cases e:j=i
     ·subst e; exact q
     ·exact j1 j hj om
    ·have cc:decide (((deg T (vs T)[i]:Nat):Int)=2)=false:=ai om
     refine bp (M1 cc) ?_
     refine bq (Z0) (ah (ak (M0) ?_))
     refine aV ⟨.bool false,(by simp only[rs,rf18,am,aC,simprocAttr]<;>rfl),false,rfl,⟨(λq=>by cases q),?_⟩,X2⟩
     rintro⟨_,⟨e,_⟩|⟨_,_,_,p⟩|⟨e,_⟩⟩
     ·omega
     ·exact absurd (p _ (aO hi)) q
     ·omega
   ·rintro _ ts h4 ⟨j1,rfl⟩ ⟨e1,e3,e4,-⟩
    simp only at e1 e3
    by_cases q:(vs T).length=T.length
    ·have cq:decide ((((vs T).length:Nat):Int)=((T.length:Nat):Int))=true:=aq om
     refine ah (bF (bg 9 (M6 e1 e3 l2 rV2 tl cq) rfl (Z6 e1 e3 l2 rV2 tl cq) (M6 e1 e3 l2 rV2 tl cq) (qd (a:=-1) (b:=-1) (hv.ext X2 (ae _)) hok hxl) λr h5 hq=>?_))
     obtain⟨rfl,x5⟩:=hq
     have hcg:nParts (vs T).length (rkE T).length (tlE (rkE T)) (hdE (rkE T)) (dG T (-1) (-1))=nParts (vs T).length (rkE T).length (tlE (rkE T)) (hdE (rkE T)) wNo:=oj hE λx _=>Jf
     refine bp (M0) ?_
     refine aV ⟨.bool (decide (((nParts (vs T).length (rkE T).length (tlE (rkE T)) (hdE (rkE T)) (dG T (-1) (-1)):Nat):Int)=1)),(by simp only[rs,rf18,am,aC,simprocAttr]<;>rfl),_,rfl,?_,X2.trans (x5.mono X2.nx)⟩
     rw[az,hcg]
     constructor
     ·refine λp=>⟨q3,.inr (.inl ⟨k1,q,by unfold iC; omega,λx hx=>?_⟩)⟩
      obtain⟨j,hj,rfl⟩:=db hx
      exact j1 j hj hj
     ·rintro⟨_,⟨e,_⟩|⟨_,_,p,_⟩|⟨e,_⟩⟩
      ·omega
      ·unfold iC at p; omega
      ·omega
    ·have cq:decide ((((vs T).length:Nat):Int)=((T.length:Nat):Int))=false:=ai om
     refine ah (bF (ee 9 (M6 e1 e3 l2 rV2 tl cq) rfl (Z0) ?_))
     refine bp (M0) ?_
     refine aV ⟨.bool false,(by simp only[rs,rf18,am,aC,simprocAttr]<;>rfl),false,rfl,⟨(λq=>by cases q),?_⟩,X2⟩
     rintro⟨_,⟨e,_⟩|⟨_,p,_⟩|⟨e,_⟩⟩
     ·omega
     ·exact absurd p q
     ·omega
  have c1:decide (kind=1)=false:=ai k1
  refine ah (ah (ak (Mi2 rK2 c1) ?_))
  refine cj (Z0) (be ?_)
  by_cases k3:kind=3
  ·have c3':decide (kind=3)=true:=aq k3
   have hiff:IsK kind T↔RigK T:=by
    constructor
    ·rintro⟨_,⟨e,_⟩|⟨e,_⟩|⟨_,p⟩⟩
     ·exact absurd e k2
     ·exact absurd e k1
     ·exact p
    ·exact λp=>⟨q3,.inr (.inr ⟨k3,p⟩)⟩
   by_cases q4:4≤(vs T).length
   ·have c4:decide ((((vs T).length:Nat):Int)<4)=false:=ai om
    refine ah (ah (ak (Mi4 rK2 c3' l2 c4) ?_))
    refine cj (Z0) (be ?_)
    refine ah (ah (ak (M0) ?_))
    refine er (α:=Unit) (N:=T.length) (λi _=>[(1,.ptr h.next 0),(3,lv),(5,.int .i64 (i:Nat))])
     (λi _ h'=>(∀ j (hj:j<T.length),j<i→∀ k (hk:k<T.length),k<j→¬ (tA T[j]=tA T[k]∧tB T[j]=tB T[k]))∧h'=h2) () (Hi1 @aW) ⟨λj hj q=>absurd q (bm _),rfl⟩ ?_ ?_ ?_
    ·rintro i _ ts h4 hi ⟨j1,rfl⟩ ⟨e1,e3,e5,-⟩
     simp only at e1 e3 e5
     exact⟨_,(M5 e1 e5 rV2 tl @bw),Z0,H3 e1 e3 e5⟩
    ·rintro i _ ts h4 hi ⟨j1,rfl⟩ ⟨e1,e3,e5,-⟩
     simp only at e1 e3 e5
     have w5:=dF (k:=i) om
     refine ah (ah (ak (M0) ?_))
     refine er (α:=Unit) (N:=i) (λk _=>[(1,.ptr h.next 0),(3,lv),(5,.int .i64 (i:Nat)),(6,.int .i64 (k:Nat))])
      (λk _ h'=>(∀ k' (hk:k'<T.length),k'<k→¬ (tA T[i]=tA T[k']∧tB T[i]=tB T[k']))∧h'=h4) () (H4 e1 e3 e5 @aW) ⟨λj hj q=>absurd q (bm _),rfl⟩ ?_ ?_ ?_
     ·clear e1 e3 e5
      rintro k _ ts h5 hk ⟨k1',rfl⟩ ⟨e1,e3,e5,e6,-⟩
      simp only at e1 e3 e5 e6
      exact⟨_,(M3 e5 e6 @bw),Z0,H4 e1 e3 e5 e6⟩
     ·clear e1 e3 e5
      rintro k _ ts h5 hk ⟨k1',rfl⟩ ⟨e1,e3,e5,e6,-⟩
      simp only at e1 e3 e5 e6
      have hkT:k<T.length:=om
      have w6:=dF (k:=k) om
      have hv4:=hv.ext X2 (ae _)
      obtain⟨b1,p1,a1,_,r1,_⟩:=hv4.at (dp (f:=eT4) hi)
      obtain⟨b2,p2,a2,_,r2,_⟩:=hv4.at (dp (f:=eT4) hkT)
      obtain⟨u1,u2,_⟩:=(hok _ (aO hi)).nat
      obtain⟨u3,u4,_⟩:=(hok _ (aO hkT)).nat
      have r10:=r1 0 (.int .i64 T[i].1) rfl
      have r11:=r1 1 (.int .i64 T[i].2.1) rfl
      have r20:=r2 0 (.int .i64 T[k].1) rfl
      have r21:=r2 1 (.int .i64 T[k].2.1) rfl
      rw[ce,u1] at r10
      rw[u2] at r11
      rw[ce,u3] at r20
      rw[u4] at r21
      have hnext:¬ (tA T[i]=tA T[k]∧tB T[i]=tB T[k])→∀ k' (hk:k'<T.length),k'<k+1→¬ (tA T[i]=tA T[k']∧tB T[i]=tB T[k']):=λq k' hk' hlt=>by
       by_cases e:k'=k
       ·subst e; exact q
       ·exact k1' k' hk' om
      have hbad:(tA T[i]=tA T[k]∧tB T[i]=tB T[k])→¬ IsK kind T:=λq p=>(hiff.1 p).2.1 i hi k hkT hk q
      by_cases z1:tA T[i]=tA T[k]
      ·have d1:decide (((tA T[i]:Nat):Int)=((tA T[k]:Nat):Int))=true:=aq om
       by_cases z2:tB T[i]=tB T[k]
       ·have d2:decide (((tB T[i]:Nat):Int)=((tB T[k]:Nat):Int))=true:=aq om
        refine ah (ak (M12 e1 e5 e6 rV2 a1 a2 r10 r11 r20 r21 d1 d2) ?_)
        refine bq (Z0) (ah (ak (M0) ?_))
        exact aV ⟨.bool false,(by simp only[rs,rf18,am,aC,simprocAttr]<;>rfl),false,rfl,⟨(λq=>by cases q),λq=>absurd q (hbad ⟨z1,z2⟩)⟩,X2⟩
       ·have d2:decide (((tB T[i]:Nat):Int)=((tB T[k]:Nat):Int))=false:=ai om
        refine ah (ak (M12 e1 e5 e6 rV2 a1 a2 r10 r11 r20 r21 d1 d2) ?_)
        refine cj (Z0) (be ?_)
        exact⟨(),⟨hnext λq=>z2 q.2,rfl⟩,_,(M2 e6 w6),H3 e1 e3 e5⟩
      ·have d1:decide (((tA T[i]:Nat):Int)=((tA T[k]:Nat):Int))=false:=ai om
       refine ah (ak (M10 e1 e5 e6 rV2 a1 a2 r10 r20 d1 d1) ?_)
       refine cj (Z0) (be ?_)
       exact⟨(),⟨hnext λq=>z1 q.1,rfl⟩,_,(M2 e6 w6),H3 e1 e3 e5⟩
     ·clear e1 e3 e5
      rintro _ ts h5 ⟨k1',rfl⟩ ⟨e1,e3,e5,e6,-⟩
      simp only at e1 e3 e5 e6
      refine⟨(),⟨λj hj hji=>?_,rfl⟩,_,(M2 e5 w5),H2 e1 e3⟩
      by_cases e:j=i
      ·subst e; exact k1'
      ·exact j1 j hj om
    ·rintro _ ts h4 ⟨j1,rfl⟩ ⟨e1,e3,e5,-⟩
     simp only at e1 e3
     refine ah (ah (ak (M0) ?_))
     refine er (α:=Unit) (N:=(vs T).length) (λi _=>[(1,.ptr h.next 0),(3,lv),(7,.int .i64 (i:Nat))])
      (λi _ h'=>(∀ a b,b<a→a<i→iC T (iQ a b))∧Ext h4.next h4 h') () (H3 e1 e3 @aW) ⟨λa b _ q=>absurd q (bm _),NV⟩ ?_ ?_ ?_
     ·clear e1 e3
      rintro i _ ts h5 hi ⟨k1',k2'⟩ ⟨e1,e3,e7,-⟩
      simp only at e1 e3 e7
      exact⟨_,(M4 e3 e7 l2 @bw),Z0,H3 e1 e3 e7⟩
     ·clear e1 e3
      rintro i _ ts h5 hi ⟨k1',k2'⟩ ⟨e1,e3,e7,-⟩
      simp only at e1 e3 e7
      have w7:=dF (k:=i) om
      refine ah (ah (ak (M0) ?_))
      refine er (α:=Unit) (N:=i) (λk _=>[(1,.ptr h.next 0),(3,lv),(7,.int .i64 (i:Nat)),(8,.int .i64 (k:Nat))])
       (λk _ h'=>(∀ b,b<k→iC T (iQ i b))∧Ext h4.next h4 h') () (H4 e1 e3 e7 @aW) ⟨λb q=>absurd q (bm _),k2'⟩ ?_ ?_ ?_
      ·clear e1 e3 e7
       rintro k _ ts h6 hk ⟨m1,m2⟩ ⟨e1,e3,e7,e8,-⟩
       simp only at e1 e3 e7 e8
       exact⟨_,(M3 e7 e8 @bw),Z0,H4 e1 e3 e7 e8⟩
      ·clear e1 e3 e7
       rintro k _ ts h6 hk ⟨m1,m2⟩ ⟨e1,e3,e7,e8,-⟩
       simp only at e1 e3 e7 e8
       have hkv:k<(vs T).length:=om
       have w8:=dF (k:=k) om
       have X6:=X2.trans (m2.mono X2.nx)
       have s6:=s2.ext m2 (ae _)
       obtain⟨b1,p1,a1,r1,_⟩:=s6.at1 (i:=i) (y:=.int .i64 (((vs T)[i]:Nat):Int)) (by rw[aE,aE,au hi]; rfl)
       obtain⟨b2,p2,a2,r2,_⟩:=s6.at1 (i:=k) (y:=.int .i64 (((vs T)[k]:Nat):Int)) (by rw[aE,aE,au hkv]; rfl)
       have rV6:aj h6 h.next 1 1=some [v]:=by rw[bG (m2.gt _ om)]; exact rV2
       refine ah (bF (bg 10 (M10 e1 e3 e7 e8 rV6 a1 r1 a2 r2 r2) rfl (Z10 e1 e3 e7 e8 rV6 a1 r1 a2 r2 r2) (M10 e1 e3 e7 e8 rV6 a1 r1 a2 r2 r2) (qd (a:=(((vs T)[i]:Nat):Int)) (b:=(((vs T)[k]:Nat):Int)) (hv.ext X6 (ae _)) hok hxl) λr h7 hq=>?_))
       obtain⟨rfl,x7⟩:=hq
       have hcg:nParts (vs T).length (rkE T).length (tlE (rkE T)) (hdE (rkE T)) (dG T (((vs T)[i]:Nat):Int) (((vs T)[k]:Nat):Int))=nParts (vs T).length (rkE T).length (tlE (rkE T)) (hdE (rkE T)) (iQ i k):=oj hE λx hx=>Co hi hkv hx
       rw[hcg]
       have M7:=m2.trans (x7.mono m2.nx)
       by_cases q:iC T (iQ i k)
       ·have cc:decide (((nParts (vs T).length (rkE T).length (tlE (rkE T)) (hdE (rkE T)) (iQ i k):Nat):Int)=1)=true:=aq (by unfold iC at q; omega)
        refine bp (M1 cc) ?_
        refine cj (Z0) (be ?_)
        refine⟨(),⟨λb hb=>?_,M7⟩,_,(M2 e8 w8),H3 e1 e3 e7⟩
        by_cases e:b=k
        ·subst e; exact q
        ·exact m1 b om
       ·have cc:decide (((nParts (vs T).length (rkE T).length (tlE (rkE T)) (hdE (rkE T)) (iQ i k):Nat):Int)=1)=false:=ai (by unfold iC at q; omega)
        refine bp (M1 cc) ?_
        refine bq (Z0) (ah (ak (M0) ?_))
        exact aV ⟨.bool false,(by simp only[rs,rf18,am,aC,simprocAttr]<;>rfl),false,rfl,⟨(λq=>by cases q),λp=>absurd ((hiff.1 p).2.2 i k hk hi) q⟩,X2.trans (M7.mono X2.nx)⟩
      ·clear e1 e3 e7
       rintro _ ts h6 ⟨m1,m2⟩ ⟨e1,e3,e7,e8,-⟩
       simp only at e1 e3 e7 e8
       refine⟨(),⟨λa b hb ha=>?_,m2⟩,_,(M2 e7 w7),H2 e1 e3⟩
       by_cases e:a=i
       ·subst e; exact m1 b hb
       ·exact k1' a b hb om
     ·rintro _ ts h5 ⟨k1',k2'⟩ ⟨e1,e3,e7,-⟩
      refine ah (ak (M0) ?_)
      exact aV ⟨.bool true,(by simp only[rs,rf18,am,aC,simprocAttr]<;>rfl),true,rfl,⟨λ_=>hiff.2 ⟨q4,λi hi k hk hki=>j1 i hi hi k hk hki,k1'⟩,λ_=>rfl⟩,X2.trans (k2'.mono X2.nx)⟩
   ·have c4:decide ((((vs T).length:Nat):Int)<4)=true:=aq om
    refine ah (ah (ak (Mi4 rK2 c3' l2 c4) ?_))
    refine bq (Z0) (ah (ak (M0) ?_))
    exact aV ⟨.bool false,(by simp only[rs,rf18,am,aC,simprocAttr]<;>rfl),false,rfl,⟨(λq=>by cases q),λp=>absurd (hiff.1 p).1 q4⟩,X2⟩
  have c3':decide (kind=3)=false:=ai k3
  refine ah (ah (ak (Mi2 rK2 c3') ?_))
  refine bq (Z0) (ah (ak (M0) ?_))
  refine aV ⟨.bool false,(by simp only[rs,rf18,am,aC,simprocAttr]<;>rfl),false,rfl,⟨(λq=>by cases q),?_⟩,X2⟩
  rintro⟨_,⟨e,_⟩|⟨e,_⟩|⟨e,_⟩⟩
  ·exact absurd e k2
  ·exact absurd e k1
  ·exact absurd e k3
 ·have c3:decide (((T.length:Nat):Int)<3)=true:=aq om
  refine ah (ah (ak (Mi3 rV2 tl c3) ?_))
  refine bq (Z0) (ah (ak (M0) ?_))
  exact aV ⟨.bool false,(by simp only[rs,rf18,am,aC,simprocAttr]<;>rfl),false,rfl,⟨(λq=>by cases q),λq=>absurd q.1 q3⟩,X2⟩
end Go.Proofs.YthbmhbldmcbnpaaGreatDoor
