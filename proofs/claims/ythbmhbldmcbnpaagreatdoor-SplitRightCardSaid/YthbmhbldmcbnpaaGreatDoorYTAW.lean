/- arborlaw14.Great, many, laid. -/
import Derived.Test.YthbmhbldmcbnpaaGreatDoorYTAV
import Derived.Test.YthbmhbldmcbnpaaGreatDoorYTAS
import Derived.Test.YthbmhbldmcbnpaaGreatDoorYTAB
import Derived.Test.YthbmhbldmcbnpaaGreatDoorYAmF
import Derived.Test.YthbmhbldmcbnpaaGreatDoorYAmR
set_option linter.all false
namespace Go.Proofs.YthbmhbldmcbnpaaGreatDoor
open Go.Am
open Go.Spl (T4)
theorem zB {h:AH}{n:Int}{ev:AV}{E:List (Int×Int)} (he:SlE h ev E):C prg 5 [.agg [.int .i64 n,ev]] h λr h'=>∃ b,r=.bool b∧(b=false→E.length≤30)∧Ext h.next h h':=by
 obtain⟨ec,eo⟩:=he.cells
 have el:=he.len
 rw[ar] at el
 refine NX pf5 ?_
 refine ah (ak (Mi0) ?_)
 have x0:Ext h.next h (h.new (.cells [.int .i64 n,ev] 2 false)):=NU (ae _)
 have g0:(h.new (.cells [.int .i64 n,ev] 2 false)).get h.next=some (.cells [.int .i64 n,ev] 2 false):=by rw[AH.get_new,if_pos rfl]
 generalize (h.new (.cells [.int .i64 n,ev] 2 false))=h1 at *
 have rN:aj h1 h.next 0 1=some [.int .i64 n]:=aJ g0 rfl
 have rE:aj h1 h.next 1 1=some [ev]:=aJ g0 rfl
 have hl30:decide ((30:Int)<((E.length:Nat):Int))=false→E.length≤30:=λq=>by
  have:=eO q
  omega
 by_cases q1:(16:Int)<n
 ·have c1:decide ((16:Int)<n)=true:=aq q1
  by_cases q2:n≤64
  ·have c2:decide (n≤64)=true:=aq q2
   refine ah (ak (Mi3 rN c1 c2) ?_)
   exact aV ⟨.bool true,(by simp only[rs,rf5,am,aC,simprocAttr]<;>rfl),true,rfl,(λq=>by cases q),x0⟩
  ·have c2:decide (n≤64)=false:=ai q2
   refine ah (ak (Mi5 rN rE el c1 c2) ?_)
   exact aV ⟨.bool (decide ((30:Int)<((E.length:Nat):Int))),(by simp only[rs,rf5,am,aC,simprocAttr]<;>rfl),_,rfl,hl30,x0⟩
 ·have c1:decide ((16:Int)<n)=false:=ai q1
  refine ah (ak (Mi4 rN rE el c1) ?_)
  exact aV ⟨.bool (decide ((30:Int)<((E.length:Nat):Int))),(by simp only[rs,rf5,am,aC,simprocAttr]<;>rfl),_,rfl,hl30,x0⟩
theorem Bu {S:List SK}{k:Nat} (hk:k<S.length):((S.take (k+1)).map λp=>p.2.length).sum=((S.take k).map λp=>p.2.length).sum+S[k].2.length:=by
 rw[aX hk,br,mK]
 simp
theorem Ct {h:AH}{v:AV}{L:Nat}{S:List SK} (hlv:gD v=some (.int .i64 (L:Nat))) (hs:L≤70→SkL h v S):C prg 6 [v] h λr h'=>∃ b,r=.bool b∧(b=false→L≤70∧Bv S≤200)∧Ext h.next h h':=by
 refine NX pf6 ?_
 refine ah (ak (Mi0) ?_)
 by_cases q70:L≤70
 ·have c1:decide ((70:Int)<((L:Nat):Int))=false:=ai om
  refine ah (ah (ak (Mi2 hlv c1) ?_))
  refine cj (Z0) (be ?_)
  have hsk:=hs q70
  have hL:S.length=L:=by
   have:=hsk.len
   rw[hlv] at this
   simp only[aa,AV.int.injEq,true_and] at this
   omega
  subst hL
  refine ah (ak (Mi0) ?_)
  refine ah (ah (ak (Mi1 hlv) ?_))
  clear hs
  refine fW (α:=Unit) (N:=S.length) (λk _=>[(9,v),(3,.int .i64 ((((S.take k).map λp=>p.2.length).sum:Nat):Int))]) (λk _ h'=>((S.take k).map λp=>p.2.length).sum≤200∧Ext h.next h h') () (λ_ _=>rfl) om (by simp only[hl,am,aC,simprocAttr,bI,fl,mY,List.sum_nil,aW]) ⟨by simp,NV⟩ ?_ ?_
  ·rintro k _ ts h1 hk ⟨j1,j2⟩ ⟨ei,en,e9,e3,-⟩
   simp only at ei en e9 e3
   have hst:=Bu hk
   obtain⟨b1,p1,w,a1,r2,r1,st,_⟩:=(hsk.ext j2 (ae _)).at hk
   have wl:=st.len
   rw[ar] at wl
   obtain⟨wc,wo⟩:=st.cells
   obtain⟨h2,w2,x2,g2,n2⟩:=dI (h:=h1) (z:=[.int .i64 0,.nils]) (cs:=[.int .i64 S[k].1,w]) (e:=2) rfl
   refine bL (ah (ak (M6 e9 ei a1 r2 w2 wo) ?_))
   have rw2:aj h2 h1.next 1 1=some [w]:=aJ g2 rfl
   have X2:Ext h.next h h2:=j2.trans (x2.mono j2.nx)
   generalize ((S.take k).map λp=>p.2.length).sum=s at *
   generalize S[k].2.length=t at *
   by_cases q:t≤1000
   ·have hmn:(if (1000:Int)<((t:Nat):Int) then (1000:Int) else ((t:Nat):Int))=((t:Nat):Int):=if_neg om
    have wa:IntKind.i64.wrap (((s:Nat):Int)+((t:Nat):Int))=((s+t:Nat):Int):=by rw[fp om om]; omega
    refine ah (ak (M6 e3 rw2 wl @iH hmn wa) ?_)
    by_cases q2:s+t≤200
    ·have c2:decide ((200:Int)<((s+t:Nat):Int))=false:=ai om
     refine ah (ak (M1 c2) ?_)
     refine cj (Z0) (be ?_)
     exact⟨(),⟨om,X2⟩,H4 ei en e9 hst⟩
    ·have c2:decide ((200:Int)<((s+t:Nat):Int))=true:=aq om
     refine ah (ak (M1 c2) ?_)
     refine bq (Z0) (ah (ak (M0) ?_))
     exact aV ⟨.bool true,(by simp only[rs,rf6,am,aC,simprocAttr]<;>rfl),true,rfl,(λq=>by cases q),X2⟩
   ·have hmn:(if (1000:Int)<((t:Nat):Int) then (1000:Int) else ((t:Nat):Int))=1000:=if_pos om
    have wa:IntKind.i64.wrap (((s:Nat):Int)+1000)=((s:Nat):Int)+1000:=fp om om
    have c2:decide ((200:Int)<((s:Nat):Int)+1000)=true:=aq om
    refine ah (ak (M6 e3 rw2 wl @iH hmn wa) ?_)
    refine ah (ak (M1 c2) ?_)
    refine bq (Z0) (ah (ak (M0) ?_))
    exact aV ⟨.bool true,(by simp only[rs,rf6,am,aC,simprocAttr]<;>rfl),true,rfl,(λq=>by cases q),X2⟩
  ·rintro _ ts h1 ⟨j1,j2⟩ _
   rw[bO] at j1
   refine ah (ak (M0) ?_)
   exact aV ⟨.bool false,(by simp only[rs,rf6,am,aC,simprocAttr]<;>rfl),false,rfl,λ_=>⟨q70,j1⟩,j2⟩
 ·have c1:decide ((70:Int)<((L:Nat):Int))=true:=aq om
  refine ah (ah (ak (Mi2 hlv c1) ?_))
  refine bq (Z0) (ah (ak (M0) ?_))
  exact aV ⟨.bool true,(by simp only[rs,rf6,am,aC,simprocAttr]<;>rfl),true,rfl,(λq=>by cases q),NV⟩
def f2 (x:Int×AV):List AV:=[.int .i64 x.1,x.2]
def Ld (h:AH) (lo:Nat) (a:AV) (S:List SK) (i:Nat):Prop:=∃ rs:List (Int×AV),rs.length=i∧IsSl h 2 lo a (rs.flatMap f2)∧∀ (j:Nat) (x:Int×AV) (p:SK),rs[j]?=some x→S[j]?=some p→x.1=p.1∧IsSl h 4 lo x.2 (p.2.flatMap eT4)∧∀ b n b' n',x.2=.sl b 0 n n→a=.sl b' 0 n' n'→b≠b'
theorem Ld.skl {h:AH}{lo:Nat}{a:AV}{S:List SK} (l:Ld h lo a S S.length):SkL h a S:=by
 obtain⟨rs,h1,h2,h3⟩:=l
 refine⟨rs.map (·.2),by simp [h1],?_,λi p w q1 q2=>?_⟩
 ·have:=h2.sl (f:=f2) om (λ_=>rfl)
  have e:rs.map f2=List.zipWith (λ(p:SK) (w:AV)=>([.int .i64 p.1,w]:List AV)) S (rs.map (·.2)):=by
   refine fR (by simp [h1]) λi z1 z2=>?_
   have hi:i<rs.length:=by simpa using z1
   have hS:i<S.length:=om
   rw[bt,lR,bt]
   have:=(h3 i _ _ (au hi) (au hS)).1
   unfold f2
   rw[this]
  rwa [e] at this
 ·rw[aE] at q2
  obtain⟨x,hx,rfl⟩:=aw.1 q2
  exact NT om (λ_=>rfl) (h3 i x p hx q1).2.1
set_option maxHeartbeats 2000000 in
theorem CC {h:AH}{v:AV}{S:List SK} (hs:SkL h v S) (hS:S.length≤70) (hT:Bv S≤200):C prg 8 [v] h λr h'=>SkL h' r S∧Ext h.next h h'∧r.cells=[r]:=by
 have sl:=hs.len
 refine NX pf8 ?_
 refine ah (ak (Mi0) ?_)
 have x5:Ext h.next h (h.new (.cells [] 2 false)):=NU (ae _)
 have g5:(h.new (.cells [] 2 false)).get h.next=some (.cells [] 2 false):=by rw[AH.get_new,if_pos rfl]
 refine ah (ak (M0) ?_)
 show W _ _ _ (h.new (.cells [] 2 false)) _ _ _
 generalize (h.new (.cells [] 2 false))=h1 at *
 refine ah (ah (ak (Mi1 sl) ?_))
 refine fW (α:=AV) (N:=S.length) (λ_ a=>[(10,v),(3,a)]) (λi a h'=>Ld h' h.next a S i∧Ext h.next h h') (.sl h.next 0 0 0) (λ_ _=>rfl) om (Hi0)
  ⟨⟨[],rfl,.inr ⟨h.next,0,ae _,rfl,g5,rfl⟩,λj x p q=>by simp at q⟩,x5⟩ ?_ ?_
 ·rintro i a ts h2 hi ⟨⟨rs,l1,l2,l3⟩,j2⟩ ⟨ei,en,e10,e3,-⟩
  simp only at ei en e10 e3
  have hti:=vf hi
  have hSi:S[i]?=some S[i]:=au hi
  obtain⟨b1,p1,w,a1,r2,r1,st,_⟩:=(hs.ext j2 (ae _)).at hi
  generalize S[i]=sk at *
  obtain⟨kind,T⟩:=sk
  simp only at r2 r1 st hti
  have wl:=st.len
  rw[ar] at wl
  obtain⟨wc,wo⟩:=st.cells
  obtain⟨h3,w3,x3,g3,n3⟩:=dI (h:=h2) (z:=[.int .i64 0,.nils]) (cs:=[.int .i64 kind,w]) (e:=2) rfl
  refine bL (ah (ak (M6 e10 ei a1 r2 w3 wo) ?_))
  have rk3:aj h3 h2.next 0 1=some [.int .i64 kind]:=aJ g3 rfl
  obtain⟨h4,w4,x4,g4,n4⟩:=dI (h:=h3) (z:=[.int .i64 0,.nils]) (cs:=[.int .i64 kind,.nils]) (e:=2) rfl
  refine ah (ak (M2 rk3 w4) ?_)
  have g34:h4.get h2.next=some (.cells [.int .i64 kind,w] 2 false):=by rw[x4.gt _ om]; exact g3
  have rw4:aj h4 h2.next 1 1=some [w]:=aJ g34 rfl
  have x24:Ext h2.next h2 h4:=x3.trans (x4.mono om)
  have hn2:=j2.nx
  refine ah (ah (ak (M2 rw4 wl) ?_))
  refine fW (α:=AV) (N:=T.length) (λ_ _=>[(10,v),(3,a),(6,.ptr h3.next 0),(20,w),(12,.int .i64 ((i:Nat):Int)),(11,.int .i64 ((S.length:Nat):Int))])
   (λk b h'=>h'.get h3.next=some (.cells [.int .i64 kind,b] 2 false)∧IsSl h' 4 h4.next b ((T.take k).flatMap eT4)∧Ext h2.next h2 h'∧h4.next≤h'.next) .nils (λ_ _=>rfl) om (H4 ei en e10 e3)
   ⟨g4,.inl ⟨rfl,rfl⟩,x24,ae _⟩ ?_ ?_
  ·clear ei en e10 e3
   rintro k b ts h5 hk ⟨k1,k2,k3,k4⟩ ⟨ei,en,e10,e3,e6,e20,e12,e11,-⟩
   simp only at ei en e10 e3 e6 e20 e12 e11
   obtain⟨b5,p5,a5,r5,_⟩:=(st.ext k3 (ae _)).at (dp (f:=eT4) hk)
   have r5:aj h5 b5 p5 4=some [.int .i64 T[k].1,.int .i64 T[k].2.1,.int .i64 T[k].2.2.1,.int .i64 T[k].2.2.2]:=r5
   have htk:T.take (k+1)=T.take k++[T[k]]:=aX hk
   rw[htk]
   clear htk
   have hlk:((T.take k).flatMap eT4).length=k*4:=by rw[dZ (f:=eT4) (e:=4) (λ_=>rfl),bz]; congr 1; omega
   generalize T[k]=t at *
   obtain⟨h6,w6,x6,g6,n6⟩:=dI (h:=h5) (z:=[.int .i64 0,.int .i64 0,.int .i64 0,.int .i64 0]) (cs:=[.int .i64 t.1,.int .i64 t.2.1,.int .i64 t.2.2.1,.int .i64 t.2.2.2]) (e:=4) rfl
   refine bL (ah (ak (M5 e20 ei a5 r5 w6) ?_))
   have q0:aj h6 h5.next 0 1=some [.int .i64 t.1]:=aJ g6 rfl
   have q1:aj h6 h5.next 1 1=some [.int .i64 t.2.1]:=aJ g6 rfl
   have q2:aj h6 h5.next 2 1=some [.int .i64 t.2.2.1]:=aJ g6 rfl
   have q3:aj h6 h5.next 3 1=some [.int .i64 t.2.2.2]:=aJ g6 rfl
   have g36:h6.get h3.next=some (.cells [.int .i64 kind,b] 2 false):=by rw[x6.gt _ om]; exact k1
   have rb6:aj h6 h3.next 1 1=some [b]:=aJ g36 rfl
   obtain⟨b',h7,t1,t2,t3,t4⟩:=(k2.ext x6 (ae _)).push (bytes:=32) [.int .i64 t.1,.int .i64 t.2.1,.int .i64 t.2.2.1,.int .i64 t.2.2.2] om om rfl rfl (by rw[hlk,cM _ om]; unfold aQ; omega) (by rw[hlk,cM _ om]; unfold aQ; omega)
   have bc:=t2.cells
   have g37:h7.get h3.next=some (.cells [.int .i64 kind,b] 2 false):=by rw[t3.gt _ om]; exact g36
   have w7:bD h7 h3.next 1 [b']=some (h7.put h3.next (.cells [.int .i64 kind,b'] 2 false)):=dN (v:=b') g37 (show 1<2 by omega)
   have u7:=NW (o:=.cells [.int .i64 kind,b'] 2 false) g37
   refine ak (by simp only[am,aC,simprocAttr,e6,rb6,q0,q1,q2,q3,t1,bc.1,bc.2,w7]<;>rfl) ?_
   refine⟨b',⟨u7.get,?_,((k3.trans (x6.mono om)).trans (t3.mono om)).trans (u7.ext om),by rw[u7.nx]; omega⟩,H8 ei en e10 e3 e6 e20 e12 e11⟩
   rw[cI]
   exact t2.upd u7 om
  ·clear ei en e10 e3
   rintro b ts h5 ⟨k1,k2,k3,k4⟩ ⟨e10,e3,e6,e20,e12,e11,-⟩
   simp only at e10 e3 e6 e20 e12 e11
   rw[bO] at k2
   have r5:aj h5 h3.next 0 2=some [.int .i64 kind,b]:=by rw[aP k1]; rfl
   have bc:=k2.cells
   have hn5:=k3.nx
   have hl2:(rs.flatMap f2).length=i*2:=by rw[dZ (f:=f2) (e:=2) (λ_=>rfl),l1]
   have xn:Ext h5.next h5 (h5.new (.cells [.int .i64 kind,b] 2 false)):=NU (ae _)
   have gn:(h5.new (.cells [.int .i64 kind,b] 2 false)).get h5.next=some (.cells [.int .i64 kind,b] 2 false):=by rw[AH.get_new,if_pos rfl]
   have nn5:(h5.new (.cells [.int .i64 kind,b] 2 false)).next=h5.next+1:=rfl
   have l2':IsSl (h5.new (.cells [.int .i64 kind,b] 2 false)) 2 h.next a (rs.flatMap f2):=(l2.ext k3 (ae _)).ext xn (ae _)
   obtain⟨a',h7,t1,t2,t3,t4,t5,t6,_⟩:=l2'.app (bytes:=32) (x:=h5.next) om om gn om (λb' n e=>by have:=l2.lt e; omega) rfl (by simp only[gu,DC,AF,bc.2,iW]) (by rw[hl2,cM _ om]; unfold aQ; omega) (by rw[hl2,cM _ om]; unfold aQ; omega)
   refine ak (M4 e3 e6 r5 t1) ?_
   have hkeep:∀ c,c<h5.next→(∀ b' n',a=.sl b' 0 n' n'→c≠b')→h7.get c=h5.get c:=λc hc hne=>by rw[t6 c om hne,xn.gt _ hc]
   refine⟨a',⟨⟨rs++[(kind,b)],by simp [l1],?_,λj x p q1 q2=>?_⟩,?_⟩,H3 e12 e11 e10⟩
   ·rw[cI]
    exact t2
   ·by_cases hj:j<rs.length
    ·rw[bf hj] at q1
     obtain⟨z1,z2,z3⟩:=l3 j x p q1 q2
     have z2':IsSl h5 4 h.next x.2 (p.2.flatMap eT4):=z2.ext k3 (ae _)
     refine⟨z1,z2'.cong λb' n' e _=>hkeep b' (z2'.lt e) λb2 n2 e2=>z3 b' n' b2 n2 e e2,λb' n' b2 n2 e e2=>?_⟩
     have:=z2'.lt e
     rw[t4] at e2
     cases e2
     omega
    ·rw[aY om] at q1
     have hje:j-rs.length=0:=by
      rcases Nat.eq_zero_or_pos (j-rs.length) with q|q
      ·exact q
      ·rw[bu (by simp; omega)] at q1
       cases q1
     have:j=i:=om
     subst this
     rw[hje] at q1
     cases q1
     rw[hSi] at q2
     cases q2
     refine⟨rfl,(k2.cong λb' n' e hb=>hkeep b' (k2.lt e) λb2 n2 e2=>?_).mono om,λb' n' b2 n2 e e2=>?_⟩
     ·have:=l2.lt e2
      omega
     ·have:=k2.lt e
      rw[t4] at e2
      cases e2
      omega
   ·exact ((j2.trans (k3.mono hn2)).trans (xn.mono om)).trans t3
 ·rintro a ts h2 ⟨jl,j2⟩ ⟨e10,e3,-⟩
  simp only at e3
  have hac:a.cells=[a]:=by
   obtain⟨rs,_,l2,_⟩:=jl
   exact l2.cells.1
  refine ah (ak (M1 e3) ?_)
  exact aV ⟨a,(by simp only[rs,rf8,am,aC,simprocAttr,hac]<;>rfl),jl.skl,j2,hac⟩
open Go.Am
theorem jP {α:Type} (p:List Bool) (x:α):(T.nil:T α).set p x=(T.node .nil none .nil).set p x:=by
 cases p with
 | nil=>rfl
 | cons b p=>cases b<;>rfl
theorem set_same {α:Type} (x y:α):∀ (p:List Bool) (t:T α),(t.set p x).set p y=t.set p y:=by
 intro p
 induction p with
 | nil =>
   intro t
   cases t<;>rfl
 | cons b p ih =>
   intro t
   cases t with
   | nil =>
     rw[jP,jP (b::p) y]
     have i0:=ih .nil
     simp only[T.set] at i0
     cases b<;>simp only[T.set,i0]
   | node l v r=>cases b<;>simp only[T.set,ih]
theorem set_comm {α:Type} (x y:α):∀ (p q:List Bool) (t:T α),p≠q→(t.set p x).set q y=(t.set q y).set p x:=by
 intro p
 induction p with
 | nil =>
   intro q t h
   cases q with
   | nil=>exact absurd rfl h
   | cons b q =>
     cases t with
     | nil =>
       rw[jP,jP (b::q) y]
       cases b<;>rfl
     | node l v r=>cases b<;>rfl
 | cons a p ih =>
   intro q t h
   cases q with
   | nil =>
     cases t with
     | nil =>
       rw[jP,jP [] y]
       cases a<;>rfl
     | node l v r=>cases a<;>rfl
   | cons b q =>
     have key:∀ (l r:T α) (v:Option α),((T.node l v r).set (a::p) x).set (b::q) y=((T.node l v r).set (b::q) y).set (a::p) x:=by
      intro l r v
      cases a<;>cases b
      ·simp only[T.set]
       rw[ih q r (λe=>h (by rw[e]))]
      ·simp only[T.set]
      ·simp only[T.set]
      ·simp only[T.set]
       rw[ih q l (λe=>h (by rw[e]))]
     cases t with
     | nil =>
       rw[jP,jP (b::q) y]
       exact key _ _ _
     | node l v r=>exact key _ _ _
theorem AD {m n:Nat} (h:m≠n):eY m≠eY n:=λe=>h (fC.1 e)
theorem IT {h:AH}{m:Nat}{o a:AO} (hm:m≠h.next):(h.new a).put m o=(h.put m o).new a:=by
 unfold AH.put AH.new
 simp only
 rw[set_comm _ _ _ _ _ (AD (Ne.symm hm))]
theorem Je {h:AH}{o a:AO}:(h.new a).put h.next o=h.new o:=by
 unfold AH.put AH.new
 simp only
 rw[set_same]
theorem xM:∀ (k:Nat) (h:AH) (m:Nat) (o:AO),m<h.next→(h.keep k).put m o=(h.put m o).keep k
 | 0,_,_,_,_=>rfl
 | k+1,h,m,o,hm=>by
   show ((h.new .resv).keep k).put m o=((h.put m o).new .resv).keep k
   rw[xM k (h.new .resv) m o (by simp; omega),IT om]
theorem IR {h:AH}{m n:Nat}{a b:AO} (hmn:m≠n):(h.put m a).put n b=(h.put n b).put m a:=by
 unfold AH.put
 simp only
 rw[set_comm _ _ _ _ _ (AD hmn)]
def oT:List AO→Nat→List (Nat×AO×Option Nat)
 | [],_=>[]
 | o::r,n=>(n,o,none)::oT r (n+1)
theorem wF:∀ (os:List AO) (n:Nat),(oT os n).map (·.1)=List.range' n os.length
 | [],n=>rfl
 | o::r,n=>by rw[oT,aS,wF r,aR,List.range'_succ]
theorem xl:∀ (Z:List AO) (n:Nat) (h:AH) (m:Nat) (o:AO),m<n→gP (oT Z n) (h.put m o)=(gP (oT Z n) h).put m o
 | [],_,_,_,_,_=>rfl
 | a::r,n,h,m,o,hm=>by
   show ((gP (oT r (n+1)) (h.put m o))).put n a=(((gP (oT r (n+1)) h)).put n a).put m o
   rw[xl r (n+1) h m o om,IR om]
theorem uc:∀ (os:List AO) (h:AH),news os h=gP (oT os h.next) (h.keep os.length)
 | [],h=>rfl
 | o::r,h=>by
   show news r (h.new o)=(gP (oT r (h.next+1)) ((h.new .resv).keep r.length)).put h.next o
   rw[uc r (h.new o),← xl _ _ _ _ _ om,xM _ _ _ _ (by simp),Je]
   rfl
theorem Sl.stay {h h':AH}{e:Nat}{v:AV}{xs:List (List AV)} (hk:∀ b o,h.get b=some o→h'.get b=some o) (hs:Sl h e v xs):Sl h' e v xs:=by
 rcases hs with hs|⟨b,o,c,cs,ro,h1,h2,h3⟩
 ·exact .inl hs
 ·exact .inr ⟨b,o,c,cs,ro,h1,hk _ _ h2,h3⟩
theorem Fg {os:List AO}{h:AH}{a:AO}:(news os h).new a=news (os++[a]) h:=by
 induction os generalizing h with
 | nil=>rfl
 | cons o r ih=>exact ih
theorem Ff {os:List AO}{h:AH}{a b:AO}:((news os h).new a).new b=news (os++[a,b]) h:=by
 induction os generalizing h with
 | nil=>rfl
 | cons o r ih=>exact ih
end Go.Proofs.YthbmhbldmcbnpaaGreatDoor
