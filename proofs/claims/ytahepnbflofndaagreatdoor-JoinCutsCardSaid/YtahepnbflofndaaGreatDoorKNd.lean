/- block's search -/
import Derived.Test.YtahepnbflofndaaGreatDoorKNa
import Derived.Test.YtahepnbflofndaaGreatDoorKNc
import Derived.Test.YtahepnbflofndaaGreatDoorKLb
import Derived.Test.YtahepnbflofndaaGreatDoorKLa
import Derived.Test.YtahepnbflofndaaGreatDoorKLd
set_option linter.all false
namespace Go.Proofs.YtahepnbflofndaaGreatDoor
open Go.Am
open Go.Blk (Gr DS upd)
def nI (l:List Nat):List Int:=l.map λi=>((i:Nat):Int)
def nL (l:List Nat):List AV:=l.map λi=>.int .i64 (i:Nat)
theorem fE (l:List Nat):(nI l).length=l.length:=by simp [nI]
theorem Lm (l:List Nat):(nI l).flatMap eI=nL l:=by
 induction l with
 | nil=>rfl
 | cons a l ih=>simp only[nI,nL,cM,fo] at *; rw[ih]; rfl
theorem Gw (l m:List Nat):nL (l++m)=nL l++nL m:=by simp [nL]
def Sep (v w:AV):Prop:=∀ b o n c o' n' c',v=.sl b o n c→w≠.sl b o' n' c'
theorem Sep.nill {v:AV}:Sep .nils v:=λ_ _ _ _ _ _ _ e=>by cases e
def Stk (h:AH) (lo:Nat) (v:AV) (l:List Nat):Prop :=
 (v=.nils∧l=[])∨∃ b c cs,lo≤b∧v=.sl b 0 l.length c∧h.get b=some (.cells cs 1 false)∧cs.length=c∧l.length≤c∧cs.take l.length=nL l
theorem Stk.cong {h h':AH}{lo:Nat}{v:AV}{l:List Nat} (hs:Stk h lo v l) (hk:∀ c,lo≤c→(∃ o n k,v=.sl c o n k)→h'.get c=h.get c):Stk h' lo v l:=by
 rcases hs with hs|⟨b,c,cs,h1,h2,h3,h4⟩
 ·exact .inl hs
 ·exact .inr ⟨b,c,cs,h1,h2,by rw[hk b h1 ⟨_,_,_,h2⟩]; exact h3,h4⟩
theorem Stk.lt {h:AH}{lo:Nat}{v:AV}{l:List Nat} (hs:Stk h lo v l) {b o n c:Nat} (e:v=.sl b o n c):b<h.next∧lo≤b:=by
 rcases hs with ⟨rfl,_⟩|⟨b',c',cs,h1,rfl,h3,_⟩
 ·cases e
 ·cases e; exact⟨AH.lt_of_get h3,h1⟩
theorem Stk.cells {h:AH}{lo:Nat}{v:AV}{l:List Nat} (hs:Stk h lo v l):v.cells=[v]∧v.one=true:=by
 rcases hs with ⟨rfl,_⟩|⟨b',c',cs,h1,rfl,h3,_⟩<;>exact⟨rfl,rfl⟩
theorem Stk.sl {h:AH}{lo:Nat}{v:AV}{l:List Nat} (hs:Stk h lo v l):SlI h v (nI l):=by
 rcases hs with ⟨rfl,rfl⟩|⟨b,c,cs,h1,rfl,h3,h4,h5,h6⟩
 ·exact .inl ⟨rfl,.inl rfl⟩
 ·refine .inr ⟨b,0,c,cs,false,by rw[ai,fE],h3,by rw[ai,fE]; exact h5,by rw[ai,fE]; omega,λi x hi=>?_⟩;rw[aX] at hi;obtain⟨y,hy,rfl⟩:=aF.1 hi;have hil:i<l.length:=by have:=(aI.1 hy).1; rwa [fE] at this
  have e1:(cs.take l.length)[i]?=some (.int .i64 y):=by
   rw[h6];unfold nL;unfold nI at hy;rw[aX] at hy ⊢;obtain⟨z,hz,rfl⟩:=aF.1 hy;rw[hz];rfl
  rw[cQ,if_pos hil] at e1;obtain⟨h7,h8⟩:=aI.1 e1;refine⟨om,?_⟩;rw[bM,aO,bX h7,h8];rfl
theorem Stk.push {h:AH}{lo:Nat}{v:AV}{l:List Nat} (hs:Stk h lo v l) (i:Nat) (hlo:lo≤h.next) (hl:l.length<2 ^ 34) :
 ∃ v' h',gp (h.new (.cells [.int .i64 (i:Nat)] 1 false)) 1 8 v (.sl h.next 0 1 1)=some (v',h')∧Stk h' lo v' (l++[i])∧h.next≤h'.next∧(∀ c,c<h.next→(∀ o n k,v≠.sl c o n k)→h'.get c=h.get c)∧(∀ c,h'.tyOf c=h.tyOf c) ∧
   ∀ w,(∀ b o n c,w=.sl b o n c→b<h.next)→Sep w v→Sep w v':=by
 have hx:(h.new (.cells [.int .i64 (i:Nat)] 1 false)).get h.next=some (.cells [.int .i64 (i:Nat)] 1 false):=by rw[AH.get_new,if_pos rfl]
 have hg:∀ c,c<h.next→(h.new (.cells [.int .i64 (i:Nat)] 1 false)).get c=h.get c:=λc hc=>by rw[AH.get_new,if_neg om]
 have hn:(h.new (.cells [.int .i64 (i:Nat)] 1 false)).next=h.next+1:=rfl;have ht:∀ c,(h.new (.cells [.int .i64 (i:Nat)] 1 false)).tyOf c=h.tyOf c:=λ_=>rfl;generalize h.new (.cells [.int .i64 (i:Nat)] 1 false)=h1 at *
 have hr:ak h1 h.next 0 (1*1)=some [.int .i64 (i:Nat)]:=by rw[aU hx]; rfl
 have ho:([.int .i64 (i:Nat)]:List AV).all AV.one=true:=rfl;rcases hs with ⟨rfl,rfl⟩|⟨b,c,cs,k1,rfl,k3,k4,k5,k6⟩
 ·refine⟨.sl h1.next 0 1 1,h1.new (.cells [.int .i64 (i:Nat)] 1 false),?_,.inr ⟨h1.next,1,_,om,rfl,by rw[AH.get_new,if_pos rfl],rfl,ab _,rfl⟩,by rw[AH.next_new]; omega,λc hc _=>by rw[AH.get_new,if_neg om,hg c hc],λc=>ht c,λw hw _ b o n c o' n' c' e1 e2=>?_⟩
  ·simp only[gp,ff,hr,aQ,ho,if_true,kb,if_false];rw[if_pos ⟨by unfold aW; omega,by unfold aW; omega⟩]
  ·have:=hw b o n c e1;cases e2;omega
 ·have hb:=AH.lt_of_get k3;have k3':h1.get b=some (.cells cs 1 false):=by rw[hg b hb]; exact k3
  by_cases hc:l.length+1≤c
  ·have hw:=eA (v:=.int .i64 (i:Nat)) k3' (i:=l.length) om;have u:=Mv (o:=.cells (cs.set l.length (.int .i64 (i:Nat))) 1 false) k3';refine⟨.sl b 0 (l.length+1) c,h1.put b (.cells (cs.set l.length (.int .i64 (i:Nat))) 1 false),?_,.inr ⟨b,c,_,k1,by rw[aN]; rfl,u.get,by rw[ct]; exact k4,by rw[aN]; exact hc,?_⟩,by rw[u.nx]; omega,λc' hc' hne=>?_,λc'=>(u.ty c').trans (ht c'),λw _ hs b1 o n c1 o' n' c' e1 e2=>?_⟩
   ·simp only[gp,ff,hr,aQ,ho,if_true,kb,if_false,if_pos hc,bM,aO,hw]
   ·rw[aN,bf,bt,Gw,← k6];refine cW λj=>?_;rw[cQ,dv,List.getElem?_append,aS,cy om,cQ];by_cases q:j<l.length
    ·rw[if_pos om,if_neg om,if_pos q,if_pos q]
    ·by_cases q2:j=l.length
     ·subst q2;rw[if_pos om,if_pos rfl,if_pos om,if_neg om,eV];rfl
     ·rw[if_neg om,if_neg q,bG (by simp [nL]; omega)]
   ·rw[u.ne (λe=>hne 0 l.length c (by rw[e])),hg _ hc']
   ·cases e2;exact hs b o n c1 _ _ _ e1 rfl
  ·have hcl:c=l.length:=om;have hcs:cs=nL l:=by rw[← k6,da om]
   have hr2:ak h1 b 0 (l.length*1)=some cs:=by
    rw[aU k3',if_pos om,de,da om]
   refine⟨.sl h1.next 0 (l.length+1) (l.length+1),(h1.put b .dead).new (.cells (cs++[.int .i64 (i:Nat)]) 1 false),?_,.inr ⟨h1.next,l.length+1,_,om,by rw[aN]; rfl,by rw[AH.get_new,AH.next_put,if_pos rfl],by rw[aN,k4,hcl]; rfl,by rw[aN]; exact ab _,?_⟩,by rw[AH.next_new,AH.next_put]; omega,λc' hc' hne=>?_,λc'=>ht c',λw hw _ b1 o n c1 o' n' c' e1 e2=>?_⟩
   ·simp only[gp,ff,hr,aQ,ho,if_true,kb,if_false];rw[if_neg hc,if_pos ⟨by unfold aW; omega,by unfold aW; omega⟩,k3',hr2];simp only[if_true]
   ·rw[Gw,← hcs,da (by rw[aN,aN,k4,hcl]; exact ab _)];rfl
   ·rw[AH.get_new,AH.next_put,if_neg om,AH.get_put _ _ _ _ om,if_neg (λe=>hne 0 l.length c (by rw[e])),hg _ hc']
   ·have:=hw b1 o n c1 e1;cases e2;omega
theorem Stk.cut {h:AH}{lo:Nat}{v:AV}{l:List Nat} (hs:Stk h lo v l) {k:Nat} (hk:k≤l.length) :
 ∃ v',slV h 1 v none (some (.int .i64 (k:Nat))) none=some v'∧Stk h lo v' (l.take k)∧(∀ w,Sep w v→Sep w v')∧∀ c,(∃ o n k,v'=.sl c o n k)→∃ o n k,v=.sl c o n k:=by
 rcases hs with ⟨rfl,rfl⟩|⟨b,c,cs,k1,rfl,k3,k4,k5,k6⟩
 ·have:k=0:=by simpa using hk
  subst this;exact⟨.nils,rfl,.inl ⟨rfl,rfl⟩,λ_ q=>q,λ_ q=>q⟩
 ·have hb:=hU (k:=.i64) (show k≤c by omega);refine⟨.sl b 0 k c,?_,.inr ⟨b,c,cs,k1,by rw[aS,cy hk],k3,k4,by rw[aS]; omega,?_⟩,λw hs b1 o n c1 o' n' c' e1 e2=>?_,λc' ⟨o,n,k',e⟩=>?_⟩
  ·simp only[slV,k3,if_true,rq,hb,aQ,oO,dX,Fb,ite_self]
  ·rw[aS,cy hk];have:cs.take k=(cs.take l.length).take k:=by rw[List.take_take,cy hk]
   rw[this,k6];unfold nL;rw[fS]
  ·cases e2;exact hs b o n c1 _ _ _ e1 rfl
  ·cases e;exact⟨_,_,_,rfl⟩
def dA (E:List (Int×Int)) (x:Nat):List Nat:=(List.range E.length).filter λi=>decide (tlE E i=x)||decide (hdE E i=x)
theorem zQ {n:Nat}{E:List (Int×Int)} (hE:InG n E) (hl:∀ i,i<E.length→tlE E i≠hdE E i):∀ x,x<(grE n E hE hl).n→(dA E x).Nodup∧∀ i,i∈dA E x↔(grE n E hE hl).inc i x:=λx _=>by
 refine⟨List.nodup_range.filter _,λi=>?_⟩;unfold dA;rw[bj,bF,cZ,aJ,aJ];rfl
def SS (sp nb lb:Nat) (c:Nat):Prop:=c=sp∨c=nb∨c=lb
structure Sta (h0:AH) (sp eb nb lb n:Nat) (ev:AV) (E:List (Int×Int)):Prop where
 he:SlE h0 ev E
 oe:Off (SS sp nb lb) ev
 ge:∃ es,h0.get eb=some (.cells es 1 false)∧es.length=n∧∀ (x:Nat) (v:AV),es[x]?=some v→SlI h0 v (nI (dA E x))∧Off (SS sp nb lb) v
 ne:eb≠sp∧eb≠nb∧eb≠lb∧nb≠sp∧nb≠lb∧lb≠sp
 lt:sp<h0.next∧nb<h0.next∧lb<h0.next
structure Ser (h0 h:AH) (sp eb nb lb n:Nat) (ev:AV) (s:DS) (stv blv:AV) (bs:List AV):Prop where
 kp:Kp (SS sp nb lb) h0 h
 cell:h.get sp=some (.cells [.int .i64 (n:Nat),ev,.sl eb 0 n n,.sl nb 0 n n,.sl lb 0 n n,.int .i64 (s.cnt:Nat),stv,blv] 8 false)
 gn:h.get nb=some (.cells (il n λv=>((s.num v:Nat):Int)) 1 false)
 gl:h.get lb=some (.cells (il n λv=>((s.low v:Nat):Int)) 1 false)
 st:Stk h h0.next stv s.stk
 bl:IsSl h 1 h0.next blv bs
 rl:bs.length=s.blk.length
 rw:∀ (j:Nat) (v:AV) (l:List Nat),bs[j]?=some v→s.blk[j]?=some l→IsSl h 1 h0.next v (nL l)∧Sep v stv∧Sep v blv
 sb:Sep blv stv
section
variable {h0 h:AH}{sp eb nb lb n:Nat}{ev:AV}{E:List (Int×Int)}{s:DS}{stv blv:AV}{bs:List AV}
theorem Sta.edges (t:Sta h0 sp eb nb lb n ev E) (kp:Kp (SS sp nb lb) h0 h):SlE h ev E:=t.he.kp kp t.oe
theorem Sta.row (t:Sta h0 sp eb nb lb n ev E) (kp:Kp (SS sp nb lb) h0 h) {x:Nat} (hx:x<n):∃ v,ak h eb x 1=some [v]∧SlI h v (nI (dA E x))∧Off (SS sp nb lb) v∧SlI h0 v (nI (dA E x)):=by
 obtain⟨es,g,l,r⟩:=t.ge;obtain⟨n1,n2,n3,_⟩:=t.ne;have hv:es[x]?=some es[x]:=aq om;obtain⟨r1,r2⟩:=r x _ hv;have g':h.get eb=some (.cells es 1 false):=by
  rw[kp.gt eb (AH.lt_of_get g) (by rintro (e|e|e); exact n1 e; exact n2 e; exact n3 e)]; exact g
 exact⟨_,bm g' hv,r1.kp kp r2,r2,r1⟩
theorem Ser.wr (r:Ser h0 h sp eb nb lb n ev s stv blv bs) {h':AH}{c:Nat}{o:AO} (u:Upd h h' c o) (hc:SS sp nb lb c) (hl:c<h0.next):Kp (SS sp nb lb) h0 h'∧Stk h' h0.next stv s.stk∧IsSl h' 1 h0.next blv bs ∧
 ∀ (j:Nat) (v:AV) (l:List Nat),bs[j]?=some v→s.blk[j]?=some l→IsSl h' 1 h0.next v (nL l)∧Sep v stv∧Sep v blv :=
 ⟨r.kp.trans (u.kp hc) λ_ _ q=>q,r.st.cong λc' hc' _=>u.ne om,r.bl.upd u om,λj v l a b=>⟨(r.rw j v l a b).1.upd u om,(r.rw j v l a b).2⟩⟩
theorem Ser.setCnt (t:Sta h0 sp eb nb lb n ev E) (r:Ser h0 h sp eb nb lb n ev s stv blv bs) (k:Nat):∃ h',bQ h sp 5 [.int .i64 (k:Nat)]=some h'∧Ser h0 h' sp eb nb lb n ev { s with cnt:=k} stv blv bs:=by
 obtain⟨n1,n2,n3,n4,n5,n6⟩:=t.ne;have w:=eA (v:=.int .i64 (k:Nat)) r.cell (i:=5) (by simp);change bQ h sp 5 [.int .i64 (k:Nat)]=some (h.put sp (.cells [.int .i64 (n:Nat),ev,.sl eb 0 n n,.sl nb 0 n n,.sl lb 0 n n,.int .i64 (k:Nat),stv,blv] 8 false)) at w;have u:=Mv (o:=.cells [.int .i64 (n:Nat),ev,.sl eb 0 n n,.sl nb 0 n n,.sl lb 0 n n,.int .i64 (k:Nat),stv,blv] 8 false) r.cell;obtain⟨a1,a2,a3,a4⟩:=r.wr u (.inl rfl) t.lt.1;exact⟨_,w,{ kp:=a1,cell:=u.get,gn:=by rw[u.ne n4]; exact r.gn,gl:=by rw[u.ne n6]; exact r.gl,st:=a2,bl:=a3,rl:=r.rl,rw:=a4,sb:=r.sb}⟩
theorem Hg {f:Nat→Nat}{x k:Nat}:(il n λv=>((f v:Nat):Int)).set x (.int .i64 (k:Nat))=il n λv=>((upd f x k v:Nat):Int):=by
 rw[lK];refine kM λi _=>?_;by_cases e:i=x
 ·subst e; rw[if_pos rfl,Go.Blk.upd_same]
 ·rw[if_neg e,Go.Blk.upd_ne e]
theorem Ser.setNum (t:Sta h0 sp eb nb lb n ev E) (r:Ser h0 h sp eb nb lb n ev s stv blv bs) {x:Nat} (hx:x<n) (k:Nat):∃ h',bQ h nb x [.int .i64 (k:Nat)]=some h'∧Ser h0 h' sp eb nb lb n ev { s with num:=upd s.num x k} stv blv bs:=by
 obtain⟨n1,n2,n3,n4,n5,n6⟩:=t.ne;have w:=eA (v:=.int .i64 (k:Nat)) r.gn (i:=x) (by rw[iR]; exact hx);rw[Hg] at w;have u:=Mv (o:=.cells (il n λv=>((upd s.num x k v:Nat):Int)) 1 false) r.gn;obtain⟨a1,a2,a3,a4⟩:=r.wr u (.inr (.inl rfl)) t.lt.2.1;exact⟨_,w,{ kp:=a1,cell:=by rw[u.ne (Ne.symm n4)]; exact r.cell,gn:=u.get,gl:=by rw[u.ne (Ne.symm n5)]; exact r.gl,st:=a2,bl:=a3,rl:=r.rl,rw:=a4,sb:=r.sb}⟩
theorem Ser.setLow (t:Sta h0 sp eb nb lb n ev E) (r:Ser h0 h sp eb nb lb n ev s stv blv bs) {x:Nat} (hx:x<n) (k:Nat):∃ h',bQ h lb x [.int .i64 (k:Nat)]=some h'∧Ser h0 h' sp eb nb lb n ev { s with low:=upd s.low x k} stv blv bs:=by
 obtain⟨n1,n2,n3,n4,n5,n6⟩:=t.ne;have w:=eA (v:=.int .i64 (k:Nat)) r.gl (i:=x) (by rw[iR]; exact hx);rw[Hg] at w;have u:=Mv (o:=.cells (il n λv=>((upd s.low x k v:Nat):Int)) 1 false) r.gl;obtain⟨a1,a2,a3,a4⟩:=r.wr u (.inr (.inr rfl)) t.lt.2.2;exact⟨_,w,{ kp:=a1,cell:=by rw[u.ne (Ne.symm n6)]; exact r.cell,gn:=by rw[u.ne n5]; exact r.gn,gl:=u.get,st:=a2,bl:=a3,rl:=r.rl,rw:=a4,sb:=r.sb}⟩
theorem Ser.setStk (t:Sta h0 sp eb nb lb n ev E) (r:Ser h0 h sp eb nb lb n ev s stv blv bs) {h1:AH}{v':AV}{l:List Nat} (hn:h.next≤h1.next) (hk:∀ c,c<h.next→(∀ o n k,stv≠.sl c o n k)→h1.get c=h.get c) (ht:∀ c,h1.tyOf c=h.tyOf c) (hs:Stk h1 h0.next v' l)
 (hsep:∀ w,(∀ b o n c,w=.sl b o n c→b<h.next)→Sep w stv→Sep w v'):∃ h2,bQ h1 sp 6 [v']=some h2∧Ser h0 h2 sp eb nb lb n ev { s with stk:=l} v' blv bs:=by
 obtain⟨n1,n2,n3,n4,n5,n6⟩:=t.ne;obtain⟨l1,l2,l3⟩:=t.lt;have hnx:=r.kp.nx;have low:∀ c,c<h0.next→h1.get c=h.get c:=λc hc=>hk c om λo n k e=>by have:=(r.st.lt e).2; omega
 have c1:h1.get sp=some (.cells [.int .i64 (n:Nat),ev,.sl eb 0 n n,.sl nb 0 n n,.sl lb 0 n n,.int .i64 (s.cnt:Nat),stv,blv] 8 false):=by rw[low sp l1]; exact r.cell
 have w:=eA (v:=v') c1 (i:=6) (by simp);change bQ h1 sp 6 [v']=some (h1.put sp (.cells [.int .i64 (n:Nat),ev,.sl eb 0 n n,.sl nb 0 n n,.sl lb 0 n n,.int .i64 (s.cnt:Nat),v',blv] 8 false)) at w;have u:=Mv (o:=.cells [.int .i64 (n:Nat),ev,.sl eb 0 n n,.sl nb 0 n n,.sl lb 0 n n,.int .i64 (s.cnt:Nat),v',blv] 8 false) c1;have kp1:Kp (SS sp nb lb) h0 h1:=⟨om,λc hc hn'=>by rw[low c hc]; exact r.kp.gt c hc hn',λc hc=>(ht c).trans (r.kp.ty c hc)⟩
 have keep:∀ {w cs},IsSl h 1 h0.next w cs→Sep w stv→IsSl h1 1 h0.next w cs:=fun {w cs} q hsw=>q.cong λb m e hb=>hk b (q.lt e) λo n' k e2=>hsw b 0 m m o n' k e e2;refine⟨_,w,{ kp:=kp1.trans (u.kp (.inl rfl)) λ_ _ q=>q,cell:=u.get,gn:=by rw[u.ne n4,low nb l2]; exact r.gn,gl:=by rw[u.ne n6,low lb l3]; exact r.gl,st:=hs.cong λc hc _=>u.ne om,bl:=(keep r.bl r.sb).upd u om,rl:=r.rl,rw:=λj v q a b=>?_,sb:=hsep _ (λb o n' c e=>r.bl.lt e) r.sb}⟩;obtain⟨a1,a2,a3⟩:=r.rw j v q a b;exact⟨(keep a1 a2).upd u om,hsep _ (λb o n' c e=>a1.lt e) a2,a3⟩
theorem Ser.push (t:Sta h0 sp eb nb lb n ev E) (r:Ser h0 h sp eb nb lb n ev s stv blv bs) (i:Nat) (hl:s.stk.length<2 ^ 34) :
 ∃ v' h1 h2,gp (h.new (.cells [.int .i64 (i:Nat)] 1 false)) 1 8 stv (.sl h.next 0 1 1)=some (v',h1)∧v'.cells=[v']∧v'.one=true∧bQ h1 sp 6 [v']=some h2∧Ser h0 h2 sp eb nb lb n ev { s with stk:=s.stk++[i]} v' blv bs:=by
 obtain⟨v',h1,a1,a2,a3,a4,a5,a6⟩:=r.st.push i r.kp.nx hl;obtain⟨h2,b1,b2⟩:=r.setStk t a3 a4 a5 a2 a6;exact⟨v',h1,h2,a1,a2.cells.1,a2.cells.2,b1,b2⟩
end
open Go.Am
open Go.Blk (Gr DS upd)
def md (E:List (Int×Int)) (k x:Nat):List Nat:=(List.range k).filter λi=>decide (tlE E i=x)||decide (hdE E i=x)
theorem Bq {E:List (Int×Int)}{k x:Nat}:md E (k+1) x=md E k x++if tlE E k=x∨hdE E k=x then [k] else []:=by
 unfold md;rw[du,bI];congr 1;by_cases q:tlE E k=x∨hdE E k=x
 ·rw[if_pos q,eZ (by simpa using q)]; rfl
 ·rw[if_neg q,fc (by simpa using q)]; rfl
theorem wg {E:List (Int×Int)}{k x:Nat}:(md E k x).length≤k:=by
 unfold md;have:=dj (λi=>decide (tlE E i=x)||decide (hdE E i=x)) (List.range k);rwa [cL] at this
theorem LW (l m:List Nat):nI (l++m)=nI l++nI m:=by simp [nI]
def ll (n:Nat) (E:List (Int×Int)) (k:Nat):List (List Int):=(List.range n).map λx=>nI (md E k x)
theorem lR {n k x:Nat}{E:List (Int×Int)} (hx:x<n):(ll n E k)[x]?=some (nI (md E k x)):=by
 unfold ll;rw[aX,dn hx];rfl
theorem DA {n k:Nat}{E:List (Int×Int)} (ha:tlE E k<n) (hb:hdE E k<n) (hab:tlE E k≠hdE E k) :
 ((ll n E k).set (tlE E k) (nI (md E k (tlE E k))++[((k:Nat):Int)])).set (hdE E k) (nI (md E k (hdE E k))++[((k:Nat):Int)])=ll n E (k+1):=by
 refine cW λj=>?_;have hl:(ll n E k).length=n:=by simp [ll]
 have hl2:(ll n E (k+1)).length=n:=by simp [ll]
 rw[dv,dv,ct,hl];by_cases hj:j<n
 ·rw[lR hj,lR hj,Bq,LW];by_cases e1:hdE E k=j
  ·rw[if_pos e1,if_pos hb,if_pos (.inr e1),e1]; rfl
  ·rw[if_neg e1];by_cases e2:tlE E k=j
   ·rw[if_pos e2,if_pos ha,if_pos (.inl e2),e2]; rfl
   ·rw[if_neg e2,if_neg (by rintro (q|q); exact e2 q; exact e1 q)]; simp [nI]
 ·rw[if_neg om,if_neg om,bG (by rw[hl]; omega),bG (by rw[hl2]; omega)]
theorem DB (h:AH) (n:Nat) (E:List (Int×Int)):Rw h h.next (cm [.nils] n) (ll n E 0):=by
 rw[fq];refine⟨by simp [ll],λi v xs h1 h2=>?_,λi j b n' b' n'' _ h1=>?_⟩
 ·rw[cA] at h1;split at h1
  ·rename_i hi
   rw[lR hi] at h2;simp only[aa] at h1 h2;subst h1 h2;exact .inl ⟨rfl,by simp [md,nI]⟩
  ·cases h1
 ·rw[cA] at h1;split at h1<;>cases h1
theorem EU {h0 h:AH}{sp eb nb lb n:Nat}{ev:AV}{E:List (Int×Int)}{s:DS}{stv blv:AV}{bs:List AV} (t:Sta h0 sp eb nb lb n ev E) (r:Ser h0 h sp eb nb lb n ev s stv blv bs) (hE:InG n E) (hL:∀ i,i<E.length→tlE E i≠hdE E i) (hn:n<2 ^ 40) {i x:Nat} (hi:(grE n E hE hL).inc i x) :
 C prg 142 [.ptr sp 0,.int .i64 (i:Nat),.int .i64 (x:Nat)] h λv h'=>v=.int .i64 ((grE n E hE hL).oth i x:Nat)∧Ext h.next h h':=by
 refine Mw pf142 ?_;obtain⟨h1,h2⟩:=id hi;have him:i<E.length:=h1;have hx2:tlE E i=x∨hdE E i=x:=h2;have hLi:=hL i him;obtain⟨q1,q2,q3⟩:=hE i him;have he:=t.edges r.kp;obtain⟨b,p,a,rr,_,_⟩:=he.at (cq (f:=eE) him);rw[q1] at rr;have rse:ak h sp 1 1=some [ev]:=bm r.cell rfl;have ho:((tlE E i:Nat):Int)+((hdE E i:Nat):Int)-((x:Nat):Int)=(((grE n E hE hL).oth i x:Nat):Int):=by
  show _=((tlE E i+hdE E i-x:Nat):Int)
  omega
 have hol:(grE n E hE hL).oth i x<n:=by
  show tlE E i+hdE E i-x<n;omega
 have w1:IntKind.i64.wrap (((tlE E i:Nat):Int)+((hdE E i:Nat):Int))=((tlE E i:Nat):Int)+((hdE E i:Nat):Int):=fD om om;have w2:IntKind.i64.wrap (((tlE E i:Nat):Int)+((hdE E i:Nat):Int)-((x:Nat):Int))=(((grE n E hE hL).oth i x:Nat):Int):=by rw[ho]; exact fD om om
 obtain⟨h3,w3,x3,g3,n3⟩:=im (h:=h) (z:=[.int .i64 0,.int .i64 0]) (cs:=[.int .i64 (tlE E i:Nat),.int .i64 (hdE E i:Nat)]) (e:=2) rfl;clear hi;generalize (grE n E hE hL).oth i x=y at *
 refine ae (aj (Mi0) ?_);refine ae (aj (by simp only[am,aK,simprocAttr,bS,rse,a,rr,eE,w3]<;>rfl) ?_);have ra:ak h3 h.next 0 1=some [.int .i64 (tlE E i:Nat)]:=bm g3 rfl;have rb:ak h3 h.next 1 1=some [.int .i64 (hdE E i:Nat)]:=bm g3 rfl;refine ae (yf (λts h'=>h'=h3∧cU ts 6=.int .i64 (y:Nat)) (by simp only[am,aK,simprocAttr,bS,ra,rb,w1,w2]) ?_);rintro ts h4 ⟨rfl,e6⟩;exact br ⟨.int .i64 (y:Nat),(by simp only[rs,rf142,am,aK,simprocAttr,e6]<;>rfl),rfl,x3⟩
set_option maxHeartbeats 1000000 in
theorem EY {h:AH}{n:Nat}{ev:AV}{E:List (Int×Int)} (he:SlE h ev E) (hE:InG n E) (hL:∀ i,i<E.length→tlE E i≠hdE E i) (hxl:E.length<2 ^ 30) (hnl:n<2 ^ 30) :
 C prg 95 [.agg (gW n ev)] h λr h'=>∃ sp eb nb lb,r=.ptr sp 0∧Ext h.next h h'∧(h.next≤sp∧h.next≤nb∧h.next≤lb)∧Sta h' sp eb nb lb n ev E∧Ser h' h' sp eb nb lb n ev Go.Blk.start .nils .nils []:=by
 obtain⟨ec,eo⟩:=he.cells;have hlen:=he.len;rw[ai] at hlen;unfold gW;refine Mw pf95 ?_;refine ae (aj (Mi0) ?_);have x0:Ext h.next h (h.new (.cells [.int .i64 (n:Nat),ev] 2 false)):=Mt (ab _);have g0:(h.new (.cells [.int .i64 (n:Nat),ev] 2 false)).get h.next=some (.cells [.int .i64 (n:Nat),ev] 2 false):=by rw[AH.get_new,if_pos rfl]
 have n0:(h.new (.cells [.int .i64 (n:Nat),ev] 2 false)).next=h.next+1:=rfl;generalize h.new (.cells [.int .i64 (n:Nat),ev] 2 false)=h1 at *
 have kn:(h1.keep 4).next=h1.next+4:=AH.keep_next 4 h1;have kg:∀ c,(h1.keep 4).get c=if h1.next≤c∧c<h1.next+4 then some .resv else h1.get c:=λc=>AH.keep_get 4 h1
 have k1:(h1.keep 4).get h.next=some (.cells [.int .i64 (n:Nat),ev] 2 false):=by rw[kg,if_neg om]; exact g0
 have ra:ak (h1.keep 4) h.next 0 2=some [.int .i64 (n:Nat),ev]:=by rw[aU k1]; rfl
 have rb:ak (h1.keep 4) h.next 0 1=some [.int .i64 (n:Nat)]:=by rw[aU k1]; rfl
 have mva:=tC (z:=[.nils]) (bytes:=24) (n:=n) (by unfold aW; omega) (by unfold aW; omega);have mvb:=tC (z:=[.int .i64 0]) (bytes:=8) (n:=n) (by unfold aW; omega) (by unfold aW; omega);have q0:(h1.keep 4).get h1.next=some .resv:=by rw[kg,if_pos ⟨om,om⟩]
 obtain⟨m1,hm1⟩:∃ m,m=(h1.keep 4).put h1.next (.cells (cm [.nils] n) 1 false):=⟨_,rfl⟩
 have v1:Upd (h1.keep 4) m1 h1.next (.cells (cm [.nils] n) 1 false):=by rw[hm1]; exact Mv q0
 have q1:m1.get (h1.next+1)=some .resv:=by rw[v1.ne om,kg,if_pos ⟨om,om⟩]
 obtain⟨m2,hm2⟩:∃ m,m=m1.put (h1.next+1) (.cells (cm [.int .i64 0] n) 1 false):=⟨_,rfl⟩
 have v2:Upd m1 m2 (h1.next+1) (.cells (cm [.int .i64 0] n) 1 false):=by rw[hm2]; exact Mv q1
 have q2:m2.get (h1.next+2)=some .resv:=by rw[v2.ne om,v1.ne om,kg,if_pos ⟨om,om⟩]
 obtain⟨m3,hm3⟩:∃ m,m=m2.put (h1.next+2) (.cells (cm [.int .i64 0] n) 1 false):=⟨_,rfl⟩
 have v3:Upd m2 m3 (h1.next+2) (.cells (cm [.int .i64 0] n) 1 false):=by rw[hm3]; exact Mv q2
 have q3:m3.get (h1.next+3)=some .resv:=by rw[v3.ne om,v2.ne om,v1.ne om,kg,if_pos ⟨om,om⟩]
 obtain⟨m4,hm4⟩:∃ m,m=m3.put (h1.next+3) (.cells [.int .i64 (n:Nat),ev,.sl h1.next 0 n n,.sl (h1.next+1) 0 n n,.sl (h1.next+2) 0 n n,.int .i64 0,.nils,.nils] 8 false):=⟨_,rfl⟩
 have v4:Upd m3 m4 (h1.next+3) (.cells [.int .i64 (n:Nat),ev,.sl h1.next 0 n n,.sl (h1.next+1) 0 n n,.sl (h1.next+2) 0 n n,.int .i64 0,.nils,.nils] 8 false):=by rw[hm4]; exact Mv q3
 have bx:=Ah (k:=8) (cs:=[.int .i64 (n:Nat),ev,.sl h1.next 0 n n,.sl (h1.next+1) 0 n n,.sl (h1.next+2) 0 n n,.int .i64 0,.nils,.nils]) rfl
 refine ae (CS (λts h2=>h2=m4∧cU ts 1=.ptr h.next 0∧cU ts 3=.ptr (h1.next+3) 0)
  (by simp only[am,aK,simprocAttr,bS,ra,rb,eN,ma q0,← hm1,ma q1,← hm2,ma q2,← hm3,vY q3,mva,mvb,bx,ec,eo,dP,← hm4]) ?_)
 rintro ts h2 ⟨hh2,t1,t3⟩;subst hh2;clear hm1 hm2 hm3 hm4;have n2:h2.next=h1.next+4:=by rw[v4.nx,v3.nx,v2.nx,v1.nx,kn]
 have gk:∀ c,c<h1.next→h2.get c=h1.get c:=λc hc=>by rw[v4.ne om,v3.ne om,v2.ne om,v1.ne om,kg,if_neg om]
 have x2:Ext h1.next h1 h2:=⟨om,gk,λc hc=>by rw[v4.ty,v3.ty,v2.ty,v1.ty]; exact Mr 4 h1⟩
 have gE:h2.get h1.next=some (.cells (cm [.nils] n) 1 false):=by rw[v4.ne om,v3.ne om,v2.ne om]; exact v1.get
 have gN:h2.get (h1.next+1)=some (.cells (il n λ_=>0) 1 false):=by rw[v4.ne om,v3.ne om,v2.get,xq]
 have gL:h2.get (h1.next+2)=some (.cells (il n λ_=>0) 1 false):=by rw[v4.ne om,v3.get,xq]
 have gS:=v4.get;have g1:h2.get h.next=some (.cells [.int .i64 (n:Nat),ev] 2 false):=by rw[gk _ om]; exact g0
 clear v1 v2 v3 v4 q0 q1 q2 q3 kg kn k1 ra rb bx mva mvb;have X2:Ext h.next h h2:=x0.trans (x2.mono om);have rE:ak h2 h.next 1 1=some [ev]:=bm g1 rfl;have rl:(cm [AV.nils] n).length=n:=by rw[fq,cF]
 refine ae (ae (aj (M4 t1 t3 rE hlen) ?_))
 refine fA (α:=List AV) (N:=E.length) (λ_ _=>[(3,.ptr (h1.next+3) 0),(19,ev)])
  (λk a h'=>h'.get (h1.next+3)=some (.cells [.int .i64 (n:Nat),ev,.sl h1.next 0 n n,.sl (h1.next+1) 0 n n,.sl (h1.next+2) 0 n n,.int .i64 0,.nils,.nils] 8 false)∧h'.get h1.next=some (.cells a 1 false)∧h'.get (h1.next+1)=some (.cells (il n λ_=>0) 1 false)∧h'.get (h1.next+2)=some (.cells (il n λ_=>0) 1 false)∧a.length=n∧Rw h' h2.next a (ll n E k)∧Ext h1.next h1 h'∧h2.next≤h'.next)
  (cm [.nils] n) (λ_ _=>rfl) om (H1 t3) ⟨gS,gE,gN,gL,rl,DB h2 n E,x2,ab _⟩ ?_ ?_
 ·clear gS gE gN gL;rintro k es ts h5 hk ⟨j1,j2,j3,j4,j5,j6,j7,j8⟩ ⟨ei,en,e3,e19,-⟩;simp only at ei en e3 e19 j2 j5 j6;obtain⟨q1,q2,q3⟩:=hE k hk;have hLk:=hL k hk;have X5:Ext h.next h h5:=x0.trans (j7.mono om);obtain⟨b1,p1,a1,r1,_⟩:=(he.ext X5 (ab _)).at (cq (f:=eE) hk);rw[q1] at r1;generalize ha:tlE E k=a at *
  generalize hb:hdE E k=b at *
  obtain⟨h6,w6,x6,g6,n6⟩:=im (h:=h5) (z:=[.int .i64 0,.int .i64 0]) (cs:=[.int .i64 (a:Nat),.int .i64 (b:Nat)]) (e:=2) rfl;refine ae (aj (by simp only[am,aK,simprocAttr,e3,e19,ei,a1,r1,eE,w6]<;>rfl) ?_);obtain⟨x7,p7,n7,y7⟩:=gr (h:=h6) (o:=.cells [.int .i64 (k:Nat)] 1 false);have kg:∀ c,c<h6.next→(h6.keep 1).get c=h6.get c:=λc hc=>by rw[AH.keep_get,if_neg om]
  have q7:(h6.keep 1).get h6.next=some .resv:=fG;have j1':h6.get (h1.next+3)=some (.cells [.int .i64 (n:Nat),ev,.sl h1.next 0 n n,.sl (h1.next+1) 0 n n,.sl (h1.next+2) 0 n n,.int .i64 0,.nils,.nils] 8 false):=by rw[x6.gt _ om]; exact j1
  have j2':h6.get h1.next=some (.cells es 1 false):=by rw[x6.gt _ om]; exact j2
  have s1':ak (h6.keep 1) (h1.next+3) 2 1=some [.sl h1.next 0 n n]:=by rw[aU (by rw[kg _ om]; exact j1')]; rfl
  have s2':ak (h6.keep 1) h5.next 0 1=some [.int .i64 (a:Nat)]:=by rw[aU (by rw[kg _ om]; exact g6)]; rfl
  have hR:Rw ((h6.keep 1).put h6.next (.cells [.int .i64 (k:Nat)] 1 false)) h2.next es (ll n E k):=j6.cong λc hc hcn=>by rw[y7 _ om,x6.gt _ om]
  obtain⟨va,va',h8,s1,s2,s3,s4,s5,s6,s7,s8⟩:=hR.push (i:=a) (x:=h6.next) (k:=(k:Nat)) (lR q2) om p7 om (λj b n q=>by have:=j6.lt q; omega)
   (by rw[fE]; have:=wg (E:=E) (k:=k) (x:=a); omega)
  have v3:ak (h6.keep 1) h1.next a 1=some [va]:=bm (by rw[kg _ om]; exact j2') s1;have ia:eR ((a:Nat):Int) n=some a:=cJ q2;have d1:h8.get (h1.next+3)=some (.cells [.int .i64 (n:Nat),ev,.sl h1.next 0 n n,.sl (h1.next+1) 0 n n,.sl (h1.next+2) 0 n n,.int .i64 0,.nils,.nils] 8 false):=by rw[s6.gt _ om,y7 _ om]; exact j1'
  have d2:h8.get h1.next=some (.cells es 1 false):=by rw[s6.gt _ om,y7 _ om]; exact j2'
  have d5:h8.get h5.next=some (.cells [.int .i64 (a:Nat),.int .i64 (b:Nat)] 2 false):=by rw[(s8 _ om (λj b n q=>by have:=j6.lt q; omega)).1,y7 _ om]; exact g6
  have f1:ak h8 (h1.next+3) 2 1=some [.sl h1.next 0 n n]:=by rw[aU d1]; rfl
  have f2:ak h8 h5.next 0 1=some [.int .i64 (a:Nat)]:=by rw[aU d5]; rfl
  have f3:=eA (v:=va') d2 (show a<es.length by omega);have u9:=Mv (o:=.cells (es.set a va') 1 false) d2;refine ae (oa (by simp only[am,aK,simprocAttr,e3,s1',s2',v3,eN,et q7,ia,aO,s2,s3,s4,f1,f2,f3]<;>rfl) ?_);generalize h8.put h1.next (.cells (es.set a va') 1 false)=h9 at *
  have n9:=u9.nx;have hR9:Rw h9 h2.next (es.set a va') ((ll n E k).set a (nI (md E k a)++[((k:Nat):Int)])):=s5.cong λc hc _=>u9.ne om;have l9:∀ (j b n:Nat),(es.set a va')[j]?=some (AV.sl b 0 n n)→b≠h5.next:=λj b n' q=>(s8 _ om (λj b n q=>by have:=j6.lt q; omega)).2 j b n' q;have l6:∀ (j b n:Nat),(es.set a va')[j]?=some (AV.sl b 0 n n)→b<h9.next:=λj b n' q=>(hR9.lt q).1;obtain⟨X7,P7,N7,Y7⟩:=gr (h:=h9) (o:=.cells [.int .i64 (k:Nat)] 1 false);have kg2:∀ c,c<h9.next→(h9.keep 1).get c=h9.get c:=λc hc=>by rw[AH.keep_get,if_neg om]
  have Q7:(h9.keep 1).get h9.next=some .resv:=fG;have J1:h9.get (h1.next+3)=some (.cells [.int .i64 (n:Nat),ev,.sl h1.next 0 n n,.sl (h1.next+1) 0 n n,.sl (h1.next+2) 0 n n,.int .i64 0,.nils,.nils] 8 false):=by rw[u9.ne om]; exact d1
  have J2:=u9.get;have J5:h9.get h5.next=some (.cells [.int .i64 (a:Nat),.int .i64 (b:Nat)] 2 false):=by rw[u9.ne om]; exact d5
  have V1:ak (h9.keep 1) (h1.next+3) 2 1=some [.sl h1.next 0 n n]:=by rw[aU (by rw[kg2 _ om]; exact J1)]; rfl
  have V2:ak (h9.keep 1) h5.next 1 1=some [.int .i64 (b:Nat)]:=by rw[aU (by rw[kg2 _ om]; exact J5)]; rfl
  have HR:Rw ((h9.keep 1).put h9.next (.cells [.int .i64 (k:Nat)] 1 false)) h2.next (es.set a va') ((ll n E k).set a (nI (md E k a)++[((k:Nat):Int)])):=hR9.cong λc hc hcn=>Y7 _ om
  obtain⟨vb,vb',H8,S1,S2,S3,S4,S5,S6,S7,S8⟩:=HR.push (i:=b) (x:=h9.next) (k:=(k:Nat)) (xs:=nI (md E k b)) (by rw[dq hLk]; exact lR q3) om P7 om (λj b n q=>by have:=l6 j b n q; omega)
   (by rw[fE]; have:=wg (E:=E) (k:=k) (x:=b); omega)
  have hst:=DA (n:=n) (E:=E) (k:=k) om om om;rw[ha,hb] at hst;rw[hst] at S5;have hol:(es.set a va').length=n:=by rw[ct,j5]
  have V3:ak (h9.keep 1) h1.next b 1=some [vb]:=bm (by rw[kg2 _ om]; exact J2) S1;have ib:eR ((b:Nat):Int) n=some b:=cJ q3;have D1:H8.get (h1.next+3)=some (.cells [.int .i64 (n:Nat),ev,.sl h1.next 0 n n,.sl (h1.next+1) 0 n n,.sl (h1.next+2) 0 n n,.int .i64 0,.nils,.nils] 8 false):=by rw[S6.gt _ om,Y7 _ om]; exact J1
  have D2:H8.get h1.next=some (.cells (es.set a va') 1 false):=by rw[S6.gt _ om,Y7 _ om]; exact J2
  have D5:H8.get h5.next=some (.cells [.int .i64 (a:Nat),.int .i64 (b:Nat)] 2 false):=by rw[(S8 _ om l9).1,Y7 _ om]; exact J5
  have F1:ak H8 (h1.next+3) 2 1=some [.sl h1.next 0 n n]:=by rw[aU D1]; rfl
  have F2:ak H8 h5.next 1 1=some [.int .i64 (b:Nat)]:=by rw[aU D5]; rfl
  have F3:=eA (v:=vb') D2 (show b<(es.set a va').length by omega);have U9:=Mv (o:=.cells ((es.set a va').set b vb') 1 false) D2;refine oa (by simp only[am,aK,simprocAttr,e3,V1,V2,V3,eN,et Q7,ib,aO,S2,S3,S4,F1,F2,F3]<;>rfl) ?_;generalize H8.put h1.next (.cells ((es.set a va').set b vb') 1 false)=H9 at *
  have N9:=U9.nx;refine⟨(es.set a va').set b vb',⟨by rw[U9.ne om]; exact D1,U9.get,?_,?_,by rw[ct,hol],S5.cong λc hc _=>U9.ne om,?_,om⟩,H4 ei en e3 e19⟩
  ·rw[U9.ne om,S6.gt _ om,Y7 _ om,u9.ne om,s6.gt _ om,y7 _ om,x6.gt _ om]; exact j3
  ·rw[U9.ne om,S6.gt _ om,Y7 _ om,u9.ne om,s6.gt _ om,y7 _ om,x6.gt _ om]; exact j4
  ·exact j7.trans ((x6.mono om).trans ((x7.mono om).trans ((s6.mono om).trans ((u9.ext (ab _)).trans ((X7.mono om).trans ((S6.mono om).trans (U9.ext om)))))))
 ·rintro es ts h5 ⟨j1,j2,j3,j4,j5,j6,j7,j8⟩ ⟨e3,e19,-⟩;simp only at e3 j2 j5 j6;refine ae (aj (M1 e3) ?_);have X5:Ext h.next h h5:=x0.trans (j7.mono om);have he5:=he.ext X5 (ab _);refine br ⟨.ptr (h1.next+3) 0,(by simp only[rs,rf95,am,aK,simprocAttr]<;>rfl),h1.next+3,h1.next,h1.next+1,h1.next+2,rfl,X5,⟨om,om,om⟩,{ he:=he5,oe:=?_,ge:=⟨es,j2,j5,λx v q=>?_⟩,ne:=⟨om,om,om,om,om,om⟩,lt:=⟨om,om,om⟩},{ kp:=Kp.refl,cell:=j1,gn:=j3,gl:=j4,st:=.inl ⟨rfl,rfl⟩,bl:=.inl ⟨rfl,rfl⟩,rl:=rfl,rw:=λj v l q=>by simp at q,sb:=Sep.nill}⟩
  ·have key:∀ v:AV,(∀ b o m c,v=.sl b o m c→b<h.next)→Off (SS (h1.next+3) (h1.next+1) (h1.next+2)) v:=λv hv=>by
    cases v<;>try exact trivial
    rename_i b o m c
    have:=hv b o m c rfl;rintro (e|e|e)<;>omega
   exact key ev λb o m c e=>he.lt e
  ·have hxn:x<n:=by rw[← j5]; exact (aI.1 q).1
   have i1:=j6.2.1 x v _ q (lR hxn);refine⟨Mq om (λ_=>rfl) i1,?_⟩;rcases i1 with ⟨rfl,_⟩|⟨b,m,hb,rfl,_⟩
   ·exact trivial
   ·rintro (e|e|e)<;>omega
open Go.Am
open Go.Blk (Gr DS upd)
def dJ (l:List Nat):List Nat:=l.mergeSort λa b=>decide (a≤b)
theorem kr (l:List Nat):(dJ l).Perm l:=jJ l _
theorem yB (l:List Nat):fz (nI l)=nI (dJ l):=by
 unfold fz nI dJ;exact (List.map_mergeSort λa _ b _=>by rw[decide_eq_decide]; omega).symm
theorem Fq (l:List Nat):(dJ l).Pairwise (·≤·):=by
 have:=ip (le:=λa b:Nat=>decide (a≤b)) (λa b c h1 h2=>by simp only[aJ] at *; omega) (λa b=>by simp only[cZ,aJ]; omega) l;exact this.imp λh=>aR h
theorem CG {l:List Nat}{i:Nat} (h:i∈l):∀ k:Nat,dW (((i:Nat):Int)==·) (nI l) k=((k+l.idxOf i:Nat):Int):=by
 induction l with
 | nil=>cases h
 | cons a l ih =>
   intro k;show (if (((i:Nat):Int)==((a:Nat):Int))=true then ((k:Nat):Int) else dW _ (nI l) (k+1))=_;by_cases e:a=i
   ·subst e;rw[if_pos (by simp),List.idxOf_cons_self,dX]
   ·have hm:i∈l:=by
     rcases aA.1 h with q|q
     ·exact absurd q.symm e
     ·exact q
    have hne:¬ ((((i:Nat):Int)==((a:Nat):Int))=true):=by
     rw[beq_iff_eq]; omega
    have hb:(a==i)=false:=by rw[beq_eq_false_iff_ne]; exact e
    rw[if_neg hne,ih hm (k+1),List.idxOf_cons,hb,cond_false];congr 1;omega
set_option maxHeartbeats 1000000 in
theorem EX {h0 h:AH}{sp eb nb lb n:Nat}{ev:AV}{E:List (Int×Int)}{s:DS}{stv blv:AV}{bs:List AV} (t:Sta h0 sp eb nb lb n ev E) (r:Ser h0 h sp eb nb lb n ev s stv blv bs) {i:Nat} (hi:i∈s.stk) (hl1:s.stk.length<2 ^ 32) (hl2:s.blk.length<2 ^ 32) :
 C prg 143 [.ptr sp 0,.int .i64 (i:Nat)] h λ_ h'=>∃ stv' blv' bs',Ser h0 h' sp eb nb lb n ev (s.close dJ i) stv' blv' bs':=by
 obtain⟨n1,n2,n3,n4,n5,n6⟩:=t.ne;obtain⟨l1,l2,l3⟩:=t.lt;have hnx:=r.kp.nx;have hs:=r.st.sl;refine Mw pf143 ?_;have r6:ak h sp 6 1=some [stv]:=bm r.cell rfl;refine ae (bN (bo 5 (Mi1 r6) rfl (Zi1 r6) (Mi1 r6) (pX (y:=((i:Nat):Int)) hs (by rw[fE]; omega)) λv h1 hq=>?_));obtain⟨rfl,x1⟩:=hq;rw[CG hi 0,bM];have hat:s.stk.idxOf i<s.stk.length:=rF.2 hi;have hclose:s.close dJ i={ s with blk:=s.blk++[dJ (s.stk.drop (s.stk.idxOf i))],stk:=s.stk.take (s.stk.idxOf i)}:=rfl;rw[hclose];generalize s.stk.idxOf i=k at *
 refine bH (M0) ?_;have y1:=x1.nx;have kg:∀ c,c<h1.next→(h1.keep 1).get c=h1.get c:=λc hc=>by rw[AH.keep_get,if_neg om]
 have kn:(h1.keep 1).next=h1.next+1:=AH.keep_next 1 h1;have kq:(h1.keep 1).get h1.next=some .resv:=fG;have xk:Ext h1.next h1 (h1.keep 1):=⟨om,kg,λc hc=>Mr 1 h1⟩
 have X1:Ext h.next h (h1.keep 1):=x1.trans (xk.mono y1);have hsp:sp<h.next:=om;have c1:(h1.keep 1).get sp=some (.cells [.int .i64 (n:Nat),ev,.sl eb 0 n n,.sl nb 0 n n,.sl lb 0 n n,.int .i64 (s.cnt:Nat),stv,blv] 8 false):=by rw[X1.gt _ hsp]; exact r.cell
 have r61:ak (h1.keep 1) sp 6 1=some [stv]:=bm c1 rfl;have r71:ak (h1.keep 1) sp 7 1=some [blv]:=bm c1 rfl;have hs1:=hs.ext X1 (ab _);obtain⟨w,s1,s2,_⟩:=hs1.from (lo:=k) (by rw[ai,fE]; omega);rw[← fT] at s2;refine ae (pD (jE 11 (by simp only[am,aK,simprocAttr,r61,r71,dH,bT,s1]<;>rfl) rfl (by simp only[am,aK,simprocAttr,r61,r71,dH,bT,s1]) (by simp only[am,aK,simprocAttr,r61,r71,dH,bT,s1]<;>rfl) (oj s2.cells.1) λrv h2 hq=>?_));obtain⟨rfl,hh2⟩:=hq;have x2:Ext (h1.next+1) (h1.keep 1) h2:=by rw[hh2]; exact Mt om
 have g2:h2.get (h1.next+1)=some (.cells [w] 1 false):=by rw[hh2,AH.get_new,kn,if_pos rfl]
 have n2:h2.next=h1.next+2:=by rw[hh2,AH.next_new,kn]
 rw[kn];have X2:Ext h.next h h2:=X1.trans (x2.mono om);have c2:h2.get sp=some (.cells [.int .i64 (n:Nat),ev,.sl eb 0 n n,.sl nb 0 n n,.sl lb 0 n n,.int .i64 (s.cnt:Nat),stv,blv] 8 false):=by rw[X2.gt _ hsp]; exact r.cell
 have r72:ak h2 sp 7 1=some [blv]:=bm c2 rfl;have bc:=r.bl.cells;have sb:blv.same blv=true:=by rcases r.bl with ⟨rfl,_⟩|⟨_,_,_,rfl,_⟩<;>first|rfl|exact mq
 refine⟨Z2 r72 sb,?_⟩;have s22:=s2.ext x2 om;refine jE 0 (M0) rfl (Z0) (M0) (ow (bm g2 rfl) s22 om (by rw[cz,fE]; omega)) λrv h3 hq=>?_;obtain⟨i3,x3⟩:=hq;have X3:Ext h.next h h3:=X2.trans (x3.mono om);have n3':=x3.nx;have c3:h3.get sp=some (.cells [.int .i64 (n:Nat),ev,.sl eb 0 n n,.sl nb 0 n n,.sl lb 0 n n,.int .i64 (s.cnt:Nat),stv,blv] 8 false):=by rw[X3.gt _ hsp]; exact r.cell
 have r73:ak h3 sp 7 1=some [blv]:=bm c3 rfl;refine⟨Z2 r73 sb,?_⟩;have q3:h3.get h1.next=some .resv:=by rw[x3.gt _ om,x2.gt _ om]; exact kq
 have hrow:IsSl h3 1 h2.next rv (nL (dJ (s.stk.drop k))):=by
  have e:nI (s.stk.drop k)=(nI s.stk).drop k:=by unfold nI; rw[fT]
  rw[← e,yB,Lm] at i3;exact i3
 have u4:=Mv (o:=.cells [rv] 1 false) q3;obtain⟨rc,ro⟩:=i3.cells;have bl4:IsSl (h3.put h1.next (.cells [rv] 1 false)) 1 h0.next blv bs:=r.bl.cong λb m e hb=>by
  have:=r.bl.lt e;rw[u4.ne om,X3.gt _ this]
 have n4':=u4.nx
 obtain⟨blv',h5,a5,i5,x5,e5,n5',k5,t5⟩:=bl4.app (bytes:=24) (x:=h1.next) (new:=[rv]) om om u4.get om (λb m e=>by have:=r.bl.lt e; omega) rfl (by simp [ro])
  (by rw[dF,r.rl]; unfold aW; omega) (by rw[dF,r.rl]; unfold aW; omega)
 obtain⟨bc',bo'⟩:=i5.cells;have hb5:∀ c,c<h.next→(∀ b m,blv=.sl b 0 m m→c≠b)→h5.get c=h.get c:=λc hc hne=>by
  rw[k5 c om hne,u4.ne om,X3.gt _ hc]
 have hbl0:∀ c,c<h0.next→h5.get c=h.get c:=λc hc=>hb5 c om λb m e q=>by
  rcases r.bl with ⟨rfl,_⟩|⟨b',m',z1,rfl,_⟩
  ·cases e
  ·cases e; omega
 have c5:h5.get sp=some (.cells [.int .i64 (n:Nat),ev,.sl eb 0 n n,.sl nb 0 n n,.sl lb 0 n n,.int .i64 (s.cnt:Nat),stv,blv] 8 false):=by rw[hbl0 sp l1]; exact r.cell
 have w6:=eA (v:=blv') c5 (i:=7) (by simp);have u6:=Mv (o:=.cells [.int .i64 (n:Nat),ev,.sl eb 0 n n,.sl nb 0 n n,.sl lb 0 n n,.int .i64 (s.cnt:Nat),stv,blv'] 8 false) c5;change bQ h5 sp 7 [blv']=some (h5.put sp (.cells [.int .i64 (n:Nat),ev,.sl eb 0 n n,.sl nb 0 n n,.sl lb 0 n n,.int .i64 (s.cnt:Nat),stv,blv'] 8 false)) at w6;have rp:cm [AV.nils] 1=[.nils]:=rfl;refine bH (by simp only[am,aK,simprocAttr,eN,et q3,rp,rc,ro,a5,bo',bc',w6]<;>rfl) ?_;generalize h5.put sp (.cells [.int .i64 (n:Nat),ev,.sl eb 0 n n,.sl nb 0 n n,.sl lb 0 n n,.int .i64 (s.cnt:Nat),stv,blv'] 8 false)=h6 at *
 have n6':=u6.nx;have ty6:∀ c,c<h.next→h6.tyOf c=h.tyOf c:=λc hc=>by rw[u6.ty,t5,u4.ty,X3.ty _ hc]
 have hlow:∀ c,c<h0.next→c≠sp→h6.get c=h.get c:=λc hc hne=>by rw[u6.ne hne,hbl0 c hc]
 have keepS:∀ c,h0.next≤c→c<h.next→(∀ b m,blv=.sl b 0 m m→c≠b)→h6.get c=h.get c:=λc hc hc2 hne=>by rw[u6.ne om,hb5 c hc2 hne]
 have st6:Stk h6 h0.next stv s.stk:=r.st.cong λc hc ⟨o,m,kk,e⟩=>keepS c hc (r.st.lt e).1 λb m' e' q=>r.sb b 0 m' m' o m kk e' (by rw[e,q]);have R6:Ser h0 h6 sp eb nb lb n ev { s with blk:=s.blk++[dJ (s.stk.drop k)]} stv blv' (bs++[rv]):=by
  refine { kp:=⟨om,λc hc hn'=>?_,λc hc=>?_⟩,cell:=u6.get,gn:=by rw[hlow nb l2 n4]; exact r.gn,gl:=by rw[hlow lb l3 n6]; exact r.gl,st:=st6,bl:=i5.upd u6 om,rl:=by rw[aN,aN,r.rl]; rfl,rw:=λj v l a b=>?_,sb:=?_}
  ·rw[hlow c hc λe=>hn' (.inl e)]; exact r.kp.gt c hc hn'
  ·rw[ty6 c om]; exact r.kp.ty c hc
  ·by_cases hj:j<bs.length
   ·rw[bJ hj] at a;rw[bJ (by rw[← r.rl]; exact hj)] at b;obtain⟨z1,z2,z3⟩:=r.rw j v l a b;refine⟨z1.cong λb m e hb=>keepS b hb (z1.lt e) λb' m' e' q=>z3 b 0 m m 0 m' m' e (by rw[e',q]),z2,λb o m c o' m' c' e e'=>?_⟩;rw[e5] at e';cases e';have:=z1.lt e;omega
   ·rw[bE om] at a;rw[bE (by rw[← r.rl]; omega),← r.rl] at b;have hj0:j-bs.length=0:=by
     have:=(aI.1 a).1;simp only[bf,bt] at this;omega
    rw[hj0] at a b;simp only[ce,aa] at a b;subst a b;refine⟨(hrow.cong λb m e hb=>?_).mono om,λb o m c o' m' c' e e'=>?_,λb o m c o' m' c' e e'=>?_⟩
    ·have:=hrow.lt e;rw[u6.ne om,k5 b om (λb' m' e'=>by have:=r.bl.lt e'; omega),u4.ne om]
    ·have:=(r.st.lt e').1;rcases hrow with ⟨rfl,_⟩|⟨b',m'',z1,rfl,_⟩
     ·cases e
     ·cases e; omega
    ·rw[e5] at e';cases e';have:=hrow.lt e;omega
  ·intro b o m c o' m' c' e e';rw[e5] at e;cases e;have:=(r.st.lt e').1;omega
 have r66:ak h6 sp 6 1=some [stv]:=bm R6.cell rfl;obtain⟨v',cv,cs,csep,cin⟩:=R6.st.cut (k:=k) (by show k≤s.stk.length; omega);obtain⟨h7,w7,R7⟩:=R6.setStk t (ab _) (λ_ _ _=>rfl) (λ_=>rfl) cs (λw _ q=>csep w q);have co:=cs.cells;refine aj (by simp only[am,aK,simprocAttr,bS,r66,dH,bT,cv,co.1,co.2,w7]<;>rfl) ?_;exact⟨.tup [],rfl,v',blv',_,R7⟩
open Go.Am
open Go.Blk (Gr DS upd visit edgeS enter Pre Mid pot unm)
theorem mnn {k:IntKind}{a b:Nat}:kQ mnA [.int k (a:Nat),.int k (b:Nat)]=some (.int k ((min a b:Nat):Int)):=by
 have:kQ mnA [.int k ((a:Nat):Int),.int k ((b:Nat):Int)]=some (.int k (if ((b:Nat):Int)<((a:Nat):Int) then ((b:Nat):Int) else ((a:Nat):Int))):=by simp [kQ,mnA]
 rw[this];congr 2;split<;>omega
def xd (s:DS) (x y:Nat):DS:={ s with low:=upd s.low x (min (s.low x) (s.low y))}
def byI:Option Nat→Int
 | none=>-1
 | some b=>(b:Nat)
set_option maxHeartbeats 4000000 in
theorem ES {h0:AH}{sp eb nb lb n:Nat}{ev:AV}{E:List (Int×Int)} (t:Sta h0 sp eb nb lb n ev E) (hE:InG n E) (hL:∀ i,i<E.length→tlE E i≠hdE E i) (hn:n<2 ^ 30) (hxl:E.length<2 ^ 30) :
 ∀ (f:Nat) {h:AH}{an:List Nat}{x:Nat}{by_:Option Nat}{s:DS}{stv blv:AV}{bs:List AV},Pre (grE n E hE hL) an x by_ s→unm (grE n E hE hL) s≤f→pot (grE n E hE hL) (dA E) s≤2 ^ 30→Ser h0 h sp eb nb lb n ev s stv blv bs →
   C prg 96 [.ptr sp 0,.int .i64 (x:Nat),.int .i64 (byI by_)] h λ_ h'=>∃ stv' blv' bs',Ser h0 h' sp eb nb lb n ev (visit (grE n E hE hL) (dA E) dJ f x by_ s) stv' blv' bs':=by
 intro f;induction f with
 | zero =>
   intro h an x by_ s stv blv bs p hf _ _;have:=Go.Blk.unm_pos p.hx p.x0;omega
 | succ f ih =>
 intro h an x by_ s stv blv bs p hf hpot r;have hends:=zQ hE hL;have hx:x<n:=p.hx;obtain⟨l1,l2,l3⟩:=t.lt;have hcnt:s.cnt≤2 ^ 30:=by unfold pot at hpot; omega
 refine Mw pf96 ?_;have r5:ak h sp 5 1=some [.int .i64 (s.cnt:Nat)]:=bm r.cell rfl;have w1:=dT (k:=s.cnt) om;obtain⟨h1,a1,R1⟩:=r.setCnt t (s.cnt+1);refine ae (aj (Mi3 r5 w1 a1) ?_);have r3:ak h1 sp 3 1=some [.sl nb 0 n n]:=bm R1.cell rfl;have r4:ak h1 sp 4 1=some [.sl lb 0 n n]:=bm R1.cell rfl;have r51:ak h1 sp 5 1=some [.int .i64 (s.cnt+1:Nat)]:=bm R1.cell rfl;have ix:eR ((x:Nat):Int) n=some x:=cJ hx;obtain⟨h2,a2,R2⟩:=R1.setNum t hx (s.cnt+1);obtain⟨h3,a3,R3⟩:=R2.setLow t hx (s.cnt+1);refine ae (aj (Mi7 r3 r4 r51 ix @aO a2 a3) ?_);have R3:Ser h0 h3 sp eb nb lb n ev (enter x s) stv blv bs:=R3;clear a1 a2 a3 R1 R2 r3 r4 r5 r51;obtain⟨rv,e1,e2,e3o,e4⟩:=t.row R3.kp hx;have r2:ak h3 sp 2 1=some [.sl eb 0 n n]:=bm R3.cell rfl;have el:=e2.len;rw[ai,fE] at el;refine ae (aj (Mi5 r2 ix @aO e1 el) ?_);have hm0:=Go.Blk.mid0 p;have hpe:=Go.Blk.pot_enter (ends:=dA E) p.hx p.x0;have hin:∀ i∈dA E x,(grE n E hE hL).inc i x:=λi hi=>(hends x p.hx).2 i |>.1 hi;have hnd:=(hends x p.hx).1
 have hvis:∀ (y i:Nat) (s:DS),y<(grE n E hE hL).n→s.num y=0→(∀ v,s.num v≠0→(visit (grE n E hE hL) (dA E) dJ f y (some i) s).num v≠0)∧pot (grE n E hE hL) (dA E) (visit (grE n E hE hL) (dA E) dJ f y (some i) s)≤pot (grE n E hE hL) (dA E) s :=
  λy i s hy hs=>Go.Blk.pot_visit (λx hx i hi=>(hends x hx).2 i |>.1 hi) f y (some i) s hy hs
 have hel:(dA E x).length<2 ^ 40:=by unfold pot at hpe hpot; omega
 show W prg _ _ _ _ (λts h=>∃ v,_∧∃ stv' blv' bs',Ser h0 h sp eb nb lb n ev ((dA E x).foldl (edgeS (grE n E hE hL) dJ (λy i s=>visit (grE n E hE hL) (dA E) dJ f y (some i) s) x by_) (enter x s)) stv' blv' bs') _;generalize hL':dA E x=l at *
 refine fA (α:=Unit) (N:=l.length) (λ_ _=>[(0,.ptr sp 0),(1,.int .i64 (x:Nat)),(2,.int .i64 (byI by_)),(42,rv)])
  (λk _ h'=>∃ (stv:AV) (blv:AV) (bs:List AV) (new:List Nat) (cs:List (List Nat)),Ser h0 h' sp eb nb lb n ev ((l.take k).foldl (edgeS (grE n E hE hL) dJ (λy i s=>visit (grE n E hE hL) (dA E) dJ f y (some i) s) x by_) (enter x s)) stv blv bs ∧
   Mid (grE n E hE hL) x by_ s (l.take k) ((l.take k).foldl (edgeS (grE n E hE hL) dJ (λy i s=>visit (grE n E hE hL) (dA E) dJ f y (some i) s) x by_) (enter x s)) new cs) () (λ_ _=>rfl) om (Hi0)
  ⟨stv,blv,bs,[],[],R3,hm0⟩ ?_ ?_
 ·clear R3 r2 e1 e2 el;rintro k _ ts h4 hk ⟨stv,blv,bs,new,cs,R,m⟩ ⟨ei,en,e0,ex,eb',e42,-⟩;simp only at ei en e0 ex eb' e42;have hii:(grE n E hE hL).inc l[k] x:=hin _ (aP hk);have hiL:l[k]∉l.take k:=λhm=>by
   have hnd':=hnd;rw[← cD k l,bV] at hnd';exact hnd'.2.2 _ hm _ (by rw[bX hk]; exact bd ..) rfl
  obtain⟨new',cs',m'⟩:=Go.Blk.mid_step hends kr p hf m hii hiL;have hpk:=(Go.Blk.pot_fold (sort:=dJ) (by_:=by_) hvis (l.take k) (enter x s) λi hi=>hin i (nh hi)).2;have hsucc:(l.take (k+1)).foldl (edgeS (grE n E hE hL) dJ (λy i s=>visit (grE n E hE hL) (dA E) dJ f y (some i) s) x by_) (enter x s)=edgeS (grE n E hE hL) dJ (λy i s=>visit (grE n E hE hL) (dA E) dJ f y (some i) s) x by_ ((l.take k).foldl (edgeS (grE n E hE hL) dJ (λy i s=>visit (grE n E hE hL) (dA E) dJ f y (some i) s) x by_) (enter x s)) l[k]:=by
   rw[aG hk,fK];rfl
  rw[aS,cy om] at hpk;rw[aG hk];rw[aG hk] at hsucc;rw[hsucc];clear hsucc;obtain⟨sN,hsN⟩:∃ sN,sN=edgeS (grE n E hE hL) dJ (λy i s=>visit (grE n E hE hL) (dA E) dJ f y (some i) s) x by_ ((l.take k).foldl (edgeS (grE n E hE hL) dJ (λy i s=>visit (grE n E hE hL) (dA E) dJ f y (some i) s) x by_) (enter x s)) l[k]:=⟨_,rfl⟩
  rw[← hsN] at m' ⊢;generalize (l.take k).foldl (edgeS (grE n E hE hL) dJ (λy i s=>visit (grE n E hE hL) (dA E) dJ f y (some i) s) x by_) (enter x s)=s1 at *
  have hpot1:pot (grE n E hE hL) (dA E) s1+2≤2 ^ 30:=om;have hstk1:s1.stk.length≤2 ^ 30:=by unfold pot at hpot1; omega
  obtain⟨rv',e1,e2,_,_⟩:=t.row R.kp hx;have e2:SlI h4 rv (nI l):=e4.kp R.kp e3o;obtain⟨b1,p1,ia1,ir1,_⟩:=e2.at1 (cq (f:=eI) (i:=k) (by rw[fE]; exact hk));rw[show (nI l)[k]'(by rw[fE]; exact hk)=((l[k]:Nat):Int) by simp [nI]] at ir1;refine ae (aj (M4 ei e42 ia1 ir1) ?_);obtain⟨oi,one,oo⟩:=Go.Blk.inc_oth hii;have hother:=EU t R hE hL om hii;generalize hi:l[k]=i at *
  refine ae (bN (bo 3 (by simp only[am,aK,simprocAttr,e0,ex]<;>rfl) rfl (by simp only[am,aK,simprocAttr,e0,ex]) (by simp only[am,aK,simprocAttr,e0,ex]<;>rfl) (hother) λv h5 hq=>?_));obtain⟨rfl,x5⟩:=hq;refine bH (M0) ?_;have hy:(grE n E hE hL).oth i x<n:=Go.Blk.inc_lt oi;have R5:Ser h0 h5 sp eb nb lb n ev s1 stv blv bs:=by
   have hnx:=R.kp.nx;refine { kp:=R.kp.trans (x5.kp (ab _)) λ_ _ q=>q,cell:=by rw[x5.gt _ om]; exact R.cell,gn:=by rw[x5.gt _ om]; exact R.gn,gl:=by rw[x5.gt _ om]; exact R.gl,st:=R.st.cong λc _ ⟨o,m,kk,e⟩=>x5.gt _ (R.st.lt e).1,bl:=R.bl.ext x5 (ab _),rl:=R.rl,rw:=λj v l a b=>⟨(R.rw j v l a b).1.ext x5 (ab _),(R.rw j v l a b).2⟩,sb:=R.sb}
  clear hother e1 e2 ia1 ir1 R;have hsp:Pre (grE n E hE hL) (x::an) ((grE n E hE hL).oth i x) (some i) { s1 with stk:=s1.stk++[i]}∨s1.num ((grE n E hE hL).oth i x)≠0:=by
   by_cases q:s1.num ((grE n E hE hL).oth i x)=0
   ·exact .inl (Go.Blk.sub_pre p m hii q)
   ·exact .inr q
  have hsu:=Go.Blk.sub_unm (i:=i) p m;have hvg:=Go.Blk.visit_good hends kr f (x::an) ((grE n E hE hL).oth i x) (some i) { s1 with stk:=s1.stk++[i]};generalize hyd:(grE n E hE hL).oth i x=y at *
  have iy:eR ((y:Nat):Int) n=some y:=cJ hy
  have goal:∀ {h':AH}{stv blv:AV}{bs:List AV}{s':DS},sN=s'→Ser h0 h' sp eb nb lb n ev s' stv blv bs →
   ∃ (stv:AV) (blv:AV) (bs:List AV) (new:List Nat) (cs:List (List Nat)),Ser h0 h' sp eb nb lb n ev sN stv blv bs∧Mid (grE n E hE hL) x by_ s (l.take k++[i]) sN new cs :=
   fun {h' stv blv bs s'} e q=>⟨stv,blv,bs,new',cs',by rw[e]; exact q,m'⟩
  have rn5:ak h5 sp 3 1=some [.sl nb 0 n n]:=bm R5.cell rfl;have ry5:ak h5 nb y 1=some [.int .i64 (s1.num y:Nat)]:=bm R5.gn (kN hy);have rx5:ak h5 nb x 1=some [.int .i64 (s1.num x:Nat)]:=bm R5.gn (kN hx);have rst5:ak h5 sp 6 1=some [stv]:=bm R5.cell rfl;refine cY ?_;by_cases hb:by_=some i
  ·have c1:decide (((i:Nat):Int)=byI by_)=true:=aH (by rw[hb]; rfl);refine ae (aj (M2 eb' c1) ?_);refine db (Z0) (bu ?_);refine⟨(),goal ?_ R5,by simp only[hl,am,aK,simprocAttr,ei,en,e0,ex,eb',e42]⟩;rw[hsN]; unfold edgeS; rw[if_pos hb]
  have c1:decide (((i:Nat):Int)=byI by_)=false:=aw λe=>hb (by
   cases by_ with
   | none=>change ((i:Nat):Int)=-1 at e; omega
   | some b=>change ((i:Nat):Int)=((b:Nat):Int) at e; congr 1; omega)
  refine ae (aj (M2 eb' c1) ?_);refine dL (Z0) ?_;by_cases hy0:s1.num y=0
  ·have c2:decide (((s1.num y:Nat):Int)=0)=true:=aH om;refine ae (aj (M6 e0 rn5 iy @aO ry5 c2) ?_);refine db (Z0) ?_;obtain⟨v',h6,h7,q1,q2,q3,q4,R7⟩:=R5.push t i om;refine ae (aj (M6 e0 rst5 q1 q2 q3 q4) ?_);have hpre:Pre (grE n E hE hL) (x::an) y (some i) { s1 with stk:=s1.stk++[i]}:=hsp.resolve_right (λq=>q hy0);have hpp:pot (grE n E hE hL) (dA E) { s1 with stk:=s1.stk++[i]}≤2 ^ 30:=by rw[Go.Blk.pot_push]; omega
   have hcall:=ih hpre om hpp R7;obtain⟨new2,bs2,post⟩:=hvg hpre om;have hp2:=(hvis y i { s1 with stk:=s1.stk++[i]} hy hy0).2;have ed:sN=if (xd (visit (grE n E hE hL) (dA E) dJ f y (some i) { s1 with stk:=s1.stk++[i]}) x y).num x≤(xd (visit (grE n E hE hL) (dA E) dJ f y (some i) { s1 with stk:=s1.stk++[i]}) x y).low y then (xd (visit (grE n E hE hL) (dA E) dJ f y (some i) { s1 with stk:=s1.stk++[i]}) x y).close dJ i else xd (visit (grE n E hE hL) (dA E) dJ f y (some i) { s1 with stk:=s1.stk++[i]}) x y:=by
    rw[hsN];unfold edgeS;rw[if_neg hb,hyd,if_pos hy0];rfl
   clear hsN hsp hvg;refine ae (bN (bo 3 (by simp only[am,aK,simprocAttr,e0,byI]<;>rfl) rfl (by simp only[am,aK,simprocAttr,e0,byI]) (by simp only[am,aK,simprocAttr,e0,byI]<;>rfl) (hcall) λv h8 hq=>?_));obtain⟨stv2,blv2,bs2',R8⟩:=hq;have hist:i∈(visit (grE n E hE hL) (dA E) dJ f y (some i) { s1 with stk:=s1.stk++[i]}).stk:=by rw[post.stk]; simp
   generalize visit (grE n E hE hL) (dA E) dJ f y (some i) { s1 with stk:=s1.stk++[i]}=s2 at *
   refine bH (M0) ?_;have rl8:ak h8 sp 4 1=some [.sl lb 0 n n]:=bm R8.cell rfl;have rx8:ak h8 lb x 1=some [.int .i64 (s2.low x:Nat)]:=bm R8.gl (kN hx);have ry8:ak h8 lb y 1=some [.int .i64 (s2.low y:Nat)]:=bm R8.gl (kN hy);obtain⟨h9,w9,R9⟩:=R8.setLow t hx (min (s2.low x) (s2.low y));refine ae (aj (by simp only[am,aK,simprocAttr,e0,ex,rl8,ix,iy,aO,rx8,ry8,mnn,w9]<;>rfl) ?_);have hp3:pot (grE n E hE hL) (dA E) (xd s2 x y)≤2 ^ 30:=by
    have e:pot (grE n E hE hL) (dA E) (xd s2 x y)=pot (grE n E hE hL) (dA E) s2:=rfl;rw[e]; omega
   have hist3:i∈(xd s2 x y).stk:=hist;have R9:Ser h0 h9 sp eb nb lb n ev (xd s2 x y) stv2 blv2 bs2':=R9;generalize xd s2 x y=s3 at *
   have rl9:ak h9 sp 4 1=some [.sl lb 0 n n]:=bm R9.cell rfl;have rn9:ak h9 sp 3 1=some [.sl nb 0 n n]:=bm R9.cell rfl;have ry9:ak h9 lb y 1=some [.int .i64 (s3.low y:Nat)]:=bm R9.gl (kN hy);have rx9:ak h9 nb x 1=some [.int .i64 (s3.num x:Nat)]:=bm R9.gn (kN hx);by_cases hc:s3.num x≤s3.low y
   ·have c3:decide (((s3.num x:Nat):Int)≤((s3.low y:Nat):Int))=true:=aH om;refine ae (aj (by simp only[am,aK,simprocAttr,e0,ex,rl9,rn9,ix,iy,aO,rx9,ry9,c3]<;>rfl) ?_);refine db (Z0) ?_;have hcl:=EX t R9 hist3 (by unfold pot at hp3; omega) (by unfold pot at hp3; omega);refine bN (bo 2 (M1 e0) rfl (Z1 e0) (M1 e0) (hcl) λv h10 hq=>?_);obtain⟨stv3,blv3,bs3,R10⟩:=hq;refine bH (M0) ?_;refine⟨(),goal (by rw[ed,if_pos hc]) R10,by simp only[hl,am,aK,simprocAttr,ei,en,e0,ex,eb',e42]⟩
   ·have c3:decide (((s3.num x:Nat):Int)≤((s3.low y:Nat):Int))=false:=aw om;refine ae (aj (by simp only[am,aK,simprocAttr,e0,ex,rl9,rn9,ix,iy,aO,rx9,ry9,c3]<;>rfl) ?_);refine dL (Z0) (bu ?_);refine⟨(),goal (by rw[ed,if_neg hc]) R9,by simp only[hl,am,aK,simprocAttr,ei,en,e0,ex,eb',e42]⟩
  have c2:decide (((s1.num y:Nat):Int)=0)=false:=aw om;refine ae (aj (M6 e0 rn5 iy @aO ry5 c2) ?_);refine dL (Z0) ?_;by_cases hlt:s1.num y<s1.num x
  ·have c3:decide (((s1.num y:Nat):Int)<((s1.num x:Nat):Int))=true:=aH om;refine ae (aj (by simp only[am,aK,simprocAttr,e0,ex,rn5,ix,iy,aO,ry5,rx5,c3]<;>rfl) ?_);refine db (Z0) ?_;obtain⟨v',h6,h7,q1,q2,q3,q4,R7⟩:=R5.push t i om;refine ae (aj (M6 e0 rst5 q1 q2 q3 q4) ?_);have rl7:ak h7 sp 4 1=some [.sl lb 0 n n]:=bm R7.cell rfl;have rn7:ak h7 sp 3 1=some [.sl nb 0 n n]:=bm R7.cell rfl;have rx7:ak h7 lb x 1=some [.int .i64 (s1.low x:Nat)]:=bm R7.gl (kN hx);have ry7:ak h7 nb y 1=some [.int .i64 (s1.num y:Nat)]:=bm R7.gn (kN hy);obtain⟨h8,w8,R8⟩:=R7.setLow t hx (min (s1.low x) (s1.num y));refine aj (by simp only[am,aK,simprocAttr,e0,ex,rl7,rn7,ix,iy,aO,rx7,ry7,mnn,w8]<;>rfl) ?_;refine⟨(),goal (s':={ s1 with stk:=s1.stk++[i],low:=upd s1.low x (min (s1.low x) (s1.num y))}) ?_ R8,by simp only[hl,am,aK,simprocAttr,ei,en,e0,ex,eb',e42]⟩;rw[hsN]; unfold edgeS; rw[if_neg hb,hyd,if_neg hy0,if_pos hlt]
  ·have c3:decide (((s1.num y:Nat):Int)<((s1.num x:Nat):Int))=false:=aw om;refine ae (aj (by simp only[am,aK,simprocAttr,e0,ex,rn5,ix,iy,aO,ry5,rx5,c3]<;>rfl) ?_);refine dL (Z0) (bu ?_);refine⟨(),goal ?_ R5,by simp only[hl,am,aK,simprocAttr,ei,en,e0,ex,eb',e42]⟩;rw[hsN]; unfold edgeS; rw[if_neg hb,hyd,if_neg hy0,if_neg hlt]
 ·rintro _ ts h4 ⟨stv,blv,bs,new,cs,R,m⟩ _;rw[bp] at R;refine⟨.tup [],rfl,stv,blv,bs,?_⟩;show Ser h0 h4 sp eb nb lb n ev ((dA E x).foldl (edgeS (grE n E hE hL) dJ (λy i s=>visit (grE n E hE hL) (dA E) dJ f y (some i) s) x by_) (enter x s)) stv blv bs;rw[hL'];exact R
end Go.Proofs.YtahepnbflofndaaGreatDoor
