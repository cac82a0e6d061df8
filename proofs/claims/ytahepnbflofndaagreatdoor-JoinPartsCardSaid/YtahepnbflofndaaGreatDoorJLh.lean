/- The definition's side -/
import Derived.Test.YtahepnbflofndaaGreatDoorJLf
set_option linter.all false
namespace Go.Proofs.YtahepnbflofndaaGreatDoor
open Go.Am
theorem eF {k:Nat} (h:k<2 ^ 62):IntKind.i64.wrap (((k:Nat):Int)+1)=((k+1:Nat):Int):=bE om om
theorem yl {h:AH}{v:AV}{xs:List Int}{x:Int} (hv:SlI h v xs) (hl:xs.length<2 ^ 40):C prg 148 [v,.int .i64 x] h λr h'=>r=.int .i64 (dK (x==·) xs 0)∧h'=h:=by
 have el:=hv.len
 rw[au] at el
 refine HH pf148 ?_
 refine ab (ah (Mi0) ?_)
 refine ab (ab (ah (Mi0) ?_))
 refine eg (α:=Unit) (N:=xs.length) (λk _=>[(0,v),(1,.int .i64 x),(5,.int .i64 (k:Nat))]) (λk _ h'=>h'=h∧dK (x==·) (xs.drop k) k=dK (x==·) xs 0) () (Oi1 @bm) ⟨rfl,rfl⟩ ?_ ?_ ?_
 ·rintro k _ ts h1 hk ⟨rfl,j1⟩ ⟨e0,e1,e5,-⟩
  simp only at e0 e1 e5
  exact⟨_,(J4 e0 e5 el @bi),I0,O3 e0 e1 e5⟩
 ·rintro k _ ts h1 hk ⟨rfl,j1⟩ ⟨e0,e1,e5,-⟩
  simp only at e0 e1 e5
  obtain⟨b1,p1,a1,r1,_⟩:=hv.at1 (cF (f:=eI) hk)
  rw[fz _ hk] at j1
  have w1:=eF (k:=k) om
  refine ab (ah (M5 e0 e1 e5 a1 r1) ?_)
  refine bg (t:=decide (xs[k]=x)) (Z0) (λq=>?_) λq=>?_
  ·have q:xs[k]=x:=aF q
   rw[if_pos (by simp [q])] at j1
   refine ab (ah (M1 e5) ?_)
   exact bt ⟨.int .i64 (k:Nat),(by simp only[rs,rf148,am,aD,simprocAttr]<;>rfl),by rw[j1],rfl⟩
  ·have q:¬ xs[k]=x:=aE q
   rw[if_neg (by simpa using λe=>q (Eq.symm e))] at j1
   refine aN ⟨(),⟨rfl,j1⟩,_,(J2 e5 w1),O2 e0 e1⟩
 ·rintro _ ts h1 ⟨rfl,j1⟩ ⟨e0,e1,e5,-⟩
  rw[List.drop_length] at j1
  refine ab (ah (M0) ?_)
  exact bt ⟨.int .i64 (-1),(by simp only[rs,rf148,am,aD,simprocAttr]<;>rfl),by rw[← j1]; rfl,rfl⟩
def oS (fr:Bool) (x:Int) (e:Int×Int):Bool:=if fr then decide (e.1=x) else decide (e.2=x)
def GG (es:List (Int×Int)) (x:Int) (fr:Bool):List Int:=if fr then fW es x else eW es x
theorem Dr {es:List (Int×Int)}{x:Int}{fr:Bool}:GG es x fr=dx (oS fr x) es 0:=by
 cases fr<;>rfl
theorem BT {h:AH}{n x:Int}{ev:AV}{es:List (Int×Int)}{fr:Bool} (he:SlE h ev es) (hl:es.length<2 ^ 30):C prg 124 [.agg [.int .i64 n,ev],.int .i64 x,.bool fr] h λr h'=>IsSl h' 1 h.next r ((GG es x fr).flatMap eI)∧Ext h.next h h':=by
 have el:=he.len
 rw[au] at el
 obtain⟨ec,eo⟩:=he.cells
 refine HH pf124 ?_
 have x0:Ext h.next h (h.new (.cells [.int .i64 n,ev] 2 false)):=HD (ae _)
 have g0:(h.new (.cells [.int .i64 n,ev] 2 false)).get h.next=some (.cells [.int .i64 n,ev] 2 false):=by rw[AH.get_new,if_pos rfl]
 have n0:(h.new (.cells [.int .i64 n,ev] 2 false)).next=h.next+1:=rfl
 refine ab (ah (Mi0) ?_)
 generalize h.new (.cells [.int .i64 n,ev] 2 false)=h0 at *
 refine ab (ah (Mi0) ?_)
 have x1:Ext h0.next h0 (h0.new (.cells [] 1 false)):=HD (ae _)
 have g1:(h0.new (.cells [] 1 false)).get h0.next=some (.cells [] 1 false):=by rw[AH.get_new,if_pos rfl]
 have n1:(h0.new (.cells [] 1 false)).next=h0.next+1:=rfl
 generalize h0.new (.cells [] 1 false)=h1 at *
 have X1:=x0.trans (x1.mono om)
 refine ab (ab (ah (Mi0) ?_))
 refine eg (α:=AV) (N:=es.length) (λk a=>[(3,.ptr h.next 0),(1,.int .i64 x),(2,.bool fr),(7,a),(8,.int .i64 (k:Nat))]) (λk a h'=>IsSl h' 1 (h.next+1) a ((dx (oS fr x) (es.take k) 0).flatMap eI)∧Ext (h.next+1) h1 h') (.sl h0.next 0 0 0) (Oi1 @bm)
  ⟨.inr ⟨h0.next,0,om,rfl,g1,rfl⟩,HE⟩ ?_ ?_ ?_
 ·rintro k a ts h2 hk ⟨j1,jx⟩ ⟨e3,e1,e2,e7,e8,-⟩
  simp only at e3 e1 e2 e7 e8
  have r0:ar h2 h.next 1 1=some [ev]:=bB (by rw[jx.gt _ om,x1.gt _ om]; exact g0) rfl
  exact⟨_,(J5 e3 e8 r0 el @bi),I0,O5 e3 e1 e2 e7 e8⟩
 ·rintro k a ts h2 hk ⟨j1,jx⟩ ⟨e3,e1,e2,e7,e8,-⟩
  simp only at e3 e1 e2 e7 e8
  have X2:Ext h.next h h2:=X1.trans (jx.mono om)
  have n2:=jx.nx
  have r0:ar h2 h.next 1 1=some [ev]:=bB (by rw[jx.gt _ om,x1.gt _ om]; exact g0) rfl
  obtain⟨b1,p1,a1,_,rr,_⟩:=(he.ext X2 (ae _)).at (cF (f:=eE) hk)
  have ra:ar h2 b1 p1 1=some [.int .i64 es[k].1]:=rr 0 _ rfl
  have rb:ar h2 b1 (p1+1) 1=some [.int .i64 es[k].2]:=rr 1 _ rfl
  have w1:=eF (k:=k) om
  have hlen:(dx (oS fr x) (es.take k) 0).length≤k:=bS (gR _ _ _) (by rw[aZ]; omega)
  have hs:=lJ (oS fr x) hk
  have done:∀ ts':Tm,Held [(3,.ptr h.next 0),(1,.int .i64 x),(2,.bool fr),(7,a),(8,.int .i64 (k:Nat)),(41,.bool (oS fr x es[k]))] ts' →
   W prg (.cond (.t 41) (.reg [⟨some 42,.mov (.t 7),none,none,[]⟩,⟨some 43,.mov (.t 8),none,none,[]⟩,⟨some 44,.mksl [.int .i64 0] 1 1 [(0,1,.t 43)],none,none,[]⟩,⟨some 45,.app 1 8 (.t 42) (.t 44),none,none,[]⟩,⟨some 7,.mov (.t 45),none,none,[]⟩]) .skip) ts' h2
     (λts' h'=>∃ a',(IsSl h' 1 (h.next+1) a' ((dx (oS fr x) (es.take (k+1)) 0).flatMap eI)∧Ext (h.next+1) h1 h')∧Held [(3,.ptr h.next 0),(1,.int .i64 x),(2,.bool fr),(7,a'),(8,.int .i64 (k:Nat))] ts') (λ_ _=>False) (λ_ _ _=>False):=by
   rintro ts' ⟨f3,f1,f2,f7,f8,f41,-⟩
   simp only at f3 f1 f2 f7 f8 f41
   refine bg (t:=oS fr x es[k]) (Z1 f41) (λq=>?_) λq=>?_
   ·obtain⟨s',h3,a3,i3,x3,n3⟩:=j1.push (bytes:=8) [.int .i64 ((k:Nat):Int)] om om rfl rfl (by rw[dQ]; unfold bd; omega) (by rw[dQ]; unfold bd; omega)
    refine ah (M3 f7 f8 a3) ?_
    refine⟨s',⟨?_,jx.trans x3⟩,O4 f3 f1 f2 f8⟩
    rw[hs,if_pos q,bQ]
    exact i3
   ·refine aN ⟨a,⟨?_,jx⟩,O5 f3 f1 f2 f7 f8⟩
    rw[hs,if_neg (by simp [q])]
    exact j1
  have fin:∀ ts' h',(∃ a',(IsSl h' 1 (h.next+1) a' ((dx (oS fr x) (es.take (k+1)) 0).flatMap eI)∧Ext (h.next+1) h1 h')∧Held [(3,.ptr h.next 0),(1,.int .i64 x),(2,.bool fr),(7,a'),(8,.int .i64 (k:Nat))] ts') →
   ∃ a',(IsSl h' 1 (h.next+1) a' ((dx (oS fr x) (es.take (k+1)) 0).flatMap eI)∧Ext (h.next+1) h1 h')∧∃ ts'',iQ h'.next [⟨some 15,.mov (.t 8),none,none,[]⟩,⟨some 16,.bin .add .no (.t 15) (.c (.int .i64 1)),none,none,[]⟩,⟨some 8,.mov (.t 16),none,none,[]⟩] (some (ts',h'))=some (ts'',h')∧Held [(3,.ptr h.next 0),(1,.int .i64 x),(2,.bool fr),(7,a'),(8,.int .i64 ((k+1:Nat):Int))] ts'':=by
   rintro ts' h' ⟨a',ha,f3,f1,f2,f7,f8,-⟩
   simp only at f3 f1 f2 f7 f8
   exact⟨a',ha,_,(J2 f8 w1),O4 f3 f1 f2 f7⟩
  refine ab ?_
  cases fr with
  | true =>
    by_cases q:es[k].1=x
    ·have c1:decide (es[k].1=x)=true:=aI q
     have cE:oS true x es[k]=true:=c1
     refine ah (M10 e3 e1 e2 e8 r0 a1 ra rb c1 c1) ?_
     exact iq _ (done _ (O6 e3 e1 e2 e7 e8 cE)) fin (λ_ _ q=>q.elim) (λ_ _ _ q=>q.elim)
    ·have c1:decide (es[k].1=x)=false:=aG q
     have cE:oS true x es[k]=false:=c1
     refine ah (M10 e3 e1 e2 e8 r0 a1 ra rb c1 c1) ?_
     exact iq _ (done _ (O6 e3 e1 e2 e7 e8 cE)) fin (λ_ _ q=>q.elim) (λ_ _ _ q=>q.elim)
  | false =>
    have cE:oS false x es[k]=decide (es[k].2=x):=rfl
    refine ah (M8 e3 e1 e2 e8 r0 a1 ra rb) ?_
    exact iq _ (done _ (O6 e3 e1 e2 e7 e8 cE)) fin (λ_ _ q=>q.elim) (λ_ _ _ q=>q.elim)
 ·rintro a ts h2 ⟨j1,jx⟩ ⟨e3,e1,e2,e7,e8,-⟩
  simp only at e3 e1 e2 e7 e8
  rw[bp] at j1
  refine ab (ah (M1 e7) ?_)
  exact bt ⟨a,(by simp only[rs,rf124,am,aD,simprocAttr]<;>rfl),by rw[Dr]; exact j1.mono om,X1.trans (jx.mono om)⟩
open Go.Am
def kY (L nx:List Bool) (e:Int×Int):List Bool:=if L.getD e.1.toNat false&&L.getD e.2.toNat false then nx.set e.2.toNat true else nx
def rnd (n:Nat) (es:List (Int×Int)) (L:List Bool):List Bool:=es.foldl (kY L) (List.replicate n false)
def dl (n:Nat) (es:List (Int×Int)):Nat→List Bool
 | 0=>List.replicate n true
 | k+1=>rnd n es (dl n es k)
theorem uD {L nx:List Bool}{e:Int×Int}:(kY L nx e).length=nx.length:=by
 unfold kY
 split<;>simp
theorem qb {L:List Bool}:∀ (es:List (Int×Int)) (nx:List Bool),(es.foldl (kY L) nx).length=nx.length
 | [],nx=>rfl
 | e::r,nx=>by rw[eT,qb r,uD]
theorem vD {L:List Bool}:∀ (es:List (Int×Int)) (nx:List Bool) (v:Nat),v<nx.length →
 ((es.foldl (kY L) nx).getD v false=true↔nx.getD v false=true∨∃ e∈es,L.getD e.1.toNat false=true∧L.getD e.2.toNat false=true∧e.2.toNat=v)
 | [],nx,v,h=>by simp
 | e::r,nx,v,h=>by
   rw[eT,vD r _ v (by rw[uD]; exact h)]
   unfold kY
   by_cases q:(L.getD e.1.toNat false&&L.getD e.2.toNat false)=true
   ·rw[if_pos q]
    rw[aq] at q
    by_cases qe:e.2.toNat=v
    ·have:(nx.set e.2.toNat true).getD v false=true:=by
      rw[aL,qe,eA h]; rfl
     constructor
     ·intro _
      exact .inr ⟨e,aY ..,q.1,q.2,qe⟩
     ·intro _
      exact .inl this
    ·have:(nx.set e.2.toNat true).getD v false=nx.getD v false:=by
      rw[aL,dq qe,aL]
     rw[this]
     constructor
     ·rintro (h1|⟨e',h1,h2⟩)
      ·exact .inl h1
      ·exact .inr ⟨e',bw _ h1,h2⟩
     ·rintro (h1|⟨e',h1,h2,h3,h4⟩)
      ·exact .inl h1
      ·rcases aC.1 h1 with rfl|h1
       ·exact absurd h4 qe
       ·exact .inr ⟨e',h1,h2,h3,h4⟩
   ·rw[if_neg q]
    constructor
    ·rintro (h1|⟨e',h1,h2⟩)
     ·exact .inl h1
     ·exact .inr ⟨e',bw _ h1,h2⟩
    ·rintro (h1|⟨e',h1,h2,h3,h4⟩)
     ·exact .inl h1
     ·rcases aC.1 h1 with rfl|h1
      ·exact absurd (by rw[h2,h3]; rfl) q
      ·exact .inr ⟨e',h1,h2,h3,h4⟩
theorem gM (n:Nat) (es:List (Int×Int)):∀ k,(dl n es k).length=n
 | 0=>by simp [dl]
 | k+1=>by rw[dl,rnd,qb,cD]
def lk (n:Nat) (es:List (Int×Int)) (k v:Nat):Bool:=(dl n es k).getD v false
theorem yy {n:Nat}{es:List (Int×Int)}{v:Nat} (h:v<n):lk n es 0 v=true:=by
 unfold lk dl
 rw[aL,cP,if_pos h]
 rfl
theorem GD {n:Nat}{es:List (Int×Int)}{k v:Nat} (h:¬ v<n):lk n es k v=false:=by
 unfold lk
 rw[aL,bI (by rw[gM]; omega)]
 rfl
theorem pk {n:Nat}{es:List (Int×Int)}{k v:Nat} (h:v<n):lk n es (k+1) v=true↔∃ e∈es,lk n es k e.1.toNat=true∧lk n es k e.2.toNat=true∧e.2.toNat=v:=by
 unfold lk
 rw[dl,rnd,vD _ _ _ (by rw[cD]; exact h)]
 rw[aL,cP,if_pos h]
 simp
theorem yz {n:Nat}{es:List (Int×Int)}{k v:Nat} (h:lk n es (k+1) v=true):lk n es k v=true:=by
 by_cases hv:v<n
 ·obtain⟨e,_,_,h2,rfl⟩:=(pk hv).1 h
  exact h2
 ·rw[GD hv] at h
  cases h
theorem Fq {n:Nat}{es:List (Int×Int)} (he:es.all (okE n)=true) {e:Int×Int} (hm:e∈es):∀ k,lk n es k e.1.toNat=true→lk n es (k+1) e.2.toNat=true:=by
 have hr:=lv (bA.1 he e hm)
 intro k
 induction k with
 | zero=>exact λh=>(pk om).2 ⟨e,hm,h,yy om,rfl⟩
 | succ k ih=>exact λh=>(pk om).2 ⟨e,hm,h,ih (yz h),rfl⟩
theorem cnt_le:∀ (a b:List Bool),a.length=b.length→(∀ i:Nat,a.getD i false=true→b.getD i false=true)→a.count true≤b.count true∧(a.count true=b.count true→a=b)
 | [],[],_,_=>⟨ae _,λ_=>rfl⟩
 | [],_::_,h,_=>by simp at h
 | _::_,[],h,_=>by simp at h
 | x::a,y::b,h,hi=>by
   obtain⟨h1,h2⟩:=cnt_le a b (by simpa using h) λi hh=>by
    have:=hi (i+1)
    simp only[List.getD_cons_succ] at this
    exact this hh
   have h0:=hi 0
   simp only[List.getD_cons_zero] at h0
   cases x<;>cases y<;>simp only[qL,beq_true,beq_false,wl,Bool.not_false,bF,if_true,if_false] at *
   ·exact⟨om,λq=>by rw[h2 om]⟩
   ·exact⟨om,λq=>by omega⟩
   ·exact absurd (h0 trivial) (by simp)
   ·exact⟨om,λq=>by rw[h2 om]⟩
theorem vk (n:Nat) (es:List (Int×Int)):dl n es (n+1)=dl n es n:=by
 have hle:∀ k,(dl n es (k+1)).count true≤(dl n es k).count true∧((dl n es (k+1)).count true=(dl n es k).count true→dl n es (k+1)=dl n es k):=λk =>
  cnt_le _ _ (by rw[gM,gM]) λi h=>yz h
 have key:∀ k,(dl n es k).count true+k≤n∨dl n es (k+1)=dl n es k:=by
  intro k
  induction k with
  | zero =>
    left
    have:=tZ (a:=true) (l:=dl n es 0)
    rw[gM] at this
    omega
  | succ k ih =>
    rcases ih with h|h
    ·by_cases q:dl n es (k+1)=dl n es k
     ·right
      rw[dl,q]
      exact q
     ·left
      have:=hle k
      have h3:(dl n es (k+1)).count true≠(dl n es k).count true:=λe=>q (this.2 e)
      omega
    ·right
     rw[dl,h]
     exact h
 rcases key n with h|h
 ·exact (hle n).2 (by have:=(hle n).1; omega)
 ·exact h
theorem rV {n:Nat}{es:List (Int×Int)}{v:Nat} (h:lk n es n v=true):∃ e∈es,lk n es n e.1.toNat=true∧e.2.toNat=v:=by
 by_cases hv:v<n
 ·have:lk n es (n+1) v=true:=by unfold lk; rw[vk]; exact h
  obtain⟨e,h1,h2,_,h4⟩:=(pk hv).1 this
  exact⟨e,h1,h2,h4⟩
 ·rw[GD hv] at h
  cases h
theorem CH {n:Nat}{es:List (Int×Int)} (he:es.all (okE n)=true):(∀ v,v<n→lk n es n v=false)↔Acy es:=by
 constructor
 ·intro h
  refine⟨λx=>(List.range (n+1)).countP λk=>lk n es k x.toNat,λe hm=>?_⟩
  have hr:=lv (bA.1 he e hm)
  have h1:((List.range (n+1)).countP λk=>lk n es k e.1.toNat)=(List.range n).countP λk=>lk n es k e.1.toNat:=by
   rw[cJ,List.countP_append,fj,h _ om]
   simp
  have h2:((List.range (n+1)).countP λk=>lk n es k e.2.toNat)=1+(List.range n).countP λk=>lk n es (k+1) e.2.toNat:=by
   rw[List.range_succ_eq_map,fj,List.countP_map,yy om]
   simp only[if_true]
   rw[Nat.add_comm]
   rfl
  have h3:((List.range n).countP λk=>lk n es k e.1.toNat)≤(List.range n).countP λk=>lk n es (k+1) e.2.toNat:=List.countP_mono_left λk _ hk=>Fq he hm k hk
  show ((List.range (n+1)).countP λk=>lk n es k e.1.toNat)<((List.range (n+1)).countP λk=>lk n es k e.2.toNat)
  omega
 ·rintro⟨rank,hr⟩
  have key:∀ m v,v<n→rank v=m→lk n es n v=false:=by
   intro m
   induction m using Nat.strongRecOn with
   | _ m ih =>
     intro v hv hm
     cases hb:lk n es n v with
     | false=>rfl
     | true =>
       exfalso
       obtain⟨e,h1,h2,h3⟩:=rV hb
       have hin:=lv (bA.1 he e h1)
       have hlt:=hr e h1
       have e2:e.2=((v:Nat):Int):=om
       have e1:e.1=((e.1.toNat:Nat):Int):=om
       rw[e2,hm,e1] at hlt
       have:=ih _ hlt e.1.toNat om rfl
       rw[this] at h2
       cases h2
  exact λv hv=>key _ v hv rfl
def bls (L:List Bool):List AV:=L.map AV.bool
theorem yM (L:List Bool):(bls L).length=L.length:=by simp [bls]
theorem yL (L:List Bool) (i:Nat) (b:Bool):(bls L).set i (.bool b)=bls (L.set i b):=by simp [bls,AU]
theorem xN {L:List Bool}{i:Nat} (h:i<L.length):(bls L)[i]?=some (.bool (L.getD i false)):=by
 unfold bls
 rw[be,aw h,aL,aw h]
 rfl
theorem Gf (n:Nat):cm [.bool false] n=bls (List.replicate n false):=by
 rw[gf]; simp [bls]
theorem rR {h:AH}{n:Nat} (hn:n≤64):vd h [.bool false] 1 1 (.int .i64 (n:Nat)) (.int .i64 (n:Nat))=some (.sl h.next 0 n n,h.new (.cells (bls (List.replicate n false)) 1 false)):=by
 rw[ly (by unfold bd; omega) (by unfold bd; omega),Gf]
theorem BQ {h:AH}{n:Nat}{ev:AV}{es:List (Int×Int)} (he:SlE h ev es) (hm:eV (n:Nat) es=true) :
 C prg 147 [.agg [.int .i64 (n:Nat),ev]] h λr h'=>∃ lb,h.next≤lb∧r=.sl lb 0 n n∧h'.get lb=some (.cells (bls (dl n es n)) 1 false)∧Ext h.next h h':=by
 obtain⟨m1,m2,m3,m4⟩:=kz hm
 have el:=he.len
 rw[au] at el
 obtain⟨ec,eo⟩:=he.cells
 refine HH pf147 ?_
 have x0:Ext h.next h (h.new (.cells [.int .i64 (n:Nat),ev] 2 false)):=HD (ae _)
 have g0:(h.new (.cells [.int .i64 (n:Nat),ev] 2 false)).get h.next=some (.cells [.int .i64 (n:Nat),ev] 2 false):=by rw[AH.get_new,if_pos rfl]
 have n0:(h.new (.cells [.int .i64 (n:Nat),ev] 2 false)).next=h.next+1:=rfl
 refine ab (ah (Mi0) ?_)
 generalize h.new (.cells [.int .i64 (n:Nat),ev] 2 false)=h0 at *
 have r0:ar h0 h.next 0 1=some [.int .i64 (n:Nat)]:=bB g0 rfl
 refine ab (ah (by simp only[am,aD,simprocAttr,bL,r0,rR m2]<;>rfl) ?_)
 have x1:Ext h0.next h0 (h0.new (.cells (bls (List.replicate n false)) 1 false)):=HD (ae _)
 have g1:(h0.new (.cells (bls (List.replicate n false)) 1 false)).get h0.next=some (.cells (bls (List.replicate n false)) 1 false):=by rw[AH.get_new,if_pos rfl]
 have n1:(h0.new (.cells (bls (List.replicate n false)) 1 false)).next=h0.next+1:=rfl
 generalize h0.new (.cells (bls (List.replicate n false)) 1 false)=h1 at *
 have G1:h1.get h.next=some (.cells [.int .i64 (n:Nat),ev] 2 false):=by rw[x1.gt _ om]; exact g0
 refine ab (ab (ah (Mi0) ?_))
 have rGn:∀ {h':AH},h'.get h.next=some (.cells [.int .i64 (n:Nat),ev] 2 false)→ar h' h.next 0 1=some [.int .i64 (n:Nat)]:=λhg=>bB hg rfl
 have rGe:∀ {h':AH},h'.get h.next=some (.cells [.int .i64 (n:Nat),ev] 2 false)→ar h' h.next 1 1=some [ev]:=λhg=>bB hg rfl
 refine eg (α:=List Bool) (N:=n) (λk a=>[(1,.ptr h.next 0),(3,.sl h0.next 0 n n),(4,.int .i64 (k:Nat))]) (λk a h'=>h'.get h0.next=some (.cells (bls a) 1 false)∧a.length=n∧(∀ v,v<k→a[v]?=some true)∧Ext h0.next h0 h'∧h1.next≤h'.next) (List.replicate n false) (Hi1 @bm)
  ⟨g1,by simp,λv hv=>absurd hv om,x1,ae _⟩ ?_ ?_ ?_
 ·rintro k a ts h2 hk ⟨j1,j2,j3,jx,jn⟩ ⟨e1,e3,e4,-⟩
  simp only at e1 e3 e4
  have rg:=rGn (h':=h2) (by rw[jx.gt _ om]; exact g0)
  exact⟨_,(M4 e1 e4 rg @bi),Z0,H3 e1 e3 e4⟩
 ·rintro k a ts h2 hk ⟨j1,j2,j3,jx,jn⟩ ⟨e1,e3,e4,-⟩
  simp only at e1 e3 e4
  have ik:bN ((k:Nat):Int) n=some k:=aO hk
  have w2:bV h2 h0.next k [.bool true]=some (h2.put h0.next (.cells (bls (a.set k true)) 1 false)):=by rw[dW j1 (by rw[yM]; omega),yL]
  have w1:=eF (k:=k) om
  refine ah (M5 e3 e4 ik @ai w2) ?_
  have u:=HF (o:=.cells (bls (a.set k true)) 1 false) j1
  refine⟨a.set k true,⟨u.get,by rw[ce,j2],λv hv=>?_,jx.trans (u.ext (ae _)),jn⟩,_,(M2 e4 w1),H2 e1 e3⟩
  by_cases e:k=v
  ·subst e
   rw[eA om]
  ·rw[dq e]
   exact j3 v om
 ·rintro a ts h2 ⟨j1,j2,j3,jx,jn⟩ ⟨e1,e3,e4,-⟩
  simp only at e1 e3
  have ha:a=dl n es 0:=by
   refine dD λv=>?_
   unfold dl
   rw[cP]
   split
   ·exact j3 v om
   ·exact bI om
  subst ha
  have X2:Ext h.next h h2:=x0.trans (jx.mono om)
  have jxn:=jx.nx
  refine ab (ab (ah (M0) ?_))
  refine eg (α:=Nat) (N:=n) (λk a=>[(1,.ptr h.next 0),(3,.sl a 0 n n),(5,.int .i64 (k:Nat))]) (λk a h'=>h'.get a=some (.cells (bls (dl n es k)) 1 false)∧h.next<a∧Ext (h.next+1) h0 h') h0.next (H3 e1 e3 @bm)
   ⟨j1,om,jx.mono om⟩ ?_ ?_ ?_
  ·rintro k a ts h3 hk ⟨j1,j2,jx⟩ ⟨e1,e3,e5,-⟩
   simp only at e1 e3 e5
   have rg:=rGn (h':=h3) (by rw[jx.gt _ om]; exact g0)
   exact⟨_,(M4 e1 e5 rg @bi),Z0,H3 e1 e3 e5⟩
  ·rintro k a ts h3 hk ⟨j1,j2,jx⟩ ⟨e1,e3,e5,-⟩
   simp only at e1 e3 e5
   have hG3:h3.get h.next=some (.cells [.int .i64 (n:Nat),ev] 2 false):=by rw[jx.gt _ om]; exact g0
   have rg:=rGn hG3
   have al:=AH.lt_of_get j1
   refine ab (ah (by simp only[am,aD,simprocAttr,e1,rg,rR m2]<;>rfl) ?_)
   have x4:Ext h3.next h3 (h3.new (.cells (bls (List.replicate n false)) 1 false)):=HD (ae _)
   have g4:(h3.new (.cells (bls (List.replicate n false)) 1 false)).get h3.next=some (.cells (bls (List.replicate n false)) 1 false):=by rw[AH.get_new,if_pos rfl]
   have n4:(h3.new (.cells (bls (List.replicate n false)) 1 false)).next=h3.next+1:=rfl
   generalize h3.new (.cells (bls (List.replicate n false)) 1 false)=h4 at *
   have n3:=jx.nx
   refine ab (ab (ah (M0) ?_))
   refine eg (α:=Unit) (N:=es.length) (λj _=>[(1,.ptr h.next 0),(3,.sl a 0 n n),(5,.int .i64 (k:Nat)),(6,.sl h3.next 0 n n),(7,.int .i64 (j:Nat))]) (λj _ h'=>h'.get h3.next=some (.cells (bls ((es.take j).foldl (kY (dl n es k)) (List.replicate n false))) 1 false)∧Ext h3.next h3 h'∧h4.next≤h'.next) () (H4 e1 e3 e5 @bm)
    ⟨g4,x4,ae _⟩ ?_ ?_ ?_
   ·rintro j _ ts h5 hj ⟨i1,ix,inx⟩ ⟨e1,e3,e5,e6,e7,-⟩
    simp only at e1 e3 e5 e6 e7
    have rg:=rGe (h':=h5) (by rw[ix.gt _ om]; exact hG3)
    exact⟨_,(M5 e1 e7 rg el @bi),Z0,H5 e1 e3 e5 e6 e7⟩
   ·rintro j _ ts h5 hj ⟨i1,ix,inx⟩ ⟨e1,e3,e5,e6,e7,-⟩
    simp only at e1 e3 e5 e6 e7
    have rg:=rGe (h':=h5) (by rw[ix.gt _ om]; exact hG3)
    have X5:Ext h.next h h5:=x0.trans ((jx.mono om).trans (ix.mono om))
    obtain⟨b1,p1,a1,r4,_⟩:=(he.ext X5 (ae _)).at (cF (f:=eE) hj)
    obtain⟨h6,w6,x6,g6,n6⟩:=ij (h:=h5) (z:=[.int .i64 0,.int .i64 0]) (cs:=[.int .i64 es[j].1,.int .i64 es[j].2]) (e:=2) rfl
    refine ab (ah (by simp only[am,aD,simprocAttr,e1,e7,rg,a1,r4,eE,w6]<;>rfl) ?_)
    obtain⟨ea,eb,hab,ha,hb⟩:=lR (bA.1 m4 _ (bq hj))
    have ra:ar h6 h5.next 0 1=some [.int .i64 (ea:Nat)]:=bB g6 (by rw[hab]; rfl)
    have rb:ar h6 h5.next 1 1=some [.int .i64 (eb:Nat)]:=bB g6 (by rw[hab]; rfl)
    have ia:bN ((ea:Nat):Int) n=some ea:=aO ha
    have ib:bN ((eb:Nat):Int) n=some eb:=aO hb
    have hL6:h6.get a=some (.cells (bls (dl n es k)) 1 false):=by rw[x6.gt _ om,ix.gt _ al]; exact j1
    have la:ar h6 a ea 1=some [.bool ((dl n es k).getD ea false)]:=bB hL6 (xN (by rw[gM]; exact ha))
    have lb:ar h6 a eb 1=some [.bool ((dl n es k).getD eb false)]:=bB hL6 (xN (by rw[gM]; exact hb))
    have w1:=eF (k:=j) om
    have hstep:(es.take (j+1)).foldl (kY (dl n es k)) (List.replicate n false)=kY (dl n es k) ((es.take j).foldl (kY (dl n es k)) (List.replicate n false)) es[j]:=by
     rw[aK hj,eO]
     rfl
    have hsv:kY (dl n es k) ((es.take j).foldl (kY (dl n es k)) (List.replicate n false)) es[j]=if (dl n es k).getD ea false&&(dl n es k).getD eb false then ((es.take j).foldl (kY (dl n es k)) (List.replicate n false)).set eb true else (es.take j).foldl (kY (dl n es k)) (List.replicate n false):=by
     unfold kY
     rw[hab]
     simp only[bK]
    rw[hsv] at hstep
    have hN6:h6.get h3.next=some (.cells (bls ((es.take j).foldl (kY (dl n es k)) (List.replicate n false))) 1 false):=by rw[x6.gt _ om]; exact i1
    have ix6:Ext h3.next h3 h6:=ix.trans (x6.mono ix.nx)
    cases q1:(dl n es k).getD ea false with
    | false =>
      rw[q1] at la hstep
      refine ab (ah (by simp only[am,aD,simprocAttr,e3,ra,ia,la,ai]<;>rfl) ?_)
      refine cU (Z0) (aN ⟨(),⟨?_,ix6,om⟩,_,(M2 e7 w1),H4 e1 e3 e5 e6⟩)
      rw[hstep]
      exact hN6
    | true =>
      rw[q1] at la hstep
      refine ab (ah (by simp only[am,aD,simprocAttr,e3,ra,ia,la,rb,ib,lb,ai]<;>rfl) ?_)
      cases q2:(dl n es k).getD eb false with
      | false =>
        rw[q2] at hstep
        refine cU (Z0) (aN ⟨(),⟨?_,ix6,om⟩,_,(M2 e7 w1),H4 e1 e3 e5 e6⟩)
        rw[hstep]
        exact hN6
      | true =>
        rw[q2] at hstep
        have w7:bV h6 h3.next eb [.bool true]=some (h6.put h3.next (.cells (bls (((es.take j).foldl (kY (dl n es k)) (List.replicate n false)).set eb true)) 1 false)):=by
         rw[dW hN6 (by rw[yM,qb,cD]; exact hb),yL]
        have u:=HF (o:=.cells (bls (((es.take j).foldl (kY (dl n es k)) (List.replicate n false)).set eb true)) 1 false) hN6
        refine dv (Z0) (ah (M5 e6 rb ib @ai w7) ?_)
        refine⟨(),⟨?_,ix6.trans (u.ext (ae _)),by rw[AH.next_put]; omega⟩,_,(M2 e7 w1),H4 e1 e3 e5 e6⟩
        rw[hstep]
        exact u.get
   ·rintro _ ts h5 ⟨i1,ix,inx⟩ ⟨e1,e3,e5,e6,e7,-⟩
    simp only at e1 e3 e5 e6
    rw[bp] at i1
    have w1:=eF (k:=k) om
    refine ah (M1 e6) ?_
    exact⟨h3.next,⟨i1,om,jx.trans (ix.mono om)⟩,_,(M2 e5 w1),H1 e1⟩
  ·rintro a ts h3 ⟨j1,j2,jx⟩ ⟨e1,e3,e5,-⟩
   simp only at e1 e3
   refine ab (ah (M1 e3) ?_)
   exact bt ⟨.sl a 0 n n,(by simp only[rs,rf147,am,aD,simprocAttr]<;>rfl),a,om,rfl,j1,x0.trans (jx.mono om)⟩
open Go.Am
theorem uE {h:AH}{n:Int}{ev:AV}{es:List (Int×Int)} (he:SlE h ev es):C prg 50 [.agg [.int .i64 n,ev]] h λr h'=>r=.bool (eV n es)∧Ext h.next h h':=by
 have el:=he.len
 rw[au] at el
 obtain⟨ec,eo⟩:=he.cells
 refine HH pf50 ?_
 have x0:Ext h.next h (h.new (.cells [.int .i64 n,ev] 2 false)):=HD (ae _)
 have g0:(h.new (.cells [.int .i64 n,ev] 2 false)).get h.next=some (.cells [.int .i64 n,ev] 2 false):=by rw[AH.get_new,if_pos rfl]
 have n0:(h.new (.cells [.int .i64 n,ev] 2 false)).next=h.next+1:=rfl
 refine ab (ah (Mi0) ?_)
 generalize h.new (.cells [.int .i64 n,ev] 2 false)=h0 at *
 have rn:ar h0 h.next 0 1=some [.int .i64 n]:=bB g0 rfl
 have re:ar h0 h.next 1 1=some [ev]:=bB g0 rfl
 by_cases q1:n<1
 ·have c1:decide (n<1)=true:=aI q1
  have hB:eV n es=false:=by
   have:decide (1≤n)=false:=aG om
   simp only[eV,this,gX]
  refine ab (ab (ah (Mi2 rn c1) ?_))
  refine dv (Z0) (ab (ah (M0) ?_))
  exact bt ⟨.bool false,(by simp only[rs,rf50,am,aD,simprocAttr]<;>rfl),by rw[hB],x0⟩
 have c1:decide (n<1)=false:=aG q1
 by_cases q2:64<n
 ·have c2:decide (64<n)=true:=aI q2
  have hB:eV n es=false:=by
   have:decide (n≤64)=false:=aG om
   simp only[eV,this,gY,gX]
  refine ab (ab (ah (Mi3 rn c1 c2) ?_))
  refine dv (Z0) (ab (ah (M0) ?_))
  exact bt ⟨.bool false,(by simp only[rs,rf50,am,aD,simprocAttr]<;>rfl),by rw[hB],x0⟩
 have c2:decide (64<n)=false:=aG q2
 by_cases q3:128<es.length
 ·have c3:decide ((128:Int)<((es.length:Nat):Int))=true:=aI om
  have hB:eV n es=false:=by
   have:decide (es.length≤128)=false:=aG om
   simp only[eV,this,gY,gX]
  refine ab (ab (ah (Mi6 rn re el c1 c2 c3) ?_))
  refine dv (Z0) (ab (ah (M0) ?_))
  exact bt ⟨.bool false,(by simp only[rs,rf50,am,aD,simprocAttr]<;>rfl),by rw[hB],x0⟩
 have c3:decide ((128:Int)<((es.length:Nat):Int))=false:=aG om
 have hB:eV n es=es.all (okE n):=by
  have d1:decide (1≤n)=true:=aI om
  have d2:decide (n≤64)=true:=aI om
  have d3:decide (es.length≤128)=true:=aI om
  simp only[eV,d1,d2,d3,wk]
 refine ab (ab (ah (Mi6 rn re el c1 c2 c3) ?_))
 refine cU (Z0) (aN ?_)
 refine ab (ab (ah (M0) ?_))
 refine eg (α:=Unit) (N:=es.length) (λk _=>[(1,.ptr h.next 0),(3,.int .i64 (k:Nat))]) (λk _ h'=>Ext (h.next+1) h0 h'∧(es.take k).all (okE n)=true) () (Oi1 @bm) ⟨HE,rfl⟩ ?_ ?_ ?_
 ·rintro k _ ts h1 hk ⟨jx,j1⟩ ⟨e1,e3,-⟩
  simp only at e1 e3
  have re1:ar h1 h.next 1 1=some [ev]:=by rw[cy (jx.gt _ om)]; exact re
  exact⟨_,(J5 e1 e3 re1 el @bi),I0,O2 e1 e3⟩
 ·rintro k _ ts h1 hk ⟨jx,j1⟩ ⟨e1,e3,-⟩
  simp only at e1 e3
  have re1:ar h1 h.next 1 1=some [ev]:=by rw[cy (jx.gt _ om)]; exact re
  have jn:=jx.nx
  have X1:Ext h.next h h1:=x0.trans (jx.mono om)
  obtain⟨b1,p1,a1,r4,_⟩:=(he.ext X1 (ae _)).at (cF (f:=eE) hk)
  obtain⟨h2,w2,x2,g2,n2⟩:=ij (h:=h1) (z:=[.int .i64 0,.int .i64 0]) (cs:=[.int .i64 es[k].1,.int .i64 es[k].2]) (e:=2) rfl
  refine ab (ah (by simp only[am,aD,simprocAttr,e1,e3,re1,a1,r4,eE,w2]<;>rfl) ?_)
  have ra:ar h2 h1.next 0 1=some [.int .i64 es[k].1]:=bB g2 rfl
  have rb:ar h2 h1.next 1 1=some [.int .i64 es[k].2]:=bB g2 rfl
  have rn2:ar h2 h.next 0 1=some [.int .i64 n]:=by rw[cy (x2.gt _ om),cy (jx.gt _ om)]; exact rn
  have w1:=eF (k:=k) om
  have Y2:Ext (h.next+1) h0 h2:=jx.trans (x2.mono om)
  have X2:Ext h.next h h2:=X1.trans (x2.mono X1.nx)
  have bad:okE n es[k]=false→eV n es=false:=λhb=>by
   rw[hB]
   cases hh:es.all (okE n) with
   | false=>rfl
   | true=>rw[bA.1 hh _ (bq hk)] at hb; cases hb
  by_cases p1:es[k].1<0
  ·have d1:decide (es[k].1<0)=true:=aI p1
   have hb:=bad (by have:decide (0≤es[k].1)=false:=aG om
                    simp only[okE,this,gX])
   refine ab (ah (M2 ra d1) ?_)
   refine dv (Z0) (ab (ah (M0) ?_))
   exact bt ⟨.bool false,(by simp only[rs,rf50,am,aD,simprocAttr]<;>rfl),by rw[hb],X2⟩
  have d1:decide (es[k].1<0)=false:=aG p1
  by_cases p2:es[k].2<0
  ·have d2:decide (es[k].2<0)=true:=aI p2
   have hb:=bad (by have:decide (0≤es[k].2)=false:=aG om
                    simp only[okE,this,gX,gY])
   refine ab (ah (M4 ra rb d1 d2) ?_)
   refine dv (Z0) (ab (ah (M0) ?_))
   exact bt ⟨.bool false,(by simp only[rs,rf50,am,aD,simprocAttr]<;>rfl),by rw[hb],X2⟩
  have d2:decide (es[k].2<0)=false:=aG p2
  by_cases p3:n≤es[k].1
  ·have d3:decide (n≤es[k].1)=true:=aI p3
   have hb:=bad (by have:decide (es[k].1<n)=false:=aG om
                    simp only[okE,this,gX,gY])
   refine ab (ah (M7 ra rb rn2 e1 d1 d2 d3) ?_)
   refine dv (Z0) (ab (ah (M0) ?_))
   exact bt ⟨.bool false,(by simp only[rs,rf50,am,aD,simprocAttr]<;>rfl),by rw[hb],X2⟩
  have d3:decide (n≤es[k].1)=false:=aG p3
  by_cases p4:n≤es[k].2
  ·have d4:decide (n≤es[k].2)=true:=aI p4
   have hb:=bad (by have:decide (es[k].2<n)=false:=aG om
                    simp only[okE,this,gY])
   refine ab (ah (M8 ra rb rn2 e1 d1 d2 d3 d4) ?_)
   refine dv (Z0) (ab (ah (M0) ?_))
   exact bt ⟨.bool false,(by simp only[rs,rf50,am,aD,simprocAttr]<;>rfl),by rw[hb],X2⟩
  have d4:decide (n≤es[k].2)=false:=aG p4
  refine ab (ah (M8 ra rb rn2 e1 d1 d2 d3 d4) ?_)
  refine cU (I0) (aN ⟨(),⟨Y2,?_⟩,_,(J2 e3 w1),O1 e1⟩)
  rw[aK hk,List.all_append,j1]
  have f1:decide (0≤es[k].1)=true:=aI om
  have f2:decide (0≤es[k].2)=true:=aI om
  have f3:decide (es[k].1<n)=true:=aI om
  have f4:decide (es[k].2<n)=true:=aI om
  simp only[iH,AY,okE,f1,f2,f3,f4,Bool.and_self]
 ·rintro _ ts h1 ⟨jx,j1⟩ ⟨e1,e3,-⟩
  rw[bp] at j1
  refine ab (ah (M0) ?_)
  exact bt ⟨.bool true,(by simp only[rs,rf50,am,aD,simprocAttr]<;>rfl),by rw[hB,j1],x0.trans (jx.mono (by have:=x0.nx; omega))⟩
theorem Fa {h:AH}{n:Int}{ev:AV}{es:List (Int×Int)} (he:SlE h ev es) (_:es.length<2 ^ 40):C prg 50 [.agg [.int .i64 n,ev]] h λr h'=>r=.bool (eV n es)∧Ext h.next h h':=uE he
theorem BV {h:AH}{n:Nat}{ev:AV}{es:List (Int×Int)} (he:SlE h ev es) (hl:es.length<2 ^ 30) (hn:n≤64):C prg 71 [.agg [.int .i64 (n:Nat),ev],.bool true] h λr h'=>IsSl h' 1 h.next r ((iR n es).flatMap eI)∧Ext h.next h h':=by
 obtain⟨ec,eo⟩:=he.cells
 refine HH pf71 ?_
 have x0:Ext h.next h (h.new (.cells [.int .i64 (n:Nat),ev] 2 false)):=HD (ae _)
 have g0:(h.new (.cells [.int .i64 (n:Nat),ev] 2 false)).get h.next=some (.cells [.int .i64 (n:Nat),ev] 2 false):=by rw[AH.get_new,if_pos rfl]
 have n0:(h.new (.cells [.int .i64 (n:Nat),ev] 2 false)).next=h.next+1:=rfl
 refine ab (ah (Mi0) ?_)
 generalize h.new (.cells [.int .i64 (n:Nat),ev] 2 false)=h0 at *
 refine ab (ah (Mi0) ?_)
 have x1:Ext h0.next h0 (h0.new (.cells [] 1 false)):=HD (ae _)
 have g1:(h0.new (.cells [] 1 false)).get h0.next=some (.cells [] 1 false):=by rw[AH.get_new,if_pos rfl]
 have n1:(h0.new (.cells [] 1 false)).next=h0.next+1:=rfl
 generalize h0.new (.cells [] 1 false)=h1 at *
 have X1:=x0.trans (x1.mono om)
 refine ab (ab (ah (Mi0) ?_))
 have hsucc:∀ k,iR (k+1) es=if (eW es ((k:Nat):Int)).length=0 then iR k es++[((k:Nat):Int)] else iR k es:=λk=>by
  unfold iR
  rw[cJ,ft,pg]
  by_cases q:(eW es ((k:Nat):Int)).length=0
  ·rw[if_pos (by simpa using q),if_pos q]; simp
  ·rw[if_neg (by simpa using q),if_neg q]; simp
 have hle:∀ k,(iR k es).length≤k:=λk=>by
  unfold iR
  rw[au]
  exact bS (da _ _) (by simp)
 refine eg (α:=AV) (N:=n) (λk a=>[(2,.ptr h.next 0),(1,.bool true),(5,a),(6,.int .i64 (k:Nat))]) (λk a h'=>IsSl h' 1 (h.next+1) a ((iR k es).flatMap eI)∧Ext (h.next+1) h1 h') (.sl h0.next 0 0 0) (Oi1 @bm)
  ⟨.inr ⟨h0.next,0,om,rfl,g1,rfl⟩,HE⟩ ?_ ?_ ?_
 ·rintro k a ts h2 hk ⟨j1,jx⟩ ⟨e2,e1,e5,e6,-⟩
  simp only at e2 e1 e5 e6
  have rn:ar h2 h.next 0 1=some [.int .i64 (n:Nat)]:=bB (by rw[jx.gt _ om,x1.gt _ om]; exact g0) rfl
  exact⟨_,(J4 e2 e6 rn @bi),I0,O4 e2 e1 e5 e6⟩
 ·rintro k a ts h2 hk ⟨j1,jx⟩ ⟨e2,e1,e5,e6,-⟩
  simp only at e2 e1 e5 e6
  have jn:=jx.nx
  have X2:Ext h.next h h2:=X1.trans (jx.mono om)
  have rg:ar h2 h.next 0 2=some [.int .i64 (n:Nat),ev]:=by rw[aS (by rw[jx.gt _ om,x1.gt _ om]; exact g0)]; rfl
  have w1:=eF (k:=k) om
  refine ab (aX (aP 4 (M4 e2 e1 e6 rg) rfl (Z4 e2 e1 e6 rg) (M4 e2 e1 e6 rg) (BT (x:=((k:Nat):Int)) (fr:=false) (he.ext X2 (ae _)) hl) λr h3 hq=>?_))
  obtain⟨i3,x3⟩:=hq
  have s3:SlI h3 r (eW es ((k:Nat):Int)):=HB om (λ_=>rfl) i3
  have l3:=s3.len
  rw[au] at l3
  refine aW (M1 l3) ?_
  have j3:=j1.ext x3 (ae _)
  have Y3:Ext (h.next+1) h1 h3:=jx.trans (x3.mono om)
  refine bg (t:=decide ((eW es ((k:Nat):Int)).length=0)) (by simp only[am,aD,simprocAttr]; exact congrArg AV.bool (by simp only[decide_eq_decide]; omega)) (λq=>?_) λq=>?_
  ·have q:(eW es ((k:Nat):Int)).length=0:=aF q
   have hk2:=hle k
   have n3:=x3.nx
   obtain⟨s',h4,a4,i4,x4,n4⟩:=j3.push (bytes:=8) [.int .i64 ((k:Nat):Int)] om om rfl rfl (by rw[dQ]; unfold bd; omega) (by rw[dQ]; unfold bd; omega)
   refine ah (M3 e5 e6 a4) ?_
   refine⟨s',⟨?_,Y3.trans x4⟩,_,(J2 e6 w1),O2 e2 e1⟩
   rw[hsucc,if_pos q,bQ]
   exact i4
  ·have q:¬ (eW es ((k:Nat):Int)).length=0:=aE q
   refine aN ⟨a,⟨?_,Y3⟩,_,(J2 e6 w1),O3 e2 e1 e5⟩
   rw[hsucc,if_neg q]
   exact j3
 ·rintro a ts h2 ⟨j1,jx⟩ ⟨e2,e1,e5,e6,-⟩
  simp only at e5
  refine ab (ah (M1 e5) ?_)
  exact bt ⟨a,(by simp only[rs,rf71,am,aD,simprocAttr]<;>rfl),j1.mono om,X1.trans (jx.mono om)⟩
end Go.Proofs.YtahepnbflofndaaGreatDoor
