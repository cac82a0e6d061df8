/- Loops over rows, ranges over functions; what is kept. -/
import Derived.Test.YtpeemonpdlifbaaGreatVAmL
set_option linter.all false
namespace Go.Am
def Held:List (Nat×AV)→Tm→Prop
 | [],_=>True
 | p::r,ts=>aY ts p.1=p.2∧Held r ts
theorem cK {ts:Tm}:Held [] ts=True:=rfl
theorem cz {a:Nat}{v:AV}{r:List (Nat×AV)}{ts:Tm}:Held ((a,v)::r) ts=(aY ts a=v∧Held r ts):=rfl
def hl:=And.intro @cz @cK
theorem Held.put {n:Nat}{x:AV}{ts:Tm}:∀ {E:List (Nat×AV)},(E.all λp=>p.1 != n)=true→Held E ts→Held E (nl ts n x)
 | [],_,_=>trivial
 | (a,v)::r,ho,⟨h1,h2⟩=>by
   simp only[lZ,aM,bne_iff_ne,ne_eq] at ho
   refine⟨?_,Held.put ho.2 h2⟩
   show aY (nl ts n x) a=v
   rw[eX,if_neg (Ne.symm ho.1),h1]
def xL (E:List (Nat×AV)) (i n c j:Nat):Bool:=(E.all λp=>p.1 != i&&p.1 != c&&p.1 != j&&p.1 != n)&&n != i&&n != c&&n != j&&i != c&&c != j&&i != j
theorem wJ {α:Type}{p q:α→Bool}{l:List α} (h:l.all p=true) (hpq:∀ x,p x=true→q x=true):l.all q=true:=by
 rw[cj] at *
 exact λx hx=>hpq x (h x hx)
theorem fB {α:Type}{P:RP}{B B1 i n c j:Nat}{body:RC}{N:Nat}{Kn Kr:Tm→AH→Prop}{Kx:Nat→Tm→AH→Prop}{ts:Tm}{h:AH} (E:Nat→α→List (Nat×AV)) (J:Nat→α→AH→Prop) (a0:α) (ok:∀ k a,xL (E k a) i n c j=true) (hN:N<2 ^ 62)
 (h0:Held ((i,.int .i64 0)::(n,.int .i64 (N:Nat))::E 0 a0) ts) (hJ:J 0 a0 h)
 (hs:∀ k a ts h,k<N→J k a h→Held ((i,.int .i64 (k:Nat))::(n,.int .i64 (N:Nat))::E k a) ts →
  W P body ts h (λts' h'=>∃ a',J (k+1) a' h'∧Held ((i,.int .i64 (k:Nat))::(n,.int .i64 (N:Nat))::E (k+1) a') ts') Kr
    (λx ts' h'=>(x=B1→∃ a',J (k+1) a' h'∧Held ((i,.int .i64 (k:Nat))::(n,.int .i64 (N:Nat))::E (k+1) a') ts')∧(x≠B1→(x=B→Kn ts' h')∧(x≠B→Kx x ts' h'))))
 (hk:∀ a ts h,J N a h→Held (E N a) ts→Kn ts h) :
 W P (.block B (.loop (.seq (.reg [⟨some c,.bin .lss .no (.t i) (.t n),none,none,[]⟩]) (.seq (.cond (.t c) .skip (.exit B)) (.seq (.block B1 body) (.reg [⟨some j,.bin .add .no (.t i) (.c (.int .i64 1)),none,none,[]⟩,⟨some i,.mov (.t j),none,none,[]⟩])))))) ts h Kn Kr Kx:=by
 have ok1:∀ k a,((E k a).all λp=>p.1 != c)=true:=λk a=>by
  have:=ok k a
  simp only[xL,aM] at this
  exact wJ this.1.1.1.1.1.1 λx hx=>by simp only[aM] at hx; exact hx.1.1.2
 have ok2:∀ k a,((E k a).all λp=>p.1 != i)=true:=λk a=>by
  have:=ok k a
  simp only[xL,aM] at this
  exact wJ this.1.1.1.1.1.1 λx hx=>by simp only[aM] at hx; exact hx.1.1.1
 have ok3:∀ k a,((E k a).all λp=>p.1 != j)=true:=λk a=>by
  have:=ok k a
  simp only[xL,aM] at this
  exact wJ this.1.1.1.1.1.1 λx hx=>by simp only[aM] at hx; exact hx.1.2
 have ok0:=ok 0 a0
 simp only[xL,aM,bne_iff_ne,ne_eq] at ok0
 obtain⟨⟨⟨⟨⟨⟨_,o1⟩,o2⟩,o3⟩,o4⟩,o5⟩,o6⟩:=ok0
 obtain⟨h01,h02,h03⟩:=h0
 refine cL (fW (λm ts h=>∃ k a,m=N-k∧k≤N∧J k a h∧aY ts i=.int .i64 (k:Nat)∧aY ts n=.int .i64 (N:Nat)∧Held (E k a) ts) ?_ (n:=N) ⟨0,a0,rfl,fq _,hJ,h01,h02,h03⟩)
 rintro m ts h ⟨k,a,rfl,hk1,hj,e1,e2,e3⟩
 refine aj (aB (ts':=nl ts c (.bool (decide (k<N)))) (h':=h) (by simp only[qS,pj,mw,wz,pk,wi,mm,pE,sA,aF,Gh,e1,e2,BH,aH,jl]) ?_)
 refine aj (jq (t:=decide (k<N)) (by rw[Gh,eX,if_pos rfl]) (λq=>?_) λq=>?_)
 ·have q:k<N:=dV q
  refine bK (aj (cL ?_))
  have hb:=hs k a (nl ts c (.bool (decide (k<N)))) h q hj ⟨by rw[eX,if_neg (Ne.symm o4),e1],by rw[eX,if_neg (Ne.symm o2),e2],Held.put (ok1 k a) e3⟩
  have key:∀ ts' h',(∃ a',J (k+1) a' h'∧Held ((i,.int .i64 (k:Nat))::(n,.int .i64 (N:Nat))::E (k+1) a') ts') →
   W P (.reg [⟨some j,.bin .add .no (.t i) (.c (.int .i64 1)),none,none,[]⟩,⟨some i,.mov (.t j),none,none,[]⟩]) ts' h' (λts' h'=>∃ m,m<N-k∧∃ k a,m=N-k∧k≤N∧J k a h'∧aY ts' i=.int .i64 (k:Nat)∧aY ts' n=.int .i64 (N:Nat)∧Held (E k a) ts') Kr (λi ts h=>(i=B→Kn ts h)∧(i≠B→Kx i ts h)):=by
   rintro ts' h' ⟨a',f4,f1,f2,f3⟩
   have f1:aY ts' i=.int .i64 (k:Nat):=f1
   have f2:aY ts' n=.int .i64 (N:Nat):=f2
   have w1:IntKind.i64.wrap (((k:Nat):Int)+1)=((k+1:Nat):Int):=fz om om
   refine aB (ts':=nl (nl ts' j (.int .i64 ((k+1:Nat):Int))) i (.int .i64 ((k+1:Nat):Int))) (h':=h') (by simp only[qS,pj,mw,wz,pk,wi,mm,pE,sA,aF,Gh,ev_c,f1,BI,w1,aH,eX,if_true]) ?_
   exact⟨N-(k+1),om,k+1,a',rfl,om,f4,by rw[eX,if_pos rfl],by rw[eX,if_neg (Ne.symm o1),eX,if_neg (Ne.symm o3),f2],Held.put (ok2 _ _) (Held.put (ok3 _ _) f3)⟩
  refine mQ body hb (λts' h' q=>key ts' h' q) (λ_ _ q=>q) λx ts' h' q=>⟨λe=>key ts' h' (q.1 e),λe=>⟨λe2=>(q.2 e).1 e2,λe2=>(q.2 e).2 e2⟩⟩
 ·have q:¬ k<N:=of_decide_eq_false q
  have e:k=N:=om
  subst e
  exact ft ⟨λ_=>hk a _ _ hj (Held.put (ok1 _ _) e3),λe=>absurd rfl e⟩
theorem vq {α:Type}{P:RP}{B B1 c:Nat}{T inc:List ROper}{body:RC}{N:Nat}{Kn Kr:Tm→AH→Prop}{Kx:Nat→Tm→AH→Prop}{ts:Tm}{h:AH} (E:Nat→α→List (Nat×AV)) (J:Nat→α→AH→Prop) (a0:α)
 (h0:Held (E 0 a0) ts) (hJ:J 0 a0 h)
 (hT:∀ k a ts h,k≤N→J k a h→Held (E k a) ts→∃ ts',km h.next T (some (ts,h))=some (ts',h)∧aY ts' c=.bool (decide (k<N))∧Held (E k a) ts')
 (hs:∀ k a ts h,k<N→J k a h→Held (E k a) ts →
  W P body ts h (λts' h'=>∃ a',J (k+1) a' h'∧∃ ts'',km h'.next inc (some (ts',h'))=some (ts'',h')∧Held (E (k+1) a') ts'') Kr
    (λx ts' h'=>(x=B1→∃ a',J (k+1) a' h'∧∃ ts'',km h'.next inc (some (ts',h'))=some (ts'',h')∧Held (E (k+1) a') ts'')∧(x≠B1→(x=B→Kn ts' h')∧(x≠B→Kx x ts' h'))))
 (hk:∀ a ts h,J N a h→Held (E N a) ts→Kn ts h) :
 W P (.block B (.loop (.seq (.seq (.reg T) (.cond (.t c) .skip (.exit B))) (.seq (.block B1 body) (.reg inc))))) ts h Kn Kr Kx:=by
 refine cL (fW (λm ts h=>∃ k a,m=N-k∧k≤N∧J k a h∧Held (E k a) ts) ?_ (n:=N) ⟨0,a0,rfl,fq _,hJ,h0⟩)
 rintro m ts h ⟨k,a,rfl,hk1,hj,e3⟩
 obtain⟨ts1,t1,t2,t3⟩:=hT k a ts h hk1 hj e3
 refine aj (aj (aB t1 ?_))
 refine jq (t:=decide (k<N)) (by rw[Gh,t2]) (λq=>?_) λq=>?_
 ·have q:k<N:=dV q
  refine bK (aj (cL ?_))
  have hb:=hs k a ts1 h q hj t3
  have key:∀ ts' h',(∃ a',J (k+1) a' h'∧∃ ts'',km h'.next inc (some (ts',h'))=some (ts'',h')∧Held (E (k+1) a') ts'') →
   W P (.reg inc) ts' h' (λts' h'=>∃ m,m<N-k∧∃ k a,m=N-k∧k≤N∧J k a h'∧Held (E k a) ts') Kr (λi ts h=>(i=B→Kn ts h)∧(i≠B→Kx i ts h)):=by
   rintro ts' h' ⟨a',f4,ts'',f1,f3⟩
   exact aB f1 ⟨N-(k+1),om,k+1,a',rfl,om,f4,f3⟩
  refine mQ body hb (λts' h' q=>key ts' h' q) (λ_ _ q=>q) λx ts' h' q=>⟨λe=>key ts' h' (q.1 e),λe=>⟨λe2=>(q.2 e).1 e2,λe2=>(q.2 e).2 e2⟩⟩
 ·have q:¬ k<N:=of_decide_eq_false q
  have e:k=N:=om
  subst e
  exact ft ⟨λ_=>hk a _ _ hj t3,λe=>absurd rfl e⟩
theorem W.rangeF {P:RP}{fn:FuncId}{p:List Bool}{f:RO}{ps:List Nat}{asg body:RC}{ts:Tm}{h:AH}{Kn Kr:Tm→AH→Prop}{Kx:Nat→Tm→AH→Prop}{g:FuncId}{caps:List AV}{Q:AV→AH→Prop} (hf:RO.ev ts f=.fn g caps)
 (hc:C P g (.yld h.next::caps) (h.new (.lp fn p ts ps .ready none)) Q) (he:∀ v h',Q v h'→(∃ f1 p1 t1 q1,h'.get h.next=some (.lp f1 p1 t1 q1 .ready none))∧∀ f1 p1 t1 q1,Kn ts (h'.put h.next (.lp f1 p1 t1 q1 .over none))):W P (.rangeF fn p f ps asg body) ts h Kn Kr Kx:=by
 refine BS.rangeF hf hc λv h' ⟨v',h'',e,q⟩=>?_
 cases e
 obtain⟨⟨f1,p1,t1,q1,hg⟩,hk⟩:=he v h' q
 exact⟨f1,p1,t1,q1,.ready,none,hg,by decide,hk f1 p1 t1 q1⟩
theorem Y.round {P:RP}{b:Nat}{args:List AV}{h:AH}{fn:FuncId}{p:List Bool}{tl:Tm}{ps:List Nat}{rf:RF}{f:RO}{asg body:RC}{Q:AV→AH→Prop} (hg:h.get b=some (.lp fn p tl ps .ready none)) (hl:args.length=ps.length) (hP:P fn=some rf) (hn:rf.body.node p=some (.rangeF fn p f ps asg body))
 (hw:W P asg (lw tl ps args) h (λts1 h1=>h1=h∧W P body ts1 (h.put b (.lp fn p tl ps .busy none)) (λ_ h2=>h2.get b=some (.lp fn p tl ps .busy none)∧Q (.bool true) (h2.put b (.lp fn p tl ps .ready none))) (λ_ _=>False) λ_ _ _=>False) (λ_ _=>False) λ_ _ _=>False):Y P b args h Q:=by
 refine BS.round hg hl hP hn (jB _ hw) ?_ (S2:=fin (λ_ h2=>h2.get b=some (.lp fn p tl ps .busy none)∧Q (.bool true) (h2.put b (.lp fn p tl ps .ready none))) (λ_ _=>False) λ_ _ _=>False) ?_ ?_
 ·intro o ho
  cases o with
  | norm ts1 h1=>obtain⟨rfl,_⟩:=ho; exact⟨_,_,_,_,_,_,rfl,hg⟩
  | exit=>exact ho.elim
  | ret=>exact ho.elim
  | val=>exact ho.elim
 ·intro ts1 h1 f1 p1 tl1 ps1 ho hg1
  obtain⟨rfl,hw2⟩:=ho
  rw[hg] at hg1
  simp only[aa,AO.lp.injEq,and_true] at hg1
  obtain⟨rfl,rfl,rfl,rfl⟩:=hg1
  exact jB _ hw2
 ·intro o ho
  cases o with
  | norm ts2 h2=>exact⟨_,_,_,_,ho.1,_,_,rfl,ho.2⟩
  | exit=>exact ho.elim
  | ret=>exact ho.elim
  | val=>exact ho.elim
structure Kp (S:Nat→Prop) (h h':AH):Prop where
 nx:h.next≤h'.next
 gt:∀ c,c<h.next→¬ S c→h'.get c=h.get c
 ty:∀ c,c<h.next→h'.tyOf c=h.tyOf c
theorem Kp.refl {S:Nat→Prop}{h:AH}:Kp S h h:=⟨ae _,λ_ _ _=>rfl,λ_ _=>rfl⟩
theorem Kp.trans {S T:Nat→Prop}{h h1 h2:AH} (a:Kp S h h1) (b:Kp T h1 h2) (hs:∀ c,c<h.next→T c→S c):Kp S h h2 :=
 ⟨cN a.nx b.nx,λc hc hn=>(b.gt c (cA hc a.nx) λt=>hn (hs c hc t)).trans (a.gt c hc hn),λc hc=>(b.ty c (cA hc a.nx)).trans (a.ty c hc)⟩
theorem Ext.kp {n:Nat}{S:Nat→Prop}{h h':AH} (a:Ext n h h') (hn:h.next≤n):Kp S h h':=⟨a.nx,λc hc _=>a.gt c om,λc hc=>a.ty c om⟩
theorem Kp.mono {S T:Nat→Prop}{h h':AH} (a:Kp S h h') (hs:∀ c,c<h.next→S c→T c):Kp T h h':=⟨a.nx,λc hc hn=>a.gt c hc λs=>hn (hs c hc s),a.ty⟩
theorem Upd.kp {S:Nat→Prop}{h h':AH}{s:Nat}{o:AO} (a:Upd h h' s o) (hs:S s):Kp S h h':=⟨by rw[a.nx]; exact ae _,λc _ hn=>a.ne λe=>hn (e▸hs),λc _=>a.ty c⟩
def Off (S:Nat→Prop):AV→Prop
 | .sl b _ _ _=>¬ S b
 | _=>True
theorem Sl.kp {h h':AH}{e:Nat}{v:AV}{xs:List (List AV)}{S:Nat→Prop} (hs:Sl h e v xs) (hk:Kp S h h') (ho:Off S v):Sl h' e v xs :=
 hs.cong λb o n c hv=>hk.gt b (hs.lt hv) (by subst hv; exact ho)
def tB (lo hi mx:Option AV) (len cap:Nat):Option (Nat×Nat×Nat) :=
 match (match mx with|some v=>bnd v cap|none=>some cap) with
 | some m=>match (match hi with | some v=>bnd v m | none=>if mx.isSome then none else some len) with
   | some h=>match (match lo with | some v=>bnd v h | none=>some 0) with
     | some l=>some (l,h,m)
     | none=>none
   | none=>none
 | none=>none
def slV (h:AH) (e:Nat) (x:AV) (lo hi mx:Option AV):Option AV :=
 match x with
 | .nils=>(tB lo hi mx 0 0).map λ_=>.nils
 | .emp=>(tB lo hi mx 0 0).map λ_=>.emp
 | .sl b o n c=>match h.get b with
   | some (.cells _ e' _)=>if e'=e then (tB lo hi mx n c).map λr=>.sl b (if r.2.2=r.1 then o else o+r.1*e) (r.2.1-r.1) (r.2.2-r.1) else none
   | _=>none
 | _=>none
theorem eF {ev:RO→AV}{h:AH}{e:Nat}{x:AV}{lo hi mx:Option RO}:Cf ev h e x lo hi mx=slV h e x (lo.map ev) (hi.map ev) (mx.map ev):=by
 cases lo<;>cases hi<;>cases mx<;>rfl
theorem jA {k:IntKind}{n y:Nat} (h:n≤y):bnd (.int k (n:Nat)) y=some n:=by
 simp only[bnd]
 rw[if_pos ⟨om,om⟩]
 simp
def InB (S:Nat→Prop):AV→Prop
 | .sl b _ _ _=>S b
 | _=>True
theorem Sl.part {h:AH}{e:Nat}{v:AV}{xs:List (List AV)} (hs:Sl h e v xs) {lo hi:Nat} (h1:lo≤hi) (h2:hi≤xs.length) :
 ∃ v',slV h e v (some (.int .i64 (lo:Nat))) (some (.int .i64 (hi:Nat))) none=some v'∧Sl h e v' ((xs.drop lo).take (hi-lo))∧(∀ S,InB S v→InB S v')∧∀ S,Off S v→Off S v':=by
 rcases hs with ⟨rfl,hn⟩|⟨b,o,c,cs,ro,rfl,hg,hc,hle,hx⟩
 ·simp only[aP,Nat.le_zero] at h2
  subst h2
  have:lo=0:=om
  subst this
  rcases hn with rfl|rfl
  ·exact⟨.nils,rfl,.inl ⟨by simp,.inl rfl⟩,λ_ _=>trivial,λ_ _=>trivial⟩
  ·exact⟨.emp,rfl,.inl ⟨by simp,.inr rfl⟩,λ_ _=>trivial,λ_ _=>trivial⟩
 ·refine⟨.sl b (if c=lo then o else o+lo*e) (hi-lo) (c-lo),?_,.inr ⟨b,if c=lo then o else o+lo*e,c-lo,cs,ro,?_,hg,?_,?_,?_⟩,λ_ q=>q,λ_ q=>q⟩
  ·simp only[slV,hg,if_true,tB,jA (show hi≤c by omega),jA h1,aH]
  ·simp only[bS,dR]
   rw[dZ om]
  ·simp only[bS,dR]
   omega
  ·simp only[bS,dR]
   rw[dZ om]
   have:lo*e+(hi-lo)*e≤xs.length*e:=by rw[← dl]; exact gh _ om
   split
   ·omega
   ·omega
  ·intro i x hi'
   rw[cQ] at hi'
   split at hi'
   ·rename_i hlt
    rw[ew] at hi'
    obtain⟨y1,y2⟩:=hx _ _ hi'
    have e1:(lo+i)*e=lo*e+i*e:=dl _ _ _
    rw[if_neg om]
    rw[e1,← fN] at y1 y2
    exact⟨y1,y2⟩
   ·cases hi'
theorem Sl.upto {h:AH}{e:Nat}{v:AV}{xs:List (List AV)} (hs:Sl h e v xs) {hi:Nat} (h2:hi≤xs.length) :
 ∃ v',slV h e v none (some (.int .i64 (hi:Nat))) none=some v'∧Sl h e v' (xs.take hi)∧(∀ S,InB S v→InB S v')∧∀ S,Off S v→Off S v':=by
 obtain⟨v',a,b,c⟩:=hs.part (fq hi) h2
 refine⟨v',?_,by simpa using b,c⟩
 rw[← a]
 have:∀ y,(match (some (AV.int .i64 ((0:Nat):Int)):Option AV) with|some v=>bnd v y|none=>some 0)=some 0:=λy=>jA (fq y)
 unfold slV tB
 simp only[this]
theorem Sl.from {h:AH}{e:Nat}{v:AV}{xs:List (List AV)} (hs:Sl h e v xs) {lo:Nat} (h2:lo≤xs.length) :
 ∃ v',slV h e v (some (.int .i64 (lo:Nat))) none none=some v'∧Sl h e v' (xs.drop lo)∧(∀ S,InB S v→InB S v')∧∀ S,Off S v→Off S v':=by
 obtain⟨v',a,b,c⟩:=hs.part h2 (ae _)
 refine⟨v',?_,?_,c⟩
 ·rw[← a]
  rcases hs with ⟨rfl,rfl|rfl⟩|⟨b,o,cc,cs,ro,rfl,hg,hc,hle,hx⟩
  ·rfl
  ·rfl
  ·unfold slV tB
   simp only[jA hc,ii,bh,if_false]
 ·rwa [de (by simp)] at b
theorem Sl.src {h:AH}{e:Nat}{v:AV}{xs:List (List AV)} (hs:Sl h e v xs):eW h e v=some (xs.length,xs.flatten)∧xs.flatten.length=xs.length*e:=by
 rcases hs with ⟨rfl,rfl|rfl⟩|⟨b,o,c,cs,ro,rfl,hg,hc,hle,hx⟩
 ·exact⟨rfl,by simp⟩
 ·exact⟨rfl,by simp⟩
 ·have key:∀ (xs:List (List AV)) (o:Nat),(∀ i x,xs[i]?=some x→o+i*e+e≤cs.length∧(cs.drop (o+i*e)).take e=x)→(xs≠[]→o+xs.length*e≤cs.length)∧(cs.drop o).take (xs.length*e)=xs.flatten∧xs.flatten.length=xs.length*e:=by
   intro xs
   induction xs with
   | nil=>intro o _; exact⟨λq=>absurd rfl q,by simp,by simp⟩
   | cons x r ih =>
     intro o hx
     obtain⟨a1,a2⟩:=hx 0 x rfl
     simp only[nq,dh] at a1 a2
     obtain⟨b1,b2,b3⟩:=ih (o+e) λi y hy=>by
      have:=hx (i+1) y (by simpa using hy)
      rw[show o+(i+1)*e=o+e+i*e by rw[dl]; omega] at this
      exact this
     have hxl:x.length=e:=by rw[← a2,bS,dR]; omega
     have e1:(x::r).length*e=e+r.length*e:=by simp only[aw,dl]; omega
     refine⟨λ_=>?_,?_,?_⟩
     ·by_cases hr:r=[]
      ·subst hr; simp only[aw,aP,bM,pg]; exact a1
      ·have:=b1 hr; omega
     ·rw[e1,eK,List.take_add,a2,Ls,b2]
     ·rw[e1,eK,aI,hxl,b3]
  obtain⟨k1,k2,k3⟩:=key xs o hx
  refine⟨?_,k3⟩
  simp only[eW]
  rw[bg hg,if_pos hle,k2]
  rfl
theorem G.gyield {P:RP}{b:Nat}{l l2:List ROper}{s:Option (Tm×AH)}{K:Tm→AH→Prop}{ts:Tm}{h:AH}{d:Option Nat}{x:RO}{c:Nat}{args:List RO}{g:Option (Nat×Bool)}{nm:Option Nat}{vs:List AV}{Q:AV→AH→Prop} (n:Nat)
 (hs:km b (l.take n) s=some (ts,h)) (hd:l.drop n=⟨d,.callv x args,g,nm,[]⟩::l2) (hw:wanted ts g=some true) (hx:RO.ev ts x=.yld c) (ha:args.map (RO.ev ts)=vs) (hc:Y P c vs h Q)
 (hk:∀ v h',Q v h'→G P b l2 (some (dY ts d v,h')) K):G P b l s K:=by
 subst ha
 rw[← cD n l]
 refine qq ?_
 rw[hs,hd]
 exact G.yield hw hx (hc.mono λv h' q=>⟨rfl,hk v h' q⟩)
theorem eZ {ev:RO→AV}{h:AH}{n e k:Nat}{z:List AV}{ps:List (Nat×Nat×RO)} (hg:h.get n=some .resv):iM ev h n (.mksl z e k ps)=(fill ev (dg z k) ps).map λcs=>(.sl n 0 k k,h.put n (.cells cs e false)):=by
 rw[lG hg]
 simp only[lay]
 cases fill ev (dg z k) ps<;>rfl
def IR (z:List AV) (bytes:Nat) (l c:AV):Option (Nat×Nat×List AV) :=
 match l,c with
 | .int _ l,.int _ c=>if 0≤l∧l≤c∧c<be∧c*bytes<be then some (l.toNat,c.toNat,dg z c.toNat) else none
 | _,_=>none
theorem oK {z:List AV}{bytes n:Nat} (h1:n<be) (h2:n*bytes<be):IR z bytes (.int .i64 (n:Nat)) (.int .i64 (n:Nat))=some (n,n,dg z n):=by
 simp only[IR]
 rw[if_pos ⟨om,om,om,by rw[← Int.natCast_mul]; omega⟩]
 simp
theorem oL {h:AH}{z:List AV}{e bytes n:Nat} (h1:n<be) (h2:n*bytes<be):xS h z e bytes (.int .i64 (n:Nat)) (.int .i64 (n:Nat))=some (.sl h.next 0 n n,h.new (.cells (dg z n) e false)):=by
 simp only[xS]
 rw[if_pos ⟨om,om,om,by rw[← Int.natCast_mul]; omega⟩]
 simp
theorem kX {ev:RO→AV}{h:AH}{n e b:Nat}{z:List AV}{l c:RO} (hg:h.get n=some .resv):iM ev h n (.mks z e b l c)=(IR z b (ev l) (ev c)).map λp=>(.sl n 0 p.1 p.2.1,h.put n (.cells p.2.2 e false)):=by
 rw[lG hg]
 simp only[lay,IR]
 cases ev l<;>cases ev c<;>try rfl
 rename_i k1 x k2 y
 by_cases q:0≤x∧x≤y∧y<be∧y*b<be
 ·simp only[if_pos q]; rfl
 ·simp only[if_neg q]; rfl
def JK (k:Nat) (x:AV):Option (List AV):=if x.cells.length=k then some x.cells else none
theorem uD {ev:RO→AV}{h:AH}{n e k:Nat}{x:RO} (hg:h.get n=some .resv):iM ev h n (.box e k x)=(JK k (ev x)).map λcs=>(.ptr n 0,h.put n (.cells cs e false)):=by
 rw[lG hg]
 simp only[lay,JK]
 by_cases q:(ev x).cells.length=k
 ·simp only[if_pos q]; rfl
 ·simp only[if_neg q]; rfl
theorem sP {k:Nat}{cs:List AV} (h:cs.length=k):JK k (.agg cs)=some cs:=by
 simp only[JK,uY,h,if_true]
theorem iR {h:AH}:(h.keep 1).get h.next=some .resv:=by
 rw[AH.keep_get,if_pos ⟨om,om⟩]
theorem pw {h:AH}{o:AO}:Ext h.next h ((h.keep 1).put h.next o)∧((h.keep 1).put h.next o).get h.next=some o∧((h.keep 1).put h.next o).next=h.next+1∧∀ c,c<h.next→((h.keep 1).put h.next o).get c=h.get c:=by
 have hn:(h.keep 1).next=h.next+1:=AH.keep_next 1 h
 have k:∀ c,c<h.next→((h.keep 1).put h.next o).get c=h.get c:=λc hc=>by
  rw[AH.get_put _ _ _ _ (by rw[hn]; omega),if_neg om,AH.keep_get,if_neg om]
 exact⟨⟨by rw[AH.next_put,hn]; omega,k,λ_ _=>rfl⟩,by rw[AH.get_put _ _ _ _ (by rw[hn]; omega),if_pos rfl],by rw[AH.next_put,hn],k⟩
theorem gm {h:AH}{z cs:List AV}{e:Nat} (hl:z.length=cs.length):∃ h1,bZ (h.new (.cells z e false)) h.next 0 cs=some h1∧Ext h.next h h1∧h1.get h.next=some (.cells cs e false)∧h1.next=h.next+1:=by
 have g:(h.new (.cells z e false)).get h.next=some (.cells z e false):=by rw[AH.get_new,if_pos rfl]
 refine⟨(h.new (.cells z e false)).put h.next (.cells cs e false),?_,(Ly (ae _)).trans (Ext.put (ae _)),(LA g).get,rfl⟩
 rw[fy g,if_pos om]
 congr 3
 simp only[dI,gO,bj,bM]
 rw[dm om,dG]
theorem AH.keep_tyOf:∀ (k:Nat) (h:AH) {c:Nat},(h.keep k).tyOf c=h.tyOf c
 | 0,_,_=>rfl
 | k+1,h,c=>by
   show ((h.new .resv).keep k).tyOf c=_
   rw[AH.keep_tyOf k (h.new .resv)]
   rfl
theorem jf {x:AV}:∀ n:Nat,dg [x] n=List.replicate n x
 | 0=>rfl
 | n+1=>by rw[dg,jf n]; rfl
theorem yT {cs:List AV}{i:Nat}{v:AV} (hi:i<cs.length):dI cs i [v]=cs.set i v:=by
 refine et λj=>?_
 rw[gf (by simp only[aw,aP]; omega),cZ]
 simp only[aw,aP]
 by_cases e:i=j
 ·subst e
  rw[if_pos ⟨om,om⟩,if_pos rfl,if_pos hi,eO]
  rfl
 ·rw[if_neg om,if_neg e]
theorem bq {h:AH}{b i e:Nat}{cs:List AV}{ro:Bool}{v:AV} (hg:h.get b=some (.cells cs e ro)) (hi:cs[i]?=some v):ar h b i 1=some [v]:=by
 obtain⟨hl,h2⟩:=aK.1 hi
 rw[bg hg,if_pos om,bX hl,h2]
 rfl
theorem gv {h:AH}{b i e:Nat}{cs:List AV}{v:AV} (hg:h.get b=some (.cells cs e false)) (hi:i<cs.length):bZ h b i [v]=some (h.put b (.cells (cs.set i v) e false)):=by
 rw[fy hg,if_pos (by simp only[aw,aP]; omega),yT hi]
theorem Ha {P:RP}{kn:Nat}{ops:List ROper}{ts:Tm}{h:AH}{Kn Kr:Tm→AH→Prop}{Kx:Nat→Tm→AH→Prop}{ts':Tm}{h':AH} (hs:km h.next ops (some (ts,h.keep kn))=some (ts',h')) (hk:Kn ts' h'):W P (.regK kn ops) ts h Kn Kr Kx:=nY (bI hs hk)
theorem Sl.row {h:AH}{b n c:Nat}{vs:List AV}{ro:Bool} (hg:h.get b=some (.cells vs 1 ro)) (hn:vs.length=n) (hc:n≤c):Sl h 1 (.sl b 0 n c) (vs.map λx=>[x]):=by
 subst hn
 refine .inr ⟨b,0,c,vs,ro,by rw[ak],hg,by rw[ak]; exact hc,by rw[ak]; omega,λi x hi=>?_⟩
 rw[aG] at hi
 obtain⟨y,hy,rfl⟩:=aD.1 hi
 obtain⟨hl,h2⟩:=aK.1 hy
 refine⟨om,?_⟩
 rw[bM,aO,bX hl,h2]
 rfl
theorem kV {ts:Tm}{f:FuncId}:RO.ev ts (.fu f)=.fn f []:=rfl
theorem Eo {h:AH}{e b L k c:Nat}{cs:List AV}{ro:Bool} (hg:h.get b=some (.cells cs e ro)) (hk:k<c) (hL:L≤c) (hkL:k≤L):slV h e (.sl b 0 L c) (some (.int .i64 (k:Nat))) none none=some (.sl b (k*e) (L-k) (c-k)):=by
 have h1:=jA (k:=.i64) hL
 have h2:=jA (k:=.i64) hkL
 simp only[slV,hg,if_true,tB,h2,aH,ii,bh,if_false]
 rw[if_neg om,bM]
theorem Lp {h:AH}{b o c:Nat}{cs:List AV}{d:Array Int} (hg:h.get b=some (lN cs o d)) (hr:o+d.size≤cs.length) (hc:d.size≤c):SlI h (.sl b o d.size c) d.toList:=by
 have hr':o+(gH d).length≤cs.length:=by rw[gR]; exact hr
 have hl:=jK hr'
 refine .inr ⟨b,o,c,_,false,by rw[ak]; rfl,hg,by rw[ak]; exact hc,by rw[ak,hl]; have:d.toList.length=d.size:=rfl; omega,λi x hi=>?_⟩
 rw[aG] at hi
 obtain⟨y,hy,rfl⟩:=aD.1 hi
 have hil:i<d.size:=(aK.1 hy).1
 have hk:(dI cs o (gH d))[o+i]?=some (.int .i64 y):=by
  rw[gf hr',if_pos ⟨om,by rw[gR]; omega⟩,show o+i-o=i by omega]
  unfold gH
  rw[aG,hy]
  rfl
 obtain⟨hlt,hk2⟩:=aK.1 hk
 refine⟨om,?_⟩
 rw[aO,bX hlt,hk2]
 rfl
theorem H1 {q0 p:Prop} (f0:q0) (h:q0→p:=by intro f0; simp only[hl,am,aF,simprocAttr,f0]):p:=h f0
theorem H2 {q0 q1 p:Prop} (f0:q0) (f1:q1) (h:q0→q1→p:=by intro f0 f1; simp only[hl,am,aF,simprocAttr,f0,f1]):p:=h f0 f1
theorem H3 {q0 q1 q2 p:Prop} (f0:q0) (f1:q1) (f2:q2) (h:q0→q1→q2→p:=by intro f0 f1 f2; simp only[hl,am,aF,simprocAttr,f0,f1,f2]):p:=h f0 f1 f2
theorem H4 {q0 q1 q2 q3 p:Prop} (f0:q0) (f1:q1) (f2:q2) (f3:q3) (h:q0→q1→q2→q3→p:=by intro f0 f1 f2 f3; simp only[hl,am,aF,simprocAttr,f0,f1,f2,f3]):p:=h f0 f1 f2 f3
theorem H5 {q0 q1 q2 q3 q4 p:Prop} (f0:q0) (f1:q1) (f2:q2) (f3:q3) (f4:q4) (h:q0→q1→q2→q3→q4→p:=by intro f0 f1 f2 f3 f4; simp only[hl,am,aF,simprocAttr,f0,f1,f2,f3,f4]):p:=h f0 f1 f2 f3 f4
theorem H6 {q0 q1 q2 q3 q4 q5 p:Prop} (f0:q0) (f1:q1) (f2:q2) (f3:q3) (f4:q4) (f5:q5) (h:q0→q1→q2→q3→q4→q5→p:=by intro f0 f1 f2 f3 f4 f5; simp only[hl,am,aF,simprocAttr,f0,f1,f2,f3,f4,f5]):p:=h f0 f1 f2 f3 f4 f5
theorem H7 {q0 q1 q2 q3 q4 q5 q6 p:Prop} (f0:q0) (f1:q1) (f2:q2) (f3:q3) (f4:q4) (f5:q5) (f6:q6) (h:q0→q1→q2→q3→q4→q5→q6→p:=by intro f0 f1 f2 f3 f4 f5 f6; simp only[hl,am,aF,simprocAttr,f0,f1,f2,f3,f4,f5,f6]):p:=h f0 f1 f2 f3 f4 f5 f6
theorem H8 {q0 q1 q2 q3 q4 q5 q6 q7 p:Prop} (f0:q0) (f1:q1) (f2:q2) (f3:q3) (f4:q4) (f5:q5) (f6:q6) (f7:q7) (h:q0→q1→q2→q3→q4→q5→q6→q7→p:=by intro f0 f1 f2 f3 f4 f5 f6 f7; simp only[hl,am,aF,simprocAttr,f0,f1,f2,f3,f4,f5,f6,f7]):p:=h f0 f1 f2 f3 f4 f5 f6 f7
theorem H10 {q0 q1 q2 q3 q4 q5 q6 q7 q8 q9 p:Prop} (f0:q0) (f1:q1) (f2:q2) (f3:q3) (f4:q4) (f5:q5) (f6:q6) (f7:q7) (f8:q8) (f9:q9) (h:q0→q1→q2→q3→q4→q5→q6→q7→q8→q9→p:=by intro f0 f1 f2 f3 f4 f5 f6 f7 f8 f9; simp only[hl,am,aF,simprocAttr,f0,f1,f2,f3,f4,f5,f6,f7,f8,f9]):p:=h f0 f1 f2 f3 f4 f5 f6 f7 f8 f9
theorem Hi0 {p:Prop} (h:p:=by simp only[hl,am,aF,simprocAttr,bH]):p:=h
theorem Hi1 {q0 p:Prop} (f0:q0) (h:q0→p:=by intro f0; simp only[hl,am,aF,simprocAttr,bH,f0]):p:=h f0
theorem Hi2 {q0 q1 p:Prop} (f0:q0) (f1:q1) (h:q0→q1→p:=by intro f0 f1; simp only[hl,am,aF,simprocAttr,bH,f0,f1]):p:=h f0 f1
theorem O1 {q0 p:Prop} (f0:q0) (h:q0→p:=by intro f0; simp only[cz,cK,am,aF,↓reduceIte,Nat.reduceEqDiff,Int.reduceEq,Nat.reduceAdd,Nat.reduceLeDiff,reduceCtorEq,f0]):p:=h f0
theorem O2 {q0 q1 p:Prop} (f0:q0) (f1:q1) (h:q0→q1→p:=by intro f0 f1; simp only[cz,cK,am,aF,↓reduceIte,Nat.reduceEqDiff,Int.reduceEq,Nat.reduceAdd,Nat.reduceLeDiff,reduceCtorEq,f0,f1]):p:=h f0 f1
theorem Oi0 {p:Prop} (h:p:=by simp only[cz,cK,am,aF,↓reduceIte,Nat.reduceEqDiff,Int.reduceEq,Nat.reduceAdd,Nat.reduceLeDiff,reduceCtorEq,bH]):p:=h
theorem Oi1 {q0 p:Prop} (f0:q0) (h:q0→p:=by intro f0; simp only[cz,cK,am,aF,↓reduceIte,Nat.reduceEqDiff,Int.reduceEq,Nat.reduceAdd,Nat.reduceLeDiff,reduceCtorEq,bH,f0]):p:=h f0
def Lx:=@AH.keep_tyOf
end Go.Am
