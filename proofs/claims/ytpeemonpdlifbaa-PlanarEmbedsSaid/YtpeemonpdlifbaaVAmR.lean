/- Loops over rows, ranges over functions; what is kept. -/
import Derived.Test.YtpeemonpdlifbaaVAmL
set_option linter.all false
namespace Go.Am
def Held:List (Nat×AV)→Tm→Prop
 | [],_=>True
 | p::r,ts=>aN ts p.1=p.2∧Held r ts
theorem cQ {ts:Tm}:Held [] ts=True:=rfl
theorem cq {a:Nat}{v:AV}{r:List (Nat×AV)}{ts:Tm}:Held ((a,v)::r) ts=(aN ts a=v∧Held r ts):=rfl
def hl:=And.intro @cq @cQ
theorem Held.put {n:Nat}{x:AV}{ts:Tm}:∀ {E:List (Nat×AV)},(E.all λp=>p.1 != n)=true→Held E ts→Held E (mZ ts n x)
 | [],_,_=>trivial
 | (a,v)::r,ho,⟨h1,h2⟩=>by
   simp only[jE,aQ,bne_iff_ne,ne_eq] at ho
   refine⟨?_,Held.put ho.2 h2⟩
   show aN (mZ ts n x) a=v
   rw[eZ,if_neg (Ne.symm ho.1),h1]
def xq (E:List (Nat×AV)) (i n c j:Nat):Bool:=(E.all λp=>p.1 != i&&p.1 != c&&p.1 != j&&p.1 != n)&&n != i&&n != c&&n != j&&i != c&&c != j&&i != j
theorem wg {α:Type}{p q:α→Bool}{l:List α} (h:l.all p=true) (hpq:∀ x,p x=true→q x=true):l.all q=true:=by
 rw[cr] at *
 exact λx hx=>hpq x (h x hx)
theorem ig {α:Type}{P:RP}{B B1 i n c j:Nat}{body:RC}{N:Nat}{Kn Kr:Tm→AH→Prop}{Kx:Nat→Tm→AH→Prop}{ts:Tm}{h:AH} (E:Nat→α→List (Nat×AV)) (J:Nat→α→AH→Prop) (a0:α) (ok:∀ k a,xq (E k a) i n c j=true) (hN:N<2 ^ 62)
 (h0:Held ((i,.int .i64 0)::(n,.int .i64 (N:Nat))::E 0 a0) ts) (hJ:J 0 a0 h)
 (hs:∀ k a ts h,k<N→J k a h→Held ((i,.int .i64 (k:Nat))::(n,.int .i64 (N:Nat))::E k a) ts →
  W P body ts h (λts' h'=>∃ a',J (k+1) a' h'∧Held ((i,.int .i64 (k:Nat))::(n,.int .i64 (N:Nat))::E (k+1) a') ts') Kr
    (λx ts' h'=>(x=B1→∃ a',J (k+1) a' h'∧Held ((i,.int .i64 (k:Nat))::(n,.int .i64 (N:Nat))::E (k+1) a') ts')∧(x≠B1→(x=B→Kn ts' h')∧(x≠B→Kx x ts' h'))))
 (hk:∀ a ts h,J N a h→Held (E N a) ts→Kn ts h) :
 W P (.block B (.loop (.seq (.reg [⟨some c,.bin .lss .no (.t i) (.t n),none,none,[]⟩]) (.seq (.cond (.t c) .skip (.exit B)) (.seq (.block B1 body) (.reg [⟨some j,.bin .add .no (.t i) (.c (.int .i64 1)),none,none,[]⟩,⟨some i,.mov (.t j),none,none,[]⟩])))))) ts h Kn Kr Kx:=by
 have ok1:∀ k a,((E k a).all λp=>p.1 != c)=true:=λk a=>by
  have:=ok k a
  simp only[xq,aQ] at this
  exact wg this.1.1.1.1.1.1 λx hx=>by simp only[aQ] at hx; exact hx.1.1.2
 have ok2:∀ k a,((E k a).all λp=>p.1 != i)=true:=λk a=>by
  have:=ok k a
  simp only[xq,aQ] at this
  exact wg this.1.1.1.1.1.1 λx hx=>by simp only[aQ] at hx; exact hx.1.1.1
 have ok3:∀ k a,((E k a).all λp=>p.1 != j)=true:=λk a=>by
  have:=ok k a
  simp only[xq,aQ] at this
  exact wg this.1.1.1.1.1.1 λx hx=>by simp only[aQ] at hx; exact hx.1.2
 have ok0:=ok 0 a0
 simp only[xq,aQ,bne_iff_ne,ne_eq] at ok0
 obtain⟨⟨⟨⟨⟨⟨_,o1⟩,o2⟩,o3⟩,o4⟩,o5⟩,o6⟩:=ok0
 obtain⟨h01,h02,h03⟩:=h0
 refine cY (fX (λm ts h=>∃ k a,m=N-k∧k≤N∧J k a h∧aN ts i=.int .i64 (k:Nat)∧aN ts n=.int .i64 (N:Nat)∧Held (E k a) ts) ?_ (n:=N) ⟨0,a0,rfl,ft _,hJ,h01,h02,h03⟩)
 rintro m ts h ⟨k,a,rfl,hk1,hj,e1,e2,e3⟩
 refine ai (au (ts':=mZ ts c (.bool (decide (k<N)))) (h':=h) (by simp only[qI,oT,mr,vS,oV,vK,mm,px,sa,aH,FI,e1,e2,Bn,aG,cx]) ?_)
 refine ai (kG (t:=decide (k<N)) (by rw[FI,eZ,if_pos rfl]) (λq=>?_) λq=>?_)
 ·have q:k<N:=du q
  refine bH (ai (cY ?_))
  have hb:=hs k a (mZ ts c (.bool (decide (k<N)))) h q hj ⟨by rw[eZ,if_neg (Ne.symm o4),e1],by rw[eZ,if_neg (Ne.symm o2),e2],Held.put (ok1 k a) e3⟩
  have key:∀ ts' h',(∃ a',J (k+1) a' h'∧Held ((i,.int .i64 (k:Nat))::(n,.int .i64 (N:Nat))::E (k+1) a') ts') →
   W P (.reg [⟨some j,.bin .add .no (.t i) (.c (.int .i64 1)),none,none,[]⟩,⟨some i,.mov (.t j),none,none,[]⟩]) ts' h' (λts' h'=>∃ m,m<N-k∧∃ k a,m=N-k∧k≤N∧J k a h'∧aN ts' i=.int .i64 (k:Nat)∧aN ts' n=.int .i64 (N:Nat)∧Held (E k a) ts') Kr (λi ts h=>(i=B→Kn ts h)∧(i≠B→Kx i ts h)):=by
   rintro ts' h' ⟨a',f4,f1,f2,f3⟩
   have f1:aN ts' i=.int .i64 (k:Nat):=f1
   have f2:aN ts' n=.int .i64 (N:Nat):=f2
   have w1:IntKind.i64.wrap (((k:Nat):Int)+1)=((k+1:Nat):Int):=et om om
   refine au (ts':=mZ (mZ ts' j (.int .i64 ((k+1:Nat):Int))) i (.int .i64 ((k+1:Nat):Int))) (h':=h') (by simp only[qI,oT,mr,vS,oV,vK,mm,px,sa,aH,FI,ev_c,f1,Bo,w1,aG,eZ,if_true]) ?_
   exact⟨N-(k+1),om,k+1,a',rfl,om,f4,by rw[eZ,if_pos rfl],by rw[eZ,if_neg (Ne.symm o1),eZ,if_neg (Ne.symm o3),f2],Held.put (ok2 _ _) (Held.put (ok3 _ _) f3)⟩
  refine lW body hb (λts' h' q=>key ts' h' q) (λ_ _ q=>q) λx ts' h' q=>⟨λe=>key ts' h' (q.1 e),λe=>⟨λe2=>(q.2 e).1 e2,λe2=>(q.2 e).2 e2⟩⟩
 ·have q:¬ k<N:=of_decide_eq_false q
  have e:k=N:=om
  subst e
  exact fC ⟨λ_=>hk a _ _ hj (Held.put (ok1 _ _) e3),λe=>absurd rfl e⟩
theorem fN {α:Type}{P:RP}{B B1 c:Nat}{T inc:List ROper}{body:RC}{N:Nat}{Kn Kr:Tm→AH→Prop}{Kx:Nat→Tm→AH→Prop}{ts:Tm}{h:AH} (E:Nat→α→List (Nat×AV)) (J:Nat→α→AH→Prop) (a0:α)
 (h0:Held (E 0 a0) ts) (hJ:J 0 a0 h)
 (hT:∀ k a ts h,k≤N→J k a h→Held (E k a) ts→∃ ts',kb h.next T (some (ts,h))=some (ts',h)∧aN ts' c=.bool (decide (k<N))∧Held (E k a) ts')
 (hs:∀ k a ts h,k<N→J k a h→Held (E k a) ts →
  W P body ts h (λts' h'=>∃ a',J (k+1) a' h'∧∃ ts'',kb h'.next inc (some (ts',h'))=some (ts'',h')∧Held (E (k+1) a') ts'') Kr
    (λx ts' h'=>(x=B1→∃ a',J (k+1) a' h'∧∃ ts'',kb h'.next inc (some (ts',h'))=some (ts'',h')∧Held (E (k+1) a') ts'')∧(x≠B1→(x=B→Kn ts' h')∧(x≠B→Kx x ts' h'))))
 (hk:∀ a ts h,J N a h→Held (E N a) ts→Kn ts h) :
 W P (.block B (.loop (.seq (.seq (.reg T) (.cond (.t c) .skip (.exit B))) (.seq (.block B1 body) (.reg inc))))) ts h Kn Kr Kx:=by
 refine cY (fX (λm ts h=>∃ k a,m=N-k∧k≤N∧J k a h∧Held (E k a) ts) ?_ (n:=N) ⟨0,a0,rfl,ft _,hJ,h0⟩)
 rintro m ts h ⟨k,a,rfl,hk1,hj,e3⟩
 obtain⟨ts1,t1,t2,t3⟩:=hT k a ts h hk1 hj e3
 refine ai (ai (au t1 ?_))
 refine kG (t:=decide (k<N)) (by rw[FI,t2]) (λq=>?_) λq=>?_
 ·have q:k<N:=du q
  refine bH (ai (cY ?_))
  have hb:=hs k a ts1 h q hj t3
  have key:∀ ts' h',(∃ a',J (k+1) a' h'∧∃ ts'',kb h'.next inc (some (ts',h'))=some (ts'',h')∧Held (E (k+1) a') ts'') →
   W P (.reg inc) ts' h' (λts' h'=>∃ m,m<N-k∧∃ k a,m=N-k∧k≤N∧J k a h'∧Held (E k a) ts') Kr (λi ts h=>(i=B→Kn ts h)∧(i≠B→Kx i ts h)):=by
   rintro ts' h' ⟨a',f4,ts'',f1,f3⟩
   exact au f1 ⟨N-(k+1),om,k+1,a',rfl,om,f4,f3⟩
  refine lW body hb (λts' h' q=>key ts' h' q) (λ_ _ q=>q) λx ts' h' q=>⟨λe=>key ts' h' (q.1 e),λe=>⟨λe2=>(q.2 e).1 e2,λe2=>(q.2 e).2 e2⟩⟩
 ·have q:¬ k<N:=of_decide_eq_false q
  have e:k=N:=om
  subst e
  exact fC ⟨λ_=>hk a _ _ hj t3,λe=>absurd rfl e⟩
theorem W.upto {P:RP}{c:RC}{Kn Kr:Tm→AH→Prop}{Kx:Nat→Tm→AH→Prop} (N:Nat) (I:Nat→Tm→AH→Prop) (hs:∀ k ts h,k≤N→I k ts h→W P c ts h (λts' h'=>k<N∧I (k+1) ts' h') Kr Kx) {ts:Tm}{h:AH} (hi:I 0 ts h):W P (.loop c) ts h Kn Kr Kx:=by
 refine fX (λm ts h=>∃ k,m=N-k∧k≤N∧I k ts h) ?_ (n:=N) ⟨0,rfl,ft _,hi⟩
 rintro m ts h ⟨k,rfl,hk,hi⟩
 exact lW c (hs k ts h hk hi) (λts' h' q=>⟨N-(k+1),om,k+1,rfl,om,q.2⟩) (λ_ _ q=>q) λ_ _ _ q=>q
theorem W.rangeF {P:RP}{fn:FuncId}{p:List Bool}{f:RO}{ps:List Nat}{asg body:RC}{ts:Tm}{h:AH}{Kn Kr:Tm→AH→Prop}{Kx:Nat→Tm→AH→Prop}{g:FuncId}{caps:List AV}{Q:AV→AH→Prop} (hf:RO.ev ts f=.fn g caps)
 (hc:C P g (.yld h.next::caps) (h.new (.lp fn p ts ps .ready none)) Q) (he:∀ v h',Q v h'→(∃ f1 p1 t1 q1,h'.get h.next=some (.lp f1 p1 t1 q1 .ready none))∧∀ f1 p1 t1 q1,Kn ts (h'.put h.next (.lp f1 p1 t1 q1 .over none))):W P (.rangeF fn p f ps asg body) ts h Kn Kr Kx:=by
 refine BS.rangeF hf hc λv h' ⟨v',h'',e,q⟩=>?_
 cases e
 obtain⟨⟨f1,p1,t1,q1,hg⟩,hk⟩:=he v h' q
 exact⟨f1,p1,t1,q1,.ready,none,hg,by decide,hk f1 p1 t1 q1⟩
theorem Y.round {P:RP}{b:Nat}{args:List AV}{h:AH}{fn:FuncId}{p:List Bool}{tl:Tm}{ps:List Nat}{rf:RF}{f:RO}{asg body:RC}{Q:AV→AH→Prop} (hg:h.get b=some (.lp fn p tl ps .ready none)) (hl:args.length=ps.length) (hP:P fn=some rf) (hn:rf.body.node p=some (.rangeF fn p f ps asg body))
 (hw:W P asg (lB tl ps args) h (λts1 h1=>h1=h∧W P body ts1 (h.put b (.lp fn p tl ps .busy none)) (λ_ h2=>h2.get b=some (.lp fn p tl ps .busy none)∧Q (.bool true) (h2.put b (.lp fn p tl ps .ready none))) (λ_ _=>False) λ_ _ _=>False) (λ_ _=>False) λ_ _ _=>False):Y P b args h Q:=by
 refine BS.round hg hl hP hn (jB _ hw) ?_ (S2:=fin (λ_ h2=>h2.get b=some (.lp fn p tl ps .busy none)∧Q (.bool true) (h2.put b (.lp fn p tl ps .ready none))) (λ_ _=>False) λ_ _ _=>False) ?_ ?_
 ·intro o ho
  cases o with
  | norm ts1 h1=>obtain⟨rfl,_⟩:=ho; exact⟨_,_,_,_,_,_,rfl,hg⟩
  | exit=>exact ho.elim
  | ret=>exact ho.elim
  | val=>exact ho.elim
 ·intro ts1 h1 f1 p1 tl1 ps1 ho hg1
  obtain⟨rfl,hw2⟩:=ho
  rw[hg] at hg1
  simp only[aa,AO.lp.injEq,and_true] at hg1
  obtain⟨rfl,rfl,rfl,rfl⟩:=hg1
  exact jB _ hw2
 ·intro o ho
  cases o with
  | norm ts2 h2=>exact⟨_,_,_,_,ho.1,_,_,rfl,ho.2⟩
  | exit=>exact ho.elim
  | ret=>exact ho.elim
  | val=>exact ho.elim
structure Kp (S:Nat→Prop) (h h':AH):Prop where
 nx:h.next≤h'.next
 gt:∀ c,c<h.next→¬ S c→h'.get c=h.get c
 ty:∀ c,c<h.next→h'.tyOf c=h.tyOf c
theorem Kp.refl {S:Nat→Prop}{h:AH}:Kp S h h:=⟨ab _,λ_ _ _=>rfl,λ_ _=>rfl⟩
theorem Kp.trans {S T:Nat→Prop}{h h1 h2:AH} (a:Kp S h h1) (b:Kp T h1 h2) (hs:∀ c,c<h.next→T c→S c):Kp S h h2 :=
 ⟨cM a.nx b.nx,λc hc hn=>(b.gt c (cG hc a.nx) λt=>hn (hs c hc t)).trans (a.gt c hc hn),λc hc=>(b.ty c (cG hc a.nx)).trans (a.ty c hc)⟩
theorem Ext.kp {n:Nat}{S:Nat→Prop}{h h':AH} (a:Ext n h h') (hn:h.next≤n):Kp S h h':=⟨a.nx,λc hc _=>a.gt c om,λc hc=>a.ty c om⟩
theorem Kp.mono {S T:Nat→Prop}{h h':AH} (a:Kp S h h') (hs:∀ c,c<h.next→S c→T c):Kp T h h':=⟨a.nx,λc hc hn=>a.gt c hc λs=>hn (hs c hc s),a.ty⟩
theorem Upd.kp {S:Nat→Prop}{h h':AH}{s:Nat}{o:AO} (a:Upd h h' s o) (hs:S s):Kp S h h':=⟨by rw[a.nx]; exact ab _,λc _ hn=>a.ne λe=>hn (e▸hs),λc _=>a.ty c⟩
def Off (S:Nat→Prop):AV→Prop
 | .sl b _ _ _=>¬ S b
 | _=>True
theorem Sl.kp {h h':AH}{e:Nat}{v:AV}{xs:List (List AV)}{S:Nat→Prop} (hs:Sl h e v xs) (hk:Kp S h h') (ho:Off S v):Sl h' e v xs :=
 hs.cong λb o n c hv=>hk.gt b (hs.lt hv) (by subst hv; exact ho)
def sT (lo hi mx:Option AV) (len cap:Nat):Option (Nat×Nat×Nat) :=
 match (match mx with|some v=>bnd v cap|none=>some cap) with
 | some m=>match (match hi with | some v=>bnd v m | none=>if mx.isSome then none else some len) with
   | some h=>match (match lo with | some v=>bnd v h | none=>some 0) with
     | some l=>some (l,h,m)
     | none=>none
   | none=>none
 | none=>none
def slV (h:AH) (e:Nat) (x:AV) (lo hi mx:Option AV):Option AV :=
 match x with
 | .nils=>(sT lo hi mx 0 0).map λ_=>.nils
 | .emp=>(sT lo hi mx 0 0).map λ_=>.emp
 | .sl b o n c=>match h.get b with
   | some (.cells _ e' _)=>if e'=e then (sT lo hi mx n c).map λr=>.sl b (if r.2.2=r.1 then o else o+r.1*e) (r.2.1-r.1) (r.2.2-r.1) else none
   | _=>none
 | _=>none
theorem dZ {ev:RO→AV}{h:AH}{e:Nat}{x:AV}{lo hi mx:Option RO}:BJ ev h e x lo hi mx=slV h e x (lo.map ev) (hi.map ev) (mx.map ev):=by
 cases lo<;>cases hi<;>cases mx<;>rfl
theorem jz {k:IntKind}{n y:Nat} (h:n≤y):bnd (.int k (n:Nat)) y=some n:=by
 simp only[bnd]
 rw[if_pos ⟨om,om⟩]
 simp
def InB (S:Nat→Prop):AV→Prop
 | .sl b _ _ _=>S b
 | _=>True
theorem Sl.part {h:AH}{e:Nat}{v:AV}{xs:List (List AV)} (hs:Sl h e v xs) {lo hi:Nat} (h1:lo≤hi) (h2:hi≤xs.length) :
 ∃ v',slV h e v (some (.int .i64 (lo:Nat))) (some (.int .i64 (hi:Nat))) none=some v'∧Sl h e v' ((xs.drop lo).take (hi-lo))∧(∀ S,InB S v→InB S v')∧∀ S,Off S v→Off S v':=by
 rcases hs with ⟨rfl,hn⟩|⟨b,o,c,cs,ro,rfl,hg,hc,hle,hx⟩
 ·simp only[aO,Nat.le_zero] at h2
  subst h2
  have:lo=0:=om
  subst this
  rcases hn with rfl|rfl
  ·exact⟨.nils,rfl,.inl ⟨by simp,.inl rfl⟩,λ_ _=>trivial,λ_ _=>trivial⟩
  ·exact⟨.emp,rfl,.inl ⟨by simp,.inr rfl⟩,λ_ _=>trivial,λ_ _=>trivial⟩
 ·refine⟨.sl b (if c=lo then o else o+lo*e) (hi-lo) (c-lo),?_,.inr ⟨b,if c=lo then o else o+lo*e,c-lo,cs,ro,?_,hg,?_,?_,?_⟩,λ_ q=>q,λ_ q=>q⟩
  ·simp only[slV,hg,if_true,sT,jz (show hi≤c by omega),jz h1,aG]
  ·simp only[bK,de]
   rw[eS om]
  ·simp only[bK,de]
   omega
  ·simp only[bK,de]
   rw[eS om]
   have:lo*e+(hi-lo)*e≤xs.length*e:=by rw[← da]; exact fD _ om
   split
   ·omega
   ·omega
  ·intro i x hi'
   rw[cR] at hi'
   split at hi'
   ·rename_i hlt
    rw[eF] at hi'
    obtain⟨y1,y2⟩:=hx _ _ hi'
    have e1:(lo+i)*e=lo*e+i*e:=da _ _ _
    rw[if_neg om]
    rw[e1,← fO] at y1 y2
    exact⟨y1,y2⟩
   ·cases hi'
theorem Sl.upto {h:AH}{e:Nat}{v:AV}{xs:List (List AV)} (hs:Sl h e v xs) {hi:Nat} (h2:hi≤xs.length) :
 ∃ v',slV h e v none (some (.int .i64 (hi:Nat))) none=some v'∧Sl h e v' (xs.take hi)∧(∀ S,InB S v→InB S v')∧∀ S,Off S v→Off S v':=by
 obtain⟨v',a,b,c⟩:=hs.part (ft hi) h2
 refine⟨v',?_,by simpa using b,c⟩
 rw[← a]
 have:∀ y,(match (some (AV.int .i64 ((0:Nat):Int)):Option AV) with|some v=>bnd v y|none=>some 0)=some 0:=λy=>jz (ft y)
 unfold slV sT
 simp only[this]
theorem Sl.from {h:AH}{e:Nat}{v:AV}{xs:List (List AV)} (hs:Sl h e v xs) {lo:Nat} (h2:lo≤xs.length) :
 ∃ v',slV h e v (some (.int .i64 (lo:Nat))) none none=some v'∧Sl h e v' (xs.drop lo)∧(∀ S,InB S v→InB S v')∧∀ S,Off S v→Off S v':=by
 obtain⟨v',a,b,c⟩:=hs.part h2 (ab _)
 refine⟨v',?_,?_,c⟩
 ·rw[← a]
  rcases hs with ⟨rfl,rfl|rfl⟩|⟨b,o,cc,cs,ro,rfl,hg,hc,hle,hx⟩
  ·rfl
  ·rfl
  ·unfold slV sT
   simp only[jz hc,gU,bB,if_false]
 ·rwa [dg (by simp)] at b
theorem Sl.src {h:AH}{e:Nat}{v:AV}{xs:List (List AV)} (hs:Sl h e v xs):eM h e v=some (xs.length,xs.flatten)∧xs.flatten.length=xs.length*e:=by
 rcases hs with ⟨rfl,rfl|rfl⟩|⟨b,o,c,cs,ro,rfl,hg,hc,hle,hx⟩
 ·exact⟨rfl,by simp⟩
 ·exact⟨rfl,by simp⟩
 ·have key:∀ (xs:List (List AV)) (o:Nat),(∀ i x,xs[i]?=some x→o+i*e+e≤cs.length∧(cs.drop (o+i*e)).take e=x)→(xs≠[]→o+xs.length*e≤cs.length)∧(cs.drop o).take (xs.length*e)=xs.flatten∧xs.flatten.length=xs.length*e:=by
   intro xs
   induction xs with
   | nil=>intro o _; exact⟨λq=>absurd rfl q,by simp,by simp⟩
   | cons x r ih =>
     intro o hx
     obtain⟨a1,a2⟩:=hx 0 x rfl
     simp only[ng,cZ] at a1 a2
     obtain⟨b1,b2,b3⟩:=ih (o+e) λi y hy=>by
      have:=hx (i+1) y (by simpa using hy)
      rw[show o+(i+1)*e=o+e+i*e by rw[da]; omega] at this
      exact this
     have hxl:x.length=e:=by rw[← a2,bK,de]; omega
     have e1:(x::r).length*e=e+r.length*e:=by simp only[aB,da]; omega
     refine⟨λ_=>?_,?_,?_⟩
     ·by_cases hr:r=[]
      ·subst hr; simp only[aB,aO,bS,mh]; exact a1
      ·have:=b1 hr; omega
     ·rw[e1,gf,List.take_add,a2,Kz,b2]
     ·rw[e1,gf,aC,hxl,b3]
  obtain⟨k1,k2,k3⟩:=key xs o hx
  refine⟨?_,k3⟩
  simp only[eM]
  rw[aW hg,if_pos hle,k2]
  rfl
theorem G.gyield {P:RP}{b:Nat}{l l2:List ROper}{s:Option (Tm×AH)}{K:Tm→AH→Prop}{ts:Tm}{h:AH}{d:Option Nat}{x:RO}{c:Nat}{args:List RO}{g:Option (Nat×Bool)}{nm:Option Nat}{vs:List AV}{Q:AV→AH→Prop} (n:Nat)
 (hs:kb b (l.take n) s=some (ts,h)) (hd:l.drop n=⟨d,.callv x args,g,nm,[]⟩::l2) (hw:wanted ts g=some true) (hx:RO.ev ts x=.yld c) (ha:args.map (RO.ev ts)=vs) (hc:Y P c vs h Q)
 (hk:∀ v h',Q v h'→G P b l2 (some (dY ts d v,h')) K):G P b l s K:=by
 subst ha
 rw[← cA n l]
 refine qd ?_
 rw[hs,hd]
 exact G.yield hw hx (hc.mono λv h' q=>⟨rfl,hk v h' q⟩)
theorem dm {ev:RO→AV}{h:AH}{n e k:Nat}{z:List AV}{ps:List (Nat×Nat×RO)} (hg:h.get n=some .resv):iJ ev h n (.mksl z e k ps)=(fill ev (cI z k) ps).map λcs=>(.sl n 0 k k,h.put n (.cells cs e false)):=by
 rw[lK hg]
 simp only[lay]
 cases fill ev (cI z k) ps<;>rfl
def Ia (z:List AV) (bytes:Nat) (l c:AV):Option (Nat×Nat×List AV) :=
 match l,c with
 | .int _ l,.int _ c=>if 0≤l∧l≤c∧c<aU∧c*bytes<aU then some (l.toNat,c.toNat,cI z c.toNat) else none
 | _,_=>none
theorem mB {z:List AV}{bytes n:Nat} (h1:n<aU) (h2:n*bytes<aU):Ia z bytes (.int .i64 (n:Nat)) (.int .i64 (n:Nat))=some (n,n,cI z n):=by
 simp only[Ia]
 rw[if_pos ⟨om,om,om,by rw[← Jo]; omega⟩]
 simp
theorem mC {h:AH}{z:List AV}{e bytes n:Nat} (h1:n<aU) (h2:n*bytes<aU):Cp h z e bytes (.int .i64 (n:Nat)) (.int .i64 (n:Nat))=some (.sl h.next 0 n n,h.new (.cells (cI z n) e false)):=by
 simp only[Cp]
 rw[if_pos ⟨om,om,om,by rw[← Jo]; omega⟩]
 simp
theorem gY {ev:RO→AV}{h:AH}{n e b:Nat}{z:List AV}{l c:RO} (hg:h.get n=some .resv):iJ ev h n (.mks z e b l c)=(Ia z b (ev l) (ev c)).map λp=>(.sl n 0 p.1 p.2.1,h.put n (.cells p.2.2 e false)):=by
 rw[lK hg]
 simp only[lay,Ia]
 cases ev l<;>cases ev c<;>try rfl
 rename_i k1 x k2 y
 by_cases q:0≤x∧x≤y∧y<aU∧y*b<aU
 ·simp only[if_pos q]; rfl
 ·simp only[if_neg q]; rfl
def IX (k:Nat) (x:AV):Option (List AV):=if x.cells.length=k then some x.cells else none
theorem uh {ev:RO→AV}{h:AH}{n e k:Nat}{x:RO} (hg:h.get n=some .resv):iJ ev h n (.box e k x)=(IX k (ev x)).map λcs=>(.ptr n 0,h.put n (.cells cs e false)):=by
 rw[lK hg]
 simp only[lay,IX]
 by_cases q:(ev x).cells.length=k
 ·simp only[if_pos q]; rfl
 ·simp only[if_neg q]; rfl
theorem sz {k:Nat}{cs:List AV} (h:cs.length=k):IX k (.agg cs)=some cs:=by
 simp only[IX,uE,h,if_true]
theorem iQ {h:AH}:(h.keep 1).get h.next=some .resv:=by
 rw[AH.keep_get,if_pos ⟨om,om⟩]
theorem pk {h:AH}{o:AO}:Ext h.next h ((h.keep 1).put h.next o)∧((h.keep 1).put h.next o).get h.next=some o∧((h.keep 1).put h.next o).next=h.next+1∧∀ c,c<h.next→((h.keep 1).put h.next o).get c=h.get c:=by
 have hn:(h.keep 1).next=h.next+1:=AH.keep_next 1 h
 have k:∀ c,c<h.next→((h.keep 1).put h.next o).get c=h.get c:=λc hc=>by
  rw[AH.get_put _ _ _ _ (by rw[hn]; omega),if_neg om,AH.keep_get,if_neg om]
 exact⟨⟨by rw[AH.next_put,hn]; omega,k,λ_ _=>rfl⟩,by rw[AH.get_put _ _ _ _ (by rw[hn]; omega),if_pos rfl],by rw[AH.next_put,hn],k⟩
theorem gH {h:AH}{z cs:List AV}{e:Nat} (hl:z.length=cs.length):∃ h1,bX (h.new (.cells z e false)) h.next 0 cs=some h1∧Ext h.next h h1∧h1.get h.next=some (.cells cs e false)∧h1.next=h.next+1:=by
 have g:(h.new (.cells z e false)).get h.next=some (.cells z e false):=by rw[AH.get_new,if_pos rfl]
 refine⟨(h.new (.cells z e false)).put h.next (.cells cs e false),?_,(KH (ab _)).trans (Ext.put (ab _)),(KJ g).get,rfl⟩
 rw[fz g,if_pos om]
 congr 3
 simp only[dL,eD,bp,bS]
 rw[dP om,cX]
theorem AH.keep_tyOf:∀ (k:Nat) (h:AH) {c:Nat},(h.keep k).tyOf c=h.tyOf c
 | 0,_,_=>rfl
 | k+1,h,c=>by
   show ((h.new .resv).keep k).tyOf c=_
   rw[AH.keep_tyOf k (h.new .resv)]
   rfl
theorem jR {x:AV}:∀ n:Nat,cI [x] n=List.replicate n x
 | 0=>rfl
 | n+1=>by rw[cI,jR n]; rfl
theorem yG {cs:List AV}{i:Nat}{v:AV} (hi:i<cs.length):dL cs i [v]=cs.set i v:=by
 refine eC λj=>?_
 rw[fV (by simp only[aB,aO]; omega),dW]
 simp only[aB,aO]
 by_cases e:i=j
 ·subst e
  rw[if_pos ⟨om,om⟩,if_pos rfl,if_pos hi,dT]
  rfl
 ·rw[if_neg om,if_neg e]
theorem br {h:AH}{b i e:Nat}{cs:List AV}{ro:Bool}{v:AV} (hg:h.get b=some (.cells cs e ro)) (hi:cs[i]?=some v):ak h b i 1=some [v]:=by
 obtain⟨hl,h2⟩:=aL.1 hi
 rw[aW hg,if_pos om,cw hl,h2]
 rfl
theorem gj {h:AH}{b i e:Nat}{cs:List AV}{v:AV} (hg:h.get b=some (.cells cs e false)) (hi:i<cs.length):bX h b i [v]=some (h.put b (.cells (cs.set i v) e false)):=by
 rw[fz hg,if_pos (by simp only[aB,aO]; omega),yG hi]
theorem Aa {P:RP}{kn:Nat}{ops:List ROper}{ts:Tm}{h:AH}{Kn Kr:Tm→AH→Prop}{Kx:Nat→Tm→AH→Prop}{ts':Tm}{h':AH} (hs:kb h.next ops (some (ts,h.keep kn))=some (ts',h')) (hk:Kn ts' h'):W P (.regK kn ops) ts h Kn Kr Kx:=lV (bP hs hk)
theorem Sl.row {h:AH}{b n c:Nat}{vs:List AV}{ro:Bool} (hg:h.get b=some (.cells vs 1 ro)) (hn:vs.length=n) (hc:n≤c):Sl h 1 (.sl b 0 n c) (vs.map λx=>[x]):=by
 subst hn
 refine .inr ⟨b,0,c,vs,ro,by rw[ae],hg,by rw[ae]; exact hc,by rw[ae]; omega,λi x hi=>?_⟩
 rw[aF] at hi
 obtain⟨y,hy,rfl⟩:=aD.1 hi
 obtain⟨hl,h2⟩:=aL.1 hy
 refine⟨om,?_⟩
 rw[bS,aP,cw hl,h2]
 rfl
theorem kX {ts:Tm}{f:FuncId}:RO.ev ts (.fu f)=.fn f []:=rfl
theorem DT {h:AH}{e b L k c:Nat}{cs:List AV}{ro:Bool} (hg:h.get b=some (.cells cs e ro)) (hk:k<c) (hL:L≤c) (hkL:k≤L):slV h e (.sl b 0 L c) (some (.int .i64 (k:Nat))) none none=some (.sl b (k*e) (L-k) (c-k)):=by
 have h1:=jz (k:=.i64) hL
 have h2:=jz (k:=.i64) hkL
 simp only[slV,hg,if_true,sT,h2,aG,gU,bB,if_false]
 rw[if_neg om,bS]
theorem Kv {h:AH}{b o c:Nat}{cs:List AV}{d:Array Int} (hg:h.get b=some (lS cs o d)) (hr:o+d.size≤cs.length) (hc:d.size≤c):SlI h (.sl b o d.size c) d.toList:=by
 have hr':o+(gI d).length≤cs.length:=by rw[gP]; exact hr
 have hl:=jN hr'
 refine .inr ⟨b,o,c,_,false,by rw[ae]; rfl,hg,by rw[ae]; exact hc,by rw[ae,hl]; have:d.toList.length=d.size:=rfl; omega,λi x hi=>?_⟩
 rw[aF] at hi
 obtain⟨y,hy,rfl⟩:=aD.1 hi
 have hil:i<d.size:=(aL.1 hy).1
 have hk:(dL cs o (gI d))[o+i]?=some (.int .i64 y):=by
  rw[fV hr',if_pos ⟨om,by rw[gP]; omega⟩,show o+i-o=i by omega]
  unfold gI
  rw[aF,hy]
  rfl
 obtain⟨hlt,hk2⟩:=aL.1 hk
 refine⟨om,?_⟩
 rw[aP,cw hlt,hk2]
 rfl
theorem H1 {q0 p:Prop} (f0:q0) (h:q0→p:=by intro f0; simp only[hl,am,aH,simprocAttr,f0]):p:=h f0
theorem H2 {q0 q1 p:Prop} (f0:q0) (f1:q1) (h:q0→q1→p:=by intro f0 f1; simp only[hl,am,aH,simprocAttr,f0,f1]):p:=h f0 f1
theorem H3 {q0 q1 q2 p:Prop} (f0:q0) (f1:q1) (f2:q2) (h:q0→q1→q2→p:=by intro f0 f1 f2; simp only[hl,am,aH,simprocAttr,f0,f1,f2]):p:=h f0 f1 f2
theorem H4 {q0 q1 q2 q3 p:Prop} (f0:q0) (f1:q1) (f2:q2) (f3:q3) (h:q0→q1→q2→q3→p:=by intro f0 f1 f2 f3; simp only[hl,am,aH,simprocAttr,f0,f1,f2,f3]):p:=h f0 f1 f2 f3
theorem H5 {q0 q1 q2 q3 q4 p:Prop} (f0:q0) (f1:q1) (f2:q2) (f3:q3) (f4:q4) (h:q0→q1→q2→q3→q4→p:=by intro f0 f1 f2 f3 f4; simp only[hl,am,aH,simprocAttr,f0,f1,f2,f3,f4]):p:=h f0 f1 f2 f3 f4
theorem H6 {q0 q1 q2 q3 q4 q5 p:Prop} (f0:q0) (f1:q1) (f2:q2) (f3:q3) (f4:q4) (f5:q5) (h:q0→q1→q2→q3→q4→q5→p:=by intro f0 f1 f2 f3 f4 f5; simp only[hl,am,aH,simprocAttr,f0,f1,f2,f3,f4,f5]):p:=h f0 f1 f2 f3 f4 f5
theorem H7 {q0 q1 q2 q3 q4 q5 q6 p:Prop} (f0:q0) (f1:q1) (f2:q2) (f3:q3) (f4:q4) (f5:q5) (f6:q6) (h:q0→q1→q2→q3→q4→q5→q6→p:=by intro f0 f1 f2 f3 f4 f5 f6; simp only[hl,am,aH,simprocAttr,f0,f1,f2,f3,f4,f5,f6]):p:=h f0 f1 f2 f3 f4 f5 f6
theorem H8 {q0 q1 q2 q3 q4 q5 q6 q7 p:Prop} (f0:q0) (f1:q1) (f2:q2) (f3:q3) (f4:q4) (f5:q5) (f6:q6) (f7:q7) (h:q0→q1→q2→q3→q4→q5→q6→q7→p:=by intro f0 f1 f2 f3 f4 f5 f6 f7; simp only[hl,am,aH,simprocAttr,f0,f1,f2,f3,f4,f5,f6,f7]):p:=h f0 f1 f2 f3 f4 f5 f6 f7
theorem Hi0 {p:Prop} (h:p:=by simp only[hl,am,aH,simprocAttr,bN]):p:=h
theorem Hi1 {q0 p:Prop} (f0:q0) (h:q0→p:=by intro f0; simp only[hl,am,aH,simprocAttr,bN,f0]):p:=h f0
theorem Hi2 {q0 q1 p:Prop} (f0:q0) (f1:q1) (h:q0→q1→p:=by intro f0 f1; simp only[hl,am,aH,simprocAttr,bN,f0,f1]):p:=h f0 f1
theorem O1 {q0 p:Prop} (f0:q0) (h:q0→p:=by intro f0; simp only[cq,cQ,am,aH,↓reduceIte,Nat.reduceEqDiff,Int.reduceEq,Nat.reduceAdd,Nat.reduceLeDiff,reduceCtorEq,f0]):p:=h f0
theorem O2 {q0 q1 p:Prop} (f0:q0) (f1:q1) (h:q0→q1→p:=by intro f0 f1; simp only[cq,cQ,am,aH,↓reduceIte,Nat.reduceEqDiff,Int.reduceEq,Nat.reduceAdd,Nat.reduceLeDiff,reduceCtorEq,f0,f1]):p:=h f0 f1
theorem Oi0 {p:Prop} (h:p:=by simp only[cq,cQ,am,aH,↓reduceIte,Nat.reduceEqDiff,Int.reduceEq,Nat.reduceAdd,Nat.reduceLeDiff,reduceCtorEq,bN]):p:=h
theorem Oi1 {q0 p:Prop} (f0:q0) (h:q0→p:=by intro f0; simp only[cq,cQ,am,aH,↓reduceIte,Nat.reduceEqDiff,Int.reduceEq,Nat.reduceAdd,Nat.reduceLeDiff,reduceCtorEq,bN,f0]):p:=h f0
def KF:=@AH.keep_tyOf
def KG:=@Sl.row
end Go.Am
