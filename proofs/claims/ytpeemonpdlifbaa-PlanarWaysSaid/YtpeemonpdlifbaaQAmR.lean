/-
  Loops over rows, ranges over functions; what is kept.
-/
import Derived.Test.YtpeemonpdlifbaaQAmL
set_option linter.all false
namespace Go.Am
def Held:List (Nat×AV)→Tm→Prop
 | [],_=>True
 | p::r,ts=>tget ts p.1=p.2∧Held r ts
theorem held_nil {ts:Tm}:Held [] ts=True:=rfl
theorem held_cons {a:Nat}{v:AV}{r:List (Nat×AV)}{ts:Tm}:Held ((a,v)::r) ts=(tget ts a=v∧Held r ts):=rfl
def hl:=And.intro @held_cons @held_nil
theorem Held.put {n:Nat}{x:AV}{ts:Tm}:∀ {E:List (Nat×AV)},(E.all fun p=>p.1 != n)=true→Held E ts→Held E (tput ts n x)
 | [],_,_=>trivial
 | (a,v)::r,ho,⟨h1,h2⟩=>by
   simp only[List.all_cons,Bool.and_eq_true,bne_iff_ne,ne_eq] at ho
   refine⟨?_,Held.put ho.2 h2⟩
   show tget (tput ts n x) a=v
   rw[tget_tput,if_neg (Ne.symm ho.1),h1]
def okRng (E:List (Nat×AV)) (i n c j:Nat):Bool:=(E.all fun p=>p.1 != i&&p.1 != c&&p.1 != j&&p.1 != n)&&n != i&&n != c&&n != j&&i != c&&c != j&&i != j
theorem all_imp {α:Type}{p q:α→Bool}{l:List α} (h:l.all p=true) (hpq:∀ x,p x=true→q x=true):l.all q=true:=by
 rw[List.all_eq_true] at *
 exact fun x hx=>hpq x (h x hx)
theorem W.rng {α:Type}{P:RP}{B B1 i n c j:Nat}{body:RC}{N:Nat}{Kn Kr:Tm→AH→Prop}{Kx:Nat→Tm→AH→Prop}{ts:Tm}{h:AH} (E:Nat→α→List (Nat×AV)) (J:Nat→α→AH→Prop) (a0:α) (ok:∀ k a,okRng (E k a) i n c j=true) (hN:N<2 ^ 62)
 (h0:Held ((i,.int .i64 0)::(n,.int .i64 (N:Nat))::E 0 a0) ts) (hJ:J 0 a0 h)
 (hs:∀ k a ts h,k<N→J k a h→Held ((i,.int .i64 (k:Nat))::(n,.int .i64 (N:Nat))::E k a) ts →
  W P body ts h (fun ts' h'=>∃ a',J (k+1) a' h'∧Held ((i,.int .i64 (k:Nat))::(n,.int .i64 (N:Nat))::E (k+1) a') ts') Kr
    (fun x ts' h'=>(x=B1→∃ a',J (k+1) a' h'∧Held ((i,.int .i64 (k:Nat))::(n,.int .i64 (N:Nat))::E (k+1) a') ts')∧(x≠B1→(x=B→Kn ts' h')∧(x≠B→Kx x ts' h'))))
 (hk:∀ a ts h,J N a h→Held (E N a) ts→Kn ts h) :
 W P (.block B (.loop (.seq (.reg [⟨some c,.bin .lss .no (.t i) (.t n),none,none,[]⟩]) (.seq (.cond (.t c) .skip (.exit B)) (.seq (.block B1 body) (.reg [⟨some j,.bin .add .no (.t i) (.c (.int .i64 1)),none,none,[]⟩,⟨some i,.mov (.t j),none,none,[]⟩])))))) ts h Kn Kr Kx:=by
 have ok1:∀ k a,((E k a).all fun p=>p.1 != c)=true:=fun k a=>by
  have:=ok k a
  simp only[okRng,Bool.and_eq_true] at this
  exact all_imp this.1.1.1.1.1.1 fun x hx=>by simp only[Bool.and_eq_true] at hx; exact hx.1.1.2
 have ok2:∀ k a,((E k a).all fun p=>p.1 != i)=true:=fun k a=>by
  have:=ok k a
  simp only[okRng,Bool.and_eq_true] at this
  exact all_imp this.1.1.1.1.1.1 fun x hx=>by simp only[Bool.and_eq_true] at hx; exact hx.1.1.1
 have ok3:∀ k a,((E k a).all fun p=>p.1 != j)=true:=fun k a=>by
  have:=ok k a
  simp only[okRng,Bool.and_eq_true] at this
  exact all_imp this.1.1.1.1.1.1 fun x hx=>by simp only[Bool.and_eq_true] at hx; exact hx.1.2
 have ok0:=ok 0 a0
 simp only[okRng,Bool.and_eq_true,bne_iff_ne,ne_eq] at ok0
 obtain⟨⟨⟨⟨⟨⟨_,o1⟩,o2⟩,o3⟩,o4⟩,o5⟩,o6⟩:=ok0
 obtain⟨h01,h02,h03⟩:=h0
 refine W.block (W.loop (fun m ts h=>∃ k a,m=N-k∧k≤N∧J k a h∧tget ts i=.int .i64 (k:Nat)∧tget ts n=.int .i64 (N:Nat)∧Held (E k a) ts) ?_ (n:=N) ⟨0,a0,rfl,Nat.zero_le _,hJ,h01,h02,h03⟩)
 rintro m ts h ⟨k,a,rfl,hk1,hj,e1,e2,e3⟩
 refine W.seq (W.run (ts':=tput ts c (.bool (decide (k<N)))) (h':=h) (by simp only[stps_nil,stps_cons,stp_some,ckR_nil,putR_some,gd_true,wanted_none,dput_some,evN_none,evOp,ev_t,e1,e2,bin_lss,Option.map_some,Int.ofNat_lt]) ?_)
 refine W.seq (W.cond (t:=decide (k<N)) (by rw[ev_t,tget_tput,if_pos rfl]) (fun q=>?_) fun q=>?_)
 ·have q:k<N:=of_decide_eq_true q
  refine W.skip (W.seq (W.block ?_))
  have hb:=hs k a (tput ts c (.bool (decide (k<N)))) h q hj ⟨by rw[tget_tput,if_neg (Ne.symm o4),e1],by rw[tget_tput,if_neg (Ne.symm o2),e2],Held.put (ok1 k a) e3⟩
  have key:∀ ts' h',(∃ a',J (k+1) a' h'∧Held ((i,.int .i64 (k:Nat))::(n,.int .i64 (N:Nat))::E (k+1) a') ts') →
   W P (.reg [⟨some j,.bin .add .no (.t i) (.c (.int .i64 1)),none,none,[]⟩,⟨some i,.mov (.t j),none,none,[]⟩]) ts' h' (fun ts' h'=>∃ m,m<N-k∧∃ k a,m=N-k∧k≤N∧J k a h'∧tget ts' i=.int .i64 (k:Nat)∧tget ts' n=.int .i64 (N:Nat)∧Held (E k a) ts') Kr (fun i ts h=>(i=B→Kn ts h)∧(i≠B→Kx i ts h)):=by
   rintro ts' h' ⟨a',f4,f1,f2,f3⟩
   have f1:tget ts' i=.int .i64 (k:Nat):=f1
   have f2:tget ts' n=.int .i64 (N:Nat):=f2
   have w1:IntKind.i64.wrap (((k:Nat):Int)+1)=((k+1:Nat):Int):=wr64 (by omega) (by omega)
   refine W.run (ts':=tput (tput ts' j (.int .i64 ((k+1:Nat):Int))) i (.int .i64 ((k+1:Nat):Int))) (h':=h') (by simp only[stps_nil,stps_cons,stp_some,ckR_nil,putR_some,gd_true,wanted_none,dput_some,evN_none,evOp,ev_t,ev_c,f1,bin_add,w1,Option.map_some,tget_tput,if_true]) ?_
   exact⟨N-(k+1),by omega,k+1,a',rfl,by omega,f4,by rw[tget_tput,if_pos rfl],by rw[tget_tput,if_neg (Ne.symm o1),tget_tput,if_neg (Ne.symm o3),f2],Held.put (ok2 _ _) (Held.put (ok3 _ _) f3)⟩
  refine W.mono body hb (fun ts' h' q=>key ts' h' q) (fun _ _ q=>q) fun x ts' h' q=>⟨fun e=>key ts' h' (q.1 e),fun e=>⟨fun e2=>(q.2 e).1 e2,fun e2=>(q.2 e).2 e2⟩⟩
 ·have q:¬ k<N:=of_decide_eq_false q
  have e:k=N:=by omega
  subst e
  exact W.exit ⟨fun _=>hk a _ _ hj (Held.put (ok1 _ _) e3),fun e=>absurd rfl e⟩
theorem W.whl {α:Type}{P:RP}{B B1 c:Nat}{T inc:List ROper}{body:RC}{N:Nat}{Kn Kr:Tm→AH→Prop}{Kx:Nat→Tm→AH→Prop}{ts:Tm}{h:AH} (E:Nat→α→List (Nat×AV)) (J:Nat→α→AH→Prop) (a0:α)
 (h0:Held (E 0 a0) ts) (hJ:J 0 a0 h)
 (hT:∀ k a ts h,k≤N→J k a h→Held (E k a) ts→∃ ts',stps h.next T (some (ts,h))=some (ts',h)∧tget ts' c=.bool (decide (k<N))∧Held (E k a) ts')
 (hs:∀ k a ts h,k<N→J k a h→Held (E k a) ts →
  W P body ts h (fun ts' h'=>∃ a',J (k+1) a' h'∧∃ ts'',stps h'.next inc (some (ts',h'))=some (ts'',h')∧Held (E (k+1) a') ts'') Kr
    (fun x ts' h'=>(x=B1→∃ a',J (k+1) a' h'∧∃ ts'',stps h'.next inc (some (ts',h'))=some (ts'',h')∧Held (E (k+1) a') ts'')∧(x≠B1→(x=B→Kn ts' h')∧(x≠B→Kx x ts' h'))))
 (hk:∀ a ts h,J N a h→Held (E N a) ts→Kn ts h) :
 W P (.block B (.loop (.seq (.seq (.reg T) (.cond (.t c) .skip (.exit B))) (.seq (.block B1 body) (.reg inc))))) ts h Kn Kr Kx:=by
 refine W.block (W.loop (fun m ts h=>∃ k a,m=N-k∧k≤N∧J k a h∧Held (E k a) ts) ?_ (n:=N) ⟨0,a0,rfl,Nat.zero_le _,hJ,h0⟩)
 rintro m ts h ⟨k,a,rfl,hk1,hj,e3⟩
 obtain⟨ts1,t1,t2,t3⟩:=hT k a ts h hk1 hj e3
 refine W.seq (W.seq (W.run t1 ?_))
 refine W.cond (t:=decide (k<N)) (by rw[ev_t,t2]) (fun q=>?_) fun q=>?_
 ·have q:k<N:=of_decide_eq_true q
  refine W.skip (W.seq (W.block ?_))
  have hb:=hs k a ts1 h q hj t3
  have key:∀ ts' h',(∃ a',J (k+1) a' h'∧∃ ts'',stps h'.next inc (some (ts',h'))=some (ts'',h')∧Held (E (k+1) a') ts'') →
   W P (.reg inc) ts' h' (fun ts' h'=>∃ m,m<N-k∧∃ k a,m=N-k∧k≤N∧J k a h'∧Held (E k a) ts') Kr (fun i ts h=>(i=B→Kn ts h)∧(i≠B→Kx i ts h)):=by
   rintro ts' h' ⟨a',f4,ts'',f1,f3⟩
   exact W.run f1 ⟨N-(k+1),by omega,k+1,a',rfl,by omega,f4,f3⟩
  refine W.mono body hb (fun ts' h' q=>key ts' h' q) (fun _ _ q=>q) fun x ts' h' q=>⟨fun e=>key ts' h' (q.1 e),fun e=>⟨fun e2=>(q.2 e).1 e2,fun e2=>(q.2 e).2 e2⟩⟩
 ·have q:¬ k<N:=of_decide_eq_false q
  have e:k=N:=by omega
  subst e
  exact W.exit ⟨fun _=>hk a _ _ hj t3,fun e=>absurd rfl e⟩
theorem W.rangeF {P:RP}{fn:FuncId}{p:List Bool}{f:RO}{ps:List Nat}{asg body:RC}{ts:Tm}{h:AH}{Kn Kr:Tm→AH→Prop}{Kx:Nat→Tm→AH→Prop}{g:FuncId}{caps:List AV}{Q:AV→AH→Prop} (hf:RO.ev ts f=.fn g caps)
 (hc:C P g (.yld h.next::caps) (h.new (.lp fn p ts ps .ready none)) Q) (he:∀ v h',Q v h'→(∃ f1 p1 t1 q1,h'.get h.next=some (.lp f1 p1 t1 q1 .ready none))∧∀ f1 p1 t1 q1,Kn ts (h'.put h.next (.lp f1 p1 t1 q1 .over none))):W P (.rangeF fn p f ps asg body) ts h Kn Kr Kx:=by
 refine BS.rangeF hf hc fun v h' ⟨v',h'',e,q⟩=>?_
 cases e
 obtain⟨⟨f1,p1,t1,q1,hg⟩,hk⟩:=he v h' q
 exact⟨f1,p1,t1,q1,.ready,none,hg,by decide,hk f1 p1 t1 q1⟩
theorem Y.round {P:RP}{b:Nat}{args:List AV}{h:AH}{fn:FuncId}{p:List Bool}{tl:Tm}{ps:List Nat}{rf:RF}{f:RO}{asg body:RC}{Q:AV→AH→Prop} (hg:h.get b=some (.lp fn p tl ps .ready none)) (hl:args.length=ps.length) (hP:P fn=some rf) (hn:rf.body.node p=some (.rangeF fn p f ps asg body))
 (hw:W P asg (setAll tl ps args) h (fun ts1 h1=>h1=h∧W P body ts1 (h.put b (.lp fn p tl ps .busy none)) (fun _ h2=>h2.get b=some (.lp fn p tl ps .busy none)∧Q (.bool true) (h2.put b (.lp fn p tl ps .ready none))) (fun _ _=>False) fun _ _ _=>False) (fun _ _=>False) fun _ _ _=>False):Y P b args h Q:=by
 refine BS.round hg hl hP hn (W_sound _ hw) ?_ (S2:=fin (fun _ h2=>h2.get b=some (.lp fn p tl ps .busy none)∧Q (.bool true) (h2.put b (.lp fn p tl ps .ready none))) (fun _ _=>False) fun _ _ _=>False) ?_ ?_
 ·intro o ho
  cases o with
  | norm ts1 h1=>obtain⟨rfl,_⟩:=ho; exact⟨_,_,_,_,_,_,rfl,hg⟩
  | exit=>exact ho.elim
  | ret=>exact ho.elim
  | val=>exact ho.elim
 ·intro ts1 h1 f1 p1 tl1 ps1 ho hg1
  obtain⟨rfl,hw2⟩:=ho
  rw[hg] at hg1
  simp only[Option.some.injEq,AO.lp.injEq,and_true] at hg1
  obtain⟨rfl,rfl,rfl,rfl⟩:=hg1
  exact W_sound _ hw2
 ·intro o ho
  cases o with
  | norm ts2 h2=>exact⟨_,_,_,_,ho.1,_,_,rfl,ho.2⟩
  | exit=>exact ho.elim
  | ret=>exact ho.elim
  | val=>exact ho.elim
structure Kp (S:Nat→Prop) (h h':AH):Prop where
 nx:h.next≤h'.next
 gt:∀ c,c<h.next→¬ S c→h'.get c=h.get c
 ty:∀ c,c<h.next→h'.tyOf c=h.tyOf c
theorem Kp.refl {S:Nat→Prop}{h:AH}:Kp S h h:=⟨Nat.le_refl _,fun _ _ _=>rfl,fun _ _=>rfl⟩
theorem Kp.trans {S T:Nat→Prop}{h h1 h2:AH} (a:Kp S h h1) (b:Kp T h1 h2) (hs:∀ c,c<h.next→T c→S c):Kp S h h2 :=
 ⟨Nat.le_trans a.nx b.nx,fun c hc hn=>(b.gt c (Nat.lt_of_lt_of_le hc a.nx) fun t=>hn (hs c hc t)).trans (a.gt c hc hn),fun c hc=>(b.ty c (Nat.lt_of_lt_of_le hc a.nx)).trans (a.ty c hc)⟩
theorem Ext.kp {n:Nat}{S:Nat→Prop}{h h':AH} (a:Ext n h h') (hn:h.next≤n):Kp S h h':=⟨a.nx,fun c hc _=>a.gt c (by omega),fun c hc=>a.ty c (by omega)⟩
theorem Kp.mono {S T:Nat→Prop}{h h':AH} (a:Kp S h h') (hs:∀ c,c<h.next→S c→T c):Kp T h h':=⟨a.nx,fun c hc hn=>a.gt c hc fun s=>hn (hs c hc s),a.ty⟩
theorem Upd.kp {S:Nat→Prop}{h h':AH}{s:Nat}{o:AO} (a:Upd h h' s o) (hs:S s):Kp S h h':=⟨by rw[a.nx]; exact Nat.le_refl _,fun c _ hn=>a.ne fun e=>hn (e▸hs),fun c _=>a.ty c⟩
def Off (S:Nat→Prop):AV→Prop
 | .sl b _ _ _=>¬ S b
 | _=>True
theorem Sl.kp {h h':AH}{e:Nat}{v:AV}{xs:List (List AV)}{S:Nat→Prop} (hs:Sl h e v xs) (hk:Kp S h h') (ho:Off S v):Sl h' e v xs :=
 hs.cong fun b o n c hv=>hk.gt b (hs.lt hv) (by subst hv; exact ho)
def bnds (lo hi mx:Option AV) (len cap:Nat):Option (Nat×Nat×Nat) :=
 match (match mx with|some v=>bnd v cap|none=>some cap) with
 | some m=>match (match hi with | some v=>bnd v m | none=>if mx.isSome then none else some len) with
   | some h=>match (match lo with | some v=>bnd v h | none=>some 0) with
     | some l=>some (l,h,m)
     | none=>none
   | none=>none
 | none=>none
def slV (h:AH) (e:Nat) (x:AV) (lo hi mx:Option AV):Option AV :=
 match x with
 | .nils=>(bnds lo hi mx 0 0).map fun _=>.nils
 | .emp=>(bnds lo hi mx 0 0).map fun _=>.emp
 | .sl b o n c=>match h.get b with
   | some (.cells _ e' _)=>if e'=e then (bnds lo hi mx n c).map fun r=>.sl b (if r.2.2=r.1 then o else o+r.1*e) (r.2.1-r.1) (r.2.2-r.1) else none
   | _=>none
 | _=>none
theorem slLA_eq {ev:RO→AV}{h:AH}{e:Nat}{x:AV}{lo hi mx:Option RO}:slLA ev h e x lo hi mx=slV h e x (lo.map ev) (hi.map ev) (mx.map ev):=by
 cases lo<;>cases hi<;>cases mx<;>rfl
theorem bnd_nat {k:IntKind}{n y:Nat} (h:n≤y):bnd (.int k (n:Nat)) y=some n:=by
 simp only[bnd]
 rw[if_pos ⟨by omega,by omega⟩]
 simp
def InB (S:Nat→Prop):AV→Prop
 | .sl b _ _ _=>S b
 | _=>True
theorem Sl.part {h:AH}{e:Nat}{v:AV}{xs:List (List AV)} (hs:Sl h e v xs) {lo hi:Nat} (h1:lo≤hi) (h2:hi≤xs.length) :
 ∃ v',slV h e v (some (.int .i64 (lo:Nat))) (some (.int .i64 (hi:Nat))) none=some v'∧Sl h e v' ((xs.drop lo).take (hi-lo))∧(∀ S,InB S v→InB S v')∧∀ S,Off S v→Off S v':=by
 rcases hs with ⟨rfl,hn⟩|⟨b,o,c,cs,ro,rfl,hg,hc,hle,hx⟩
 ·simp only[List.length_nil,Nat.le_zero] at h2
  subst h2
  have:lo=0:=by omega
  subst this
  rcases hn with rfl|rfl
  ·exact⟨.nils,rfl,.inl ⟨by simp,.inl rfl⟩,fun _ _=>trivial,fun _ _=>trivial⟩
  ·exact⟨.emp,rfl,.inl ⟨by simp,.inr rfl⟩,fun _ _=>trivial,fun _ _=>trivial⟩
 ·refine⟨.sl b (if c=lo then o else o+lo*e) (hi-lo) (c-lo),?_,.inr ⟨b,if c=lo then o else o+lo*e,c-lo,cs,ro,?_,hg,?_,?_,?_⟩,fun _ q=>q,fun _ q=>q⟩
  ·simp only[slV,hg,if_true,bnds,bnd_nat (show hi≤c by omega),bnd_nat h1,Option.map_some]
  ·simp only[List.length_take,List.length_drop]
   rw[Nat.min_eq_left (by omega)]
  ·simp only[List.length_take,List.length_drop]
   omega
  ·simp only[List.length_take,List.length_drop]
   rw[Nat.min_eq_left (by omega)]
   have:lo*e+(hi-lo)*e≤xs.length*e:=by rw[← Nat.add_mul]; exact Nat.mul_le_mul_right _ (by omega)
   split
   ·omega
   ·omega
  ·intro i x hi'
   rw[List.getElem?_take] at hi'
   split at hi'
   ·rename_i hlt
    rw[List.getElem?_drop] at hi'
    obtain⟨y1,y2⟩:=hx _ _ hi'
    have e1:(lo+i)*e=lo*e+i*e:=Nat.add_mul _ _ _
    rw[if_neg (by omega)]
    rw[e1,← Nat.add_assoc] at y1 y2
    exact⟨y1,y2⟩
   ·cases hi'
theorem Sl.upto {h:AH}{e:Nat}{v:AV}{xs:List (List AV)} (hs:Sl h e v xs) {hi:Nat} (h2:hi≤xs.length) :
 ∃ v',slV h e v none (some (.int .i64 (hi:Nat))) none=some v'∧Sl h e v' (xs.take hi)∧(∀ S,InB S v→InB S v')∧∀ S,Off S v→Off S v':=by
 obtain⟨v',a,b,c⟩:=hs.part (Nat.zero_le hi) h2
 refine⟨v',?_,by simpa using b,c⟩
 rw[← a]
 have:∀ y,(match (some (AV.int .i64 ((0:Nat):Int)):Option AV) with|some v=>bnd v y|none=>some 0)=some 0:=fun y=>bnd_nat (Nat.zero_le y)
 unfold slV bnds
 simp only[this]
theorem Sl.from {h:AH}{e:Nat}{v:AV}{xs:List (List AV)} (hs:Sl h e v xs) {lo:Nat} (h2:lo≤xs.length) :
 ∃ v',slV h e v (some (.int .i64 (lo:Nat))) none none=some v'∧Sl h e v' (xs.drop lo)∧(∀ S,InB S v→InB S v')∧∀ S,Off S v→Off S v':=by
 obtain⟨v',a,b,c⟩:=hs.part h2 (Nat.le_refl _)
 refine⟨v',?_,?_,c⟩
 ·rw[← a]
  rcases hs with ⟨rfl,rfl|rfl⟩|⟨b,o,cc,cs,ro,rfl,hg,hc,hle,hx⟩
  ·rfl
  ·rfl
  ·unfold slV bnds
   simp only[bnd_nat hc,Option.isSome_none,Bool.false_eq_true,if_false]
 ·rwa [List.take_of_length_le (by simp)] at b
theorem Sl.src {h:AH}{e:Nat}{v:AV}{xs:List (List AV)} (hs:Sl h e v xs):srcCells h e v=some (xs.length,xs.flatten)∧xs.flatten.length=xs.length*e:=by
 rcases hs with ⟨rfl,rfl|rfl⟩|⟨b,o,c,cs,ro,rfl,hg,hc,hle,hx⟩
 ·exact⟨rfl,by simp⟩
 ·exact⟨rfl,by simp⟩
 ·have key:∀ (xs:List (List AV)) (o:Nat),(∀ i x,xs[i]?=some x→o+i*e+e≤cs.length∧(cs.drop (o+i*e)).take e=x)→(xs≠[]→o+xs.length*e≤cs.length)∧(cs.drop o).take (xs.length*e)=xs.flatten∧xs.flatten.length=xs.length*e:=by
   intro xs
   induction xs with
   | nil=>intro o _; exact⟨fun q=>absurd rfl q,by simp,by simp⟩
   | cons x r ih =>
     intro o hx
     obtain⟨a1,a2⟩:=hx 0 x rfl
     simp only[Nat.zero_mul,Nat.add_zero] at a1 a2
     obtain⟨b1,b2,b3⟩:=ih (o+e) fun i y hy=>by
      have:=hx (i+1) y (by simpa using hy)
      rw[show o+(i+1)*e=o+e+i*e by rw[Nat.add_mul]; omega] at this
      exact this
     have hxl:x.length=e:=by rw[← a2,List.length_take,List.length_drop]; omega
     have e1:(x::r).length*e=e+r.length*e:=by simp only[List.length_cons,Nat.add_mul]; omega
     refine⟨fun _=>?_,?_,?_⟩
     ·by_cases hr:r=[]
      ·subst hr; simp only[List.length_cons,List.length_nil,Nat.zero_add,Nat.one_mul]; exact a1
      ·have:=b1 hr; omega
     ·rw[e1,List.flatten_cons,List.take_add,a2,List.drop_drop,b2]
     ·rw[e1,List.flatten_cons,List.length_append,hxl,b3]
  obtain⟨k1,k2,k3⟩:=key xs o hx
  refine⟨?_,k3⟩
  simp only[srcCells]
  rw[rdCells_of hg,if_pos hle,k2]
  rfl
theorem G.gyield {P:RP}{b:Nat}{l l2:List ROper}{s:Option (Tm×AH)}{K:Tm→AH→Prop}{ts:Tm}{h:AH}{d:Option Nat}{x:RO}{c:Nat}{args:List RO}{g:Option (Nat×Bool)}{nm:Option Nat}{vs:List AV}{Q:AV→AH→Prop} (n:Nat)
 (hs:stps b (l.take n) s=some (ts,h)) (hd:l.drop n=⟨d,.callv x args,g,nm,[]⟩::l2) (hw:wanted ts g=some true) (hx:RO.ev ts x=.yld c) (ha:args.map (RO.ev ts)=vs) (hc:Y P c vs h Q)
 (hk:∀ v h',Q v h'→G P b l2 (some (dput ts d v,h')) K):G P b l s K:=by
 subst ha
 rw[← List.take_append_drop n l]
 refine G.ops ?_
 rw[hs,hd]
 exact G.yield hw hx (hc.mono fun v h' q=>⟨rfl,hk v h' q⟩)
theorem evNew_mksl {ev:RO→AV}{h:AH}{n e k:Nat}{z:List AV}{ps:List (Nat×Nat×RO)} (hg:h.get n=some .resv):evNew ev h n (.mksl z e k ps)=(fill ev (repl z k) ps).map fun cs=>(.sl n 0 k k,h.put n (.cells cs e false)):=by
 rw[evNew_resv hg]
 simp only[lay]
 cases fill ev (repl z k) ps<;>rfl
def mksV (z:List AV) (bytes:Nat) (l c:AV):Option (Nat×Nat×List AV) :=
 match l,c with
 | .int _ l,.int _ c=>if 0≤l∧l≤c∧c<tooMany∧c*bytes<tooMany then some (l.toNat,c.toNat,repl z c.toNat) else none
 | _,_=>none
theorem mksV_nat {z:List AV}{bytes n:Nat} (h1:n<tooMany) (h2:n*bytes<tooMany):mksV z bytes (.int .i64 (n:Nat)) (.int .i64 (n:Nat))=some (n,n,repl z n):=by
 simp only[mksV]
 rw[if_pos ⟨by omega,by omega,by omega,by rw[← Int.natCast_mul]; omega⟩]
 simp
theorem mksA_nat {h:AH}{z:List AV}{e bytes n:Nat} (h1:n<tooMany) (h2:n*bytes<tooMany):mksA h z e bytes (.int .i64 (n:Nat)) (.int .i64 (n:Nat))=some (.sl h.next 0 n n,h.new (.cells (repl z n) e false)):=by
 simp only[mksA]
 rw[if_pos ⟨by omega,by omega,by omega,by rw[← Int.natCast_mul]; omega⟩]
 simp
theorem evNew_mks {ev:RO→AV}{h:AH}{n e b:Nat}{z:List AV}{l c:RO} (hg:h.get n=some .resv):evNew ev h n (.mks z e b l c)=(mksV z b (ev l) (ev c)).map fun p=>(.sl n 0 p.1 p.2.1,h.put n (.cells p.2.2 e false)):=by
 rw[evNew_resv hg]
 simp only[lay,mksV]
 cases ev l<;>cases ev c<;>try rfl
 rename_i k1 x k2 y
 by_cases q:0≤x∧x≤y∧y<tooMany∧y*b<tooMany
 ·simp only[if_pos q]; rfl
 ·simp only[if_neg q]; rfl
def boxV (k:Nat) (x:AV):Option (List AV):=if x.cells.length=k then some x.cells else none
theorem evNew_box {ev:RO→AV}{h:AH}{n e k:Nat}{x:RO} (hg:h.get n=some .resv):evNew ev h n (.box e k x)=(boxV k (ev x)).map fun cs=>(.ptr n 0,h.put n (.cells cs e false)):=by
 rw[evNew_resv hg]
 simp only[lay,boxV]
 by_cases q:(ev x).cells.length=k
 ·simp only[if_pos q]; rfl
 ·simp only[if_neg q]; rfl
theorem boxV_agg {k:Nat}{cs:List AV} (h:cs.length=k):boxV k (.agg cs)=some cs:=by
 simp only[boxV,cells_agg,h,if_true]
theorem keep1_get {h:AH}:(h.keep 1).get h.next=some .resv:=by
 rw[AH.keep_get,if_pos ⟨by omega,by omega⟩]
theorem keep1_put {h:AH}{o:AO}:Ext h.next h ((h.keep 1).put h.next o)∧((h.keep 1).put h.next o).get h.next=some o∧((h.keep 1).put h.next o).next=h.next+1∧∀ c,c<h.next→((h.keep 1).put h.next o).get c=h.get c:=by
 have hn:(h.keep 1).next=h.next+1:=AH.keep_next 1 h
 have k:∀ c,c<h.next→((h.keep 1).put h.next o).get c=h.get c:=fun c hc=>by
  rw[AH.get_put _ _ _ _ (by rw[hn]; omega),if_neg (by omega),AH.keep_get,if_neg (by omega)]
 exact⟨⟨by rw[AH.next_put,hn]; omega,k,fun _ _=>rfl⟩,by rw[AH.get_put _ _ _ _ (by rw[hn]; omega),if_pos rfl],by rw[AH.next_put,hn],k⟩
theorem mk_loc {h:AH}{z cs:List AV}{e:Nat} (hl:z.length=cs.length):∃ h1,wrCells (h.new (.cells z e false)) h.next 0 cs=some h1∧Ext h.next h h1∧h1.get h.next=some (.cells cs e false)∧h1.next=h.next+1:=by
 have g:(h.new (.cells z e false)).get h.next=some (.cells z e false):=by rw[AH.get_new,if_pos rfl]
 refine⟨(h.new (.cells z e false)).put h.next (.cells cs e false),?_,(Ext.new (Nat.le_refl _)).trans (Ext.put (Nat.le_refl _)),(Upd.put g).get,rfl⟩
 rw[wrCells_of g,if_pos (by omega)]
 congr 3
 simp only[splice,List.take_zero,List.nil_append,Nat.zero_add]
 rw[List.drop_eq_nil_of_le (by omega),List.append_nil]
theorem AH.keep_tyOf:∀ (k:Nat) (h:AH) {c:Nat},(h.keep k).tyOf c=h.tyOf c
 | 0,_,_=>rfl
 | k+1,h,c=>by
   show ((h.new .resv).keep k).tyOf c=_
   rw[AH.keep_tyOf k (h.new .resv)]
   rfl
theorem repl_rep {x:AV}:∀ n:Nat,repl [x] n=List.replicate n x
 | 0=>rfl
 | n+1=>by rw[repl,repl_rep n]; rfl
theorem splice_set {cs:List AV}{i:Nat}{v:AV} (hi:i<cs.length):splice cs i [v]=cs.set i v:=by
 refine List.ext_getElem? fun j=>?_
 rw[splice_at (by simp only[List.length_cons,List.length_nil]; omega),List.getElem?_set]
 simp only[List.length_cons,List.length_nil]
 by_cases e:i=j
 ·subst e
  rw[if_pos ⟨by omega,by omega⟩,if_pos rfl,if_pos hi,Nat.sub_self]
  rfl
 ·rw[if_neg (by omega),if_neg e]
theorem rd_at {h:AH}{b i e:Nat}{cs:List AV}{ro:Bool}{v:AV} (hg:h.get b=some (.cells cs e ro)) (hi:cs[i]?=some v):rdCells h b i 1=some [v]:=by
 obtain⟨hl,h2⟩:=List.getElem?_eq_some_iff.1 hi
 rw[rdCells_of hg,if_pos (by omega),List.drop_eq_getElem_cons hl,h2]
 rfl
theorem wr_at {h:AH}{b i e:Nat}{cs:List AV}{v:AV} (hg:h.get b=some (.cells cs e false)) (hi:i<cs.length):wrCells h b i [v]=some (h.put b (.cells (cs.set i v) e false)):=by
 rw[wrCells_of hg,if_pos (by simp only[List.length_cons,List.length_nil]; omega),splice_set hi]
theorem W.runK {P:RP}{kn:Nat}{ops:List ROper}{ts:Tm}{h:AH}{Kn Kr:Tm→AH→Prop}{Kx:Nat→Tm→AH→Prop}{ts':Tm}{h':AH} (hs:stps h.next ops (some (ts,h.keep kn))=some (ts',h')) (hk:Kn ts' h'):W P (.regK kn ops) ts h Kn Kr Kx:=W.regK (G.run hs hk)
theorem Sl.row {h:AH}{b n c:Nat}{vs:List AV}{ro:Bool} (hg:h.get b=some (.cells vs 1 ro)) (hn:vs.length=n) (hc:n≤c):Sl h 1 (.sl b 0 n c) (vs.map fun x=>[x]):=by
 subst hn
 refine .inr ⟨b,0,c,vs,ro,by rw[List.length_map],hg,by rw[List.length_map]; exact hc,by rw[List.length_map]; omega,fun i x hi=>?_⟩
 rw[List.getElem?_map] at hi
 obtain⟨y,hy,rfl⟩:=Option.map_eq_some_iff.1 hi
 obtain⟨hl,h2⟩:=List.getElem?_eq_some_iff.1 hy
 refine⟨by omega,?_⟩
 rw[Nat.zero_add,Nat.mul_one,List.drop_eq_getElem_cons hl,h2]
 rfl
theorem ev_fu {ts:Tm}{f:FuncId}:RO.ev ts (.fu f)=.fn f []:=rfl
theorem slV_from {h:AH}{e b L k c:Nat}{cs:List AV}{ro:Bool} (hg:h.get b=some (.cells cs e ro)) (hk:k<c) (hL:L≤c) (hkL:k≤L):slV h e (.sl b 0 L c) (some (.int .i64 (k:Nat))) none none=some (.sl b (k*e) (L-k) (c-k)):=by
 have h1:=bnd_nat (k:=.i64) hL
 have h2:=bnd_nat (k:=.i64) hkL
 simp only[slV,hg,if_true,bnds,h2,Option.map_some,Option.isSome_none,Bool.false_eq_true,if_false]
 rw[if_neg (by omega),Nat.zero_add]
theorem blk_sl {h:AH}{b o c:Nat}{cs:List AV}{d:Array Int} (hg:h.get b=some (blkI cs o d)) (hr:o+d.size≤cs.length) (hc:d.size≤c):SlI h (.sl b o d.size c) d.toList:=by
 have hr':o+(ints d).length≤cs.length:=by rw[ints_len]; exact hr
 have hl:=splice_len hr'
 refine .inr ⟨b,o,c,_,false,by rw[List.length_map]; rfl,hg,by rw[List.length_map]; exact hc,by rw[List.length_map,hl]; have:d.toList.length=d.size:=rfl; omega,fun i x hi=>?_⟩
 rw[List.getElem?_map] at hi
 obtain⟨y,hy,rfl⟩:=Option.map_eq_some_iff.1 hi
 have hil:i<d.size:=(List.getElem?_eq_some_iff.1 hy).1
 have hk:(splice cs o (ints d))[o+i]?=some (.int .i64 y):=by
  rw[splice_at hr',if_pos ⟨by omega,by rw[ints_len]; omega⟩,show o+i-o=i by omega]
  unfold ints
  rw[List.getElem?_map,hy]
  rfl
 obtain⟨hlt,hk2⟩:=List.getElem?_eq_some_iff.1 hk
 refine⟨by omega,?_⟩
 rw[Nat.mul_one,List.drop_eq_getElem_cons hlt,hk2]
 rfl
end Go.Am
