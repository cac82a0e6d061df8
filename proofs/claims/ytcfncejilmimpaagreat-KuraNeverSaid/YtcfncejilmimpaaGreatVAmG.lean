/- A closed call carried out by the kernel -/
import Derived.Test.YtcfncejilmimpaaGreatVAmK
set_option linter.all false
namespace Go.Am
section
variable {h:AH}{l:Nat}{r y:Out}{ts:Tm}
variable {n:Nat}{o:AO}{tg:Option Nat}{R:Out->Prop}
theorem BS.frame2{P:RP}{t:Task}{R:Out->Prop}(hb:BS P t ts h R):h.get n=some .resv->(∀b l,t=.ops b l->∀x∈l,∀j,x.nm=some j->b+j≠n)->BS P t ts (h.putG n o tg) (Lift n o tg R):=by
 induction hb with
 |nil a=>exact λhn _=>.nil (Lift.mk (y:=.norm _ _) a hn)
 |skipped a _ ih=>exact λhn hb=>.skipped a (ih hn (λb l q=>by cases q;exact λx hx=>hb _ _ rfl x (aV _ hx)))
 |@op b0 x l ts h v h' R a e c _ ih =>
   intro hn hb;have hlt:=hb _ _ rfl;obtain⟨f1,f2⟩:=qS (o:=o) (tg:=tg) hn (hlt x (bD ..)) v h' e;exact .op a f2 (ff f1 c) (ih f1 (λb l q=>by cases q;exact λx hx=>hlt x (aV _ hx)))
 |@any b0 x l ts h y as R a b c k _ ih =>
   intro hn hb;have hlt:=hb _ _ rfl;obtain⟨f1,f2⟩:=qG (o:=o) (tg:=tg) hn c;refine .any a b f1 (λv h' hm=>?_) λv h' hm=>?_
   .rw[bh]at hm;obtain⟨⟨v0,h0⟩,hm,e⟩:=hm;simp only[aq]at e;obtain⟨rfl,rfl⟩:=e;exact ff (f2 _ _ hm) (k _ _ hm)
   .rw[bh]at hm;obtain⟨⟨v0,h0⟩,hm,e⟩:=hm;simp only[aq]at e;obtain⟨rfl,rfl⟩:=e;exact ih _ _ hm (f2 _ _ hm) (λb l q=>by cases q;exact λx hx=>hlt x (aV _ hx))
 |call a b c k _ i1 i2 =>
   intro hn hb;have hlt:=hb _ _ rfl;refine .call a b (i1 hn (λ_ _ q=>by cases q)) (λv h' hm=>?_) λv h' hm=>?_
   .obtain⟨h0,q1,q2,rfl⟩:=hm.val;exact ff q2 (k _ _ q1)
   .obtain⟨h0,q1,q2,rfl⟩:=hm.val;exact i2 _ _ q1 q2 (λb l q=>by cases q;exact λx hx=>hlt x (aV _ hx))
 |callv a b d c k _ i1 i2 =>
   intro hn hb;have hlt:=hb _ _ rfl;refine .callv a b d (i1 hn (λ_ _ q=>by cases q)) (λv h' hm=>?_) λv h' hm=>?_
   .obtain⟨h0,q1,q2,rfl⟩:=hm.val;exact ff q2 (k _ _ q1)
   .obtain⟨h0,q1,q2,rfl⟩:=hm.val;exact i2 _ _ q1 q2 (λb l q=>by cases q;exact λx hx=>hlt x (aV _ hx))
 |yield a b d c k _ i1 i2 =>
   intro hn hb;have hlt:=hb _ _ rfl;refine .yield a b d (i1 hn (λ_ _ q=>by cases q)) (λv h' hm=>?_) λv h' hm=>?_
   .obtain⟨h0,q1,q2,rfl⟩:=hm.val;exact ff q2 (k _ _ q1)
   .obtain⟨h0,q1,q2,rfl⟩:=hm.val;exact i2 _ _ q1 q2 (λb l q=>by cases q;exact λx hx=>hlt x (aV _ hx))
 |skip a=>exact λhn _=>.skip (Lift.mk (y:=.norm _ _) a hn)
 |reg _ ih =>
   intro hn _;have hlt:=AH.lt_of_get hn;exact .reg (by rw[AH.next_putG];exact ih hn (λb l q=>by cases q;exact λx hx j hj=>by omega))
 |regD a _ ih =>
   intro hn _;have hlt:=AH.lt_of_get hn;refine .regD a λl hl=>?_;rw[AH.next_putG,AH.putG_keep _ _ hlt];exact ih l hl (lL hn _) (λb l q=>by cases q;exact λx hx j hj=>by omega)
 |regK _ ih =>
   intro hn _;have hlt:=AH.lt_of_get hn;refine .regK ?_;rw[AH.next_putG,AH.putG_keep _ _ hlt];exact ih (lL hn _) (λb l q=>by cases q;exact λx hx j hj=>by omega)
 |seq _ _ c d i1 i2 =>
   intro hn _;refine .seq (i1 hn (λ_ _ q=>by cases q)) (λts' h' hs=>?_) (λid ts' h' hs=>?_) λts' h' hs=>?_
   .obtain⟨h0,q1,q2,rfl⟩:=hs.norm;exact i2 _ _ q1 q2 (λ_ _ q=>by cases q)
   .obtain⟨h0,q1,q2,rfl⟩:=hs.exit;exact Lift.mk (y:=.exit _ _ _) (c _ _ _ q1) q2
   .obtain⟨h0,q1,q2,rfl⟩:=hs.ret;exact Lift.mk (y:=.ret _ _) (d _ _ q1) q2
 |cond a _ ih =>
   intro hn _;exact .cond a (ih hn (λ_ _ q=>by cases q))
 |block a b ih =>
   intro hn _;refine .block (ih hn (λ_ _ q=>by cases q)) λx hx=>?_;obtain⟨y,q1,q2,rfl⟩:=hx;refine⟨_,b y q1,?_,?_⟩
   .cases y<;>simp only[Out.unblock]<;>(try split)<;>exact q2
   .cases y<;>simp only[Out.unblock,Out.mapH]<;>(try split)<;>rfl
 |loop _ _ c d i1 i2 =>
   intro hn _;refine .loop (i1 hn (λ_ _ q=>by cases q)) (λts' h' hs=>?_) (λid ts' h' hs=>?_) λts' h' hs=>?_
   .obtain⟨h0,q1,q2,rfl⟩:=hs.norm;exact i2 _ _ q1 q2 (λ_ _ q=>by cases q)
   .obtain⟨h0,q1,q2,rfl⟩:=hs.exit;exact Lift.mk (y:=.exit _ _ _) (c _ _ _ q1) q2
   .obtain⟨h0,q1,q2,rfl⟩:=hs.ret;exact Lift.mk (y:=.ret _ _) (d _ _ q1) q2
 |@rangeF fn p f ps asg body ts h g caps S R a b c ih =>
   intro hn _;have hlt:=AH.lt_of_get hn;have hnew:=AH.putG_newG (o':=.lp fn p ts ps .ready none) (tg':=none) (o:=o) (tg:=tg) hlt;simp only[AH.newG]at hnew;refine .rangeF a (S:=Lift n o tg S) ?_ ?_
   .rw[AH.next_putG,hnew];exact ih (kZ (tg':=none) hn) (λ_ _ q=>by cases q)
   .intro v h' hs;obtain⟨h0,q1,q2,rfl⟩:=hs.val;obtain⟨f1,p1,t1,s1,st,pend,e1,e2,e3⟩:=c v h0 q1;rw[AH.next_putG];have hb:=ig q2 e1 (by simp);refine⟨f1,p1,t1,s1,st,pend,cx q2 _ _ e1 (by simp),e2,?_⟩;cases pend with
    |none=>simp only at e3 |-;rw[AH.put_putG hb];exact Lift.mk (y:=.norm _ _) e3 (er q2 hb (AH.lt_of_get e1))
    |some z=>cases z with
      |none=>simp only at e3 |-;rw[AH.put_putG hb];exact Lift.mk (y:=.ret _ _) e3 (er q2 hb (AH.lt_of_get e1))
      |some id=>simp only at e3 |-;rw[AH.put_putG hb];exact Lift.mk (y:=.exit _ _ _) e3 (er q2 hb (AH.lt_of_get e1))
 |exit a=>exact λhn _=>.exit (Lift.mk (y:=.exit _ _ _) a hn)
 |ret a=>exact λhn _=>.ret (Lift.mk (y:=.ret _ _) a hn)
 |srt a b c d e =>
   intro hn _;obtain⟨f1,f2⟩:=jM (o:=o) (tg:=tg) hn c;exact .srt a (eH (cx hn) b) f2 d (Lift.mk (y:=.val _ _) e f1)
 |@srf _ _ _ _ _ _ _ kf _ _ _ a b c d e k =>
   intro hn _;refine .srf (kf:=kf) a (eH (cx hn) b) c d (λi v hv=>?_) λis p q=>?_
   .obtain⟨b',o',n',c',h1,h2,h3,h4⟩:=e i v hv;exact⟨b',o',n',c',h1,h2,eH (cx hn) h3,h4⟩
   .obtain⟨h',x,y⟩:=k is p q;obtain⟨f1,f2⟩:=jM (o:=o) (tg:=tg) hn x;exact⟨_,f2,Lift.mk (y:=.val _ _) y f1⟩
 |func a b c d ih =>
   intro hn _;refine .func a (ih hn (λ_ _ q=>by cases q)) (λid ts' h' hs=>?_) λts' h' hs=>?_
   .obtain⟨h0,q1,q2,rfl⟩:=hs.exit;exact c _ _ _ q1
   .rcases hs with hs|hs
    .obtain⟨h0,q1,q2,rfl⟩:=hs.norm;obtain⟨v,r1,r2⟩:=d _ _ (.inl q1);exact⟨v,gF q2 r1,Lift.mk (y:=.val _ _) r2 q2⟩
    .obtain⟨h0,q1,q2,rfl⟩:=hs.ret;obtain⟨v,r1,r2⟩:=d _ _ (.inr q1);exact⟨v,gF q2 r1,Lift.mk (y:=.val _ _) r2 q2⟩
 |@round b args ts h fn p tl ps rf f asg body S S2 R a b1 c d e f1 g i i1 i2 =>
   intro hn _;have hb:=ig hn a (by simp);refine .round (cx hn _ _ a (by simp)) b1 c d (S:=Lift n o tg S) (S2:=Lift n o tg S2) (i1 hn (λ_ _ q=>by cases q)) ?_ ?_ ?_
   .rintro x ⟨y,q1,q2,rfl⟩;obtain⟨ts1,h1,g1,p1,t1,s1,rfl,hg⟩:=f1 y q1;exact⟨ts1,_,g1,p1,t1,s1,rfl,cx q2 _ _ hg (by simp)⟩
   .intro ts1 h1 g1 p1 t1 s1 hs hg1;obtain⟨h0,q1,q2,rfl⟩:=hs.norm;obtain⟨_,_,g2,p2,t2,s2,e1,hg⟩:=f1 _ q1;cases e1;have hsame:=cx (o:=o) (tg:=tg) q2 _ _ hg (by simp);rw[hsame]at hg1;simp only[aa,AO.lp.injEq,true_and,and_true]at hg1;obtain⟨rfl,rfl,rfl,rfl⟩:=hg1;rw[AH.put_putG hb];exact i2 ts1 h0 _ _ _ _ q1 hg (er q2 hb (AH.lt_of_get hg)) (λ_ _ q=>by cases q)
   .rintro x ⟨y,q1,q2,rfl⟩;have:=i y q1;cases y with
    |norm _ h2 =>
      obtain⟨_,_,_,_,r1,r2⟩:=this;refine⟨_,_,_,_,cx q2 _ _ r1 (by simp),?_⟩;rw[AH.put_putG hb];exact Lift.mk (y:=.val _ _) r2 (er q2 hb (AH.lt_of_get r1))
    |ret _ h2 =>
      obtain⟨_,_,_,_,r1,r2⟩:=this;refine⟨_,_,_,_,cx q2 _ _ r1 (by simp),?_⟩;rw[AH.put_putG hb];exact Lift.mk (y:=.val _ _) r2 (er q2 hb (AH.lt_of_get r1))
    |exit id _ h2 =>
      obtain⟨_,_,_,_,r1,r2⟩:=this;refine⟨_,_,_,_,cx q2 _ _ r1 (by simp),?_⟩;rw[AH.put_putG hb];exact Lift.mk (y:=.val _ _) r2 (er q2 hb (AH.lt_of_get r1))
    |val=>exact this
theorem ka(hn:h.get n=some .resv){st:LS}{pd:Option (Option Nat)}{bb:Bool}(he:iT l st pd bb h=some r):iT l st pd bb (h.putG n o tg)=some (r.mapH (·.putG n o tg))/\r.heap.get n=some .resv:=by
 unfold iT at he |-;split at he
 .rename_i fn p tl ps hb
  have hne:=ig hn hb (by simp);rw[cx hn _ _ hb (by simp)];cases he;exact⟨by simp only[Out.mapH,AH.put_putG hne],er hn hne (AH.lt_of_get hb)⟩
 .cases he
theorem nV(hn:y.heap.get n=some .resv)(he:iH l (some y)=some r):iH l (some (y.mapH (·.putG n o tg)))=some (r.mapH (·.putG n o tg))/\r.heap.get n=some .resv:=by
 cases y with
 |norm ts h=>exact ka (h:=h) hn he
 |ret ts h=>exact ka (h:=h) hn he
 |exit i ts h=>exact ka (h:=h) hn he
 |val v h=>cases he
theorem uf(hn:h.get n=some .resv)(he:jU l ts h=some r):jU l ts (h.putG n o tg)=some (r.mapH (·.putG n o tg))/\r.heap.get n=some .resv:=by
 unfold jU at he |-;split at he
 .rename_i fn p tl ps st pend hb
  have hne:=ig hn hb (by simp);rw[cx hn _ _ hb (by simp)];simp only;split at he
  .cases he
  .rename_i hst
   rw[if_neg hst];split at he<;>cases he<;>exact⟨by simp only[Out.mapH,AH.put_putG hne],er hn hne (AH.lt_of_get hb)⟩
 .cases he
theorem zQ{rf:RF}(hn:y.heap.get n=some .resv)(he:li rf (some y)=some r):li rf (some (y.mapH (·.putG n o tg)))=some (r.mapH (·.putG n o tg))/\r.heap.get n=some .resv:=by
 cases y with
 |norm ts h =>
   simp only[li,aD]at he;obtain⟨v,hv,rfl⟩:=he;have hn':h.get n=some .resv:=hn;exact⟨by simp only[Out.mapH,li];rw[gF hn' hv];rfl,hn⟩
 |ret ts h =>
   simp only[li,aD]at he;obtain⟨v,hv,rfl⟩:=he;have hn':h.get n=some .resv:=hn;exact⟨by simp only[Out.mapH,li];rw[gF hn' hv];rfl,hn⟩
 |exit i ts h=>cases he
 |val v h=>cases he
theorem oP{id:Nat}:(y.mapH (·.putG n o tg)).unblock id=(y.unblock id).mapH (·.putG n o tg)/\(y.unblock id).heap=y.heap:=by
 constructor
 .cases y<;>simp only[Out.unblock,Out.mapH]<;>(try split)<;>rfl
 .cases y<;>simp only[Out.unblock]<;>(try split)<;>rfl
end
variable {L:List KS}{P:RP}{S:KS}{a:PS}{args:List AV}{b:Nat}{f:FuncId}{h:AH}{k:List Fr}{l:List ROper}{p:List Nat}{ts:Tm}
def R0:Out->Prop:=λo=>∃h,o=.val (.bool true) h
def frS(P:RP):Fr->Out->(Out->Prop)->Prop
 |.seqK b _ _,.norm ts h,R=>BS P (.code b) ts h R
 |.seqK _ _ _,.exit i ts h,R=>R (.exit i ts h)
 |.seqK _ _ _,.ret ts h,R=>R (.ret ts h)
 |.loopK c _ _,.norm ts h,R=>BS P (.code (.loop c)) ts h R
 |.loopK _ _ _,.exit i ts h,R=>R (.exit i ts h)
 |.loopK _ _ _,.ret ts h,R=>R (.ret ts h)
 |.blockK id,o,R=>R (o.unblock id)
 |.callK f,o,R=>∃rf o',P f=some rf/\li rf (some o)=some o'/\R o'
 |.opsK b p l _ _ _ ts,.val v h,R=>fZ (dB ts p.dst v) h p.cs=true/\BS P (.ops b l) (dB ts p.dst v) h R
 |.rngK l ts,.val _ h,R=>∃o',jU l ts h=some o'/\R o'
 |.asgK b body _ _,.norm ts1 h1,R=>∃fn p tl ps,h1.get b=some (.lp fn p tl ps .ready none)/\BS P (.code body) ts1 (h1.put b (.lp fn p tl ps .busy none)) λo2=>∃r,iH b (some o2)=some r/\R r
 |.rndK b,o,R=>∃r,iH b (some o)=some r/\R r
 |_,_,_=>False
def GS(P:RP):List Fr->Out->Prop
 |[]=>R0
 |fr::k=>λo=>frS P fr o (GS P k)
def GoodS(P:RP)(S:KS):Prop :=
 match S.f with
 |.ops b l _ _ _ ts h=>BS P (.ops b l) ts h (GS P S.k)
 |.code c _ _ ts h=>BS P (.code c) ts h (GS P S.k)
 |.call f args h=>BS P (.call f args) .nil h (GS P S.k)
 |.round b args h=>BS P (.round b args) .nil h (GS P S.k)
 |.out o=>GS P S.k o
theorem BE{o:ROper}{f:Nat}{n:Nat}(hs:EN b o l f p n ts h k=some S)(hg:GoodS P S):GoodS P ⟨.ops b (o::l) f p n ts h,k⟩:=by
 unfold EN at hs;split at hs
 .cases hs
 .rename_i hw
  simp only[aa]at hs;subst hs;exact .skipped hw hg
 .rename_i hw
  split at hs
  .rename_i f args ho
   simp only[aa]at hs;subst hs;exact .call hw ho hg (λv g (q:_/\_)=>q.1) λv g (q:_/\_)=>q.2
  .rename_i x args ho
   split at hs
   .rename_i f caps hx
    simp only[aa]at hs;subst hs;exact .callv hw ho hx hg (λv g (q:_/\_)=>q.1) λv g (q:_/\_)=>q.2
   .rename_i c hx
    simp only[aa]at hs;subst hs;exact .yield hw ho hx hg (λv g (q:_/\_)=>q.1) λv g (q:_/\_)=>q.2
   .cases hs
  .split at hs
   .rename_i v h' he
    split at hs
    .rename_i hc
     simp only[aa]at hs;subst hs;exact .op hw he hc hg
    .cases hs
   .cases hs
theorem zH{c:RC}{f:Nat}(hs:wg c f p ts h k=some S)(hg:GoodS P S):GoodS P ⟨.code c f p ts h,k⟩:=by
 cases c<;>simp only[wg,reduceCtorEq,aa]at hs
 case skip=>subst hs;exact .skip hg
 case reg=>subst hs;exact .reg hg
 case regK=>subst hs;exact .regK hg
 case seq=>subst hs;exact .seq hg (λ_ _ q=>q) (λ_ _ _ q=>q) (λ_ _ q=>q)
 case cond =>
  split at hs
  .rename_i hc;simp only[aa]at hs;subst hs;exact .cond hc hg
  .rename_i hc;simp only[aa]at hs;subst hs;exact .cond hc hg
  .cases hs
 case block id c=>subst hs;exact .block hg λo q=>q
 case loop=>subst hs;exact .loop hg (λ_ _ q=>q) (λ_ _ _ q=>q) (λ_ _ q=>q)
 case rangeF =>
  split at hs
  .rename_i g caps hf
   simp only[aa]at hs;subst hs;refine .rangeF hf hg λv' h' q=>?_;obtain⟨o2,h2,h3⟩:=(show ∃o',jU _ _ _=some o'/\GS P k o' from q)
   unfold jU at h2;split at h2
   .rename_i fn p tl ps st pend hl
    split at h2
    .cases h2
    .rename_i hst
     refine⟨fn,p,tl,ps,st,pend,hl,hst,?_⟩;split at h2<;>(cases h2;exact h3)
   .cases h2
  .cases hs
 case exit=>subst hs;exact .exit hg
 case ret=>subst hs;exact .ret hg
theorem BZ{rf:RF}(hf:P f=some rf)(h1:BS P (.code rf.body) (bL 0 args) h (GS P (.callK f::k))):BS P (.call f args) ts h (GS P k):=by
 refine .func hf h1 (λi ts' h' q=>?_) λts' h' q=>?_
 .obtain⟨rf',o',_,h2,_⟩:=(show ∃rf' o',P f=some rf'/\li rf' (some (.exit i ts' h'))=some o'/\GS P k o' from q)
  cases h2
 .rcases q with q|q
  .obtain⟨rf',o',e1,h2,h3⟩:=(show ∃rf' o',P f=some rf'/\li rf' (some (.norm ts' h'))=some o'/\GS P k o' from q)
   rw[hf]at e1;cases e1;simp only[li,aD]at h2;obtain⟨v,hv,rfl⟩:=h2;exact⟨v,hv,h3⟩
  .obtain⟨rf',o',e1,h2,h3⟩:=(show ∃rf' o',P f=some rf'/\li rf' (some (.ret ts' h'))=some o'/\GS P k o' from q)
   rw[hf]at e1;cases e1;simp only[li,aD]at h2;obtain⟨v,hv,rfl⟩:=h2;exact⟨v,hv,h3⟩
theorem yU(hs:tL P b args h k=some S)(hg:GoodS P S):GoodS P ⟨.round b args h,k⟩:=by
 unfold tL at hs;split at hs
 .rename_i fn p tl ps hl
  split at hs
  .rename_i hal
   split at hs
   .rename_i rf hrf
    split at hs
    .rename_i fn' p' x ps' asg body hn
     split at hs
     .rename_i hc
      obtain⟨rfl,rfl,rfl⟩:=hc;simp only[aa]at hs;subst hs;refine .round hl hal hrf hn hg (λo1 e=>?_) (S2:=λo2=>∃r,iH b (some o2)=some r/\GS P k r) ?_ ?_
      .cases o1 with
       |norm ts1 g1 =>
         obtain⟨f1,p1,t1,s1,hr,_⟩:=(show ∃fn p tl ps,_/\_ from e)
         exact⟨ts1,g1,f1,p1,t1,s1,rfl,hr⟩
       |_=>exact e.elim
      .intro ts2 h2 f2 p2 t2 s2 e hr2;obtain⟨f1,p1,t1,s1,hr,hbd⟩:=(show ∃fn p tl ps,h2.get b=some (.lp fn p tl ps .ready none)/\BS P (.code body) ts2 (h2.put b (.lp fn p tl ps .busy none)) (λo2=>∃r,iH b (some o2)=some r/\GS P k r) from e)
       rw[hr]at hr2;cases hr2;exact hbd
      .rintro o3 ⟨o,he,hgs⟩;have key:∀{st:LS}{pend:Option (Option Nat)}{bb:Bool}{h3:AH},iT b st pend bb h3=some o->∃fn p tl ps,h3.get b=some (.lp fn p tl ps .busy none)/\GS P k (Out.val (.bool bb) (h3.put b (.lp fn p tl ps st pend))):=by
        intro st pend bb h3 hk;unfold iT at hk;split at hk
        .rename_i hb;cases hk;exact⟨_,_,_,_,hb,hgs⟩
        .cases hk
       cases o3 with
       |norm=>exact key he
       |ret=>exact key he
       |exit=>exact key he
       |val=>cases he
     .cases hs
    .cases hs
   .cases hs
  .cases hs
 .cases hs
theorem BD{fr:Fr}{o:Out}(hs:lh P fr o k=some S)(hg:GoodS P S):GoodS P ⟨.out o,fr::k⟩:=by
 cases fr with
 |seqK b f p =>
   cases o<;>simp only[lh,reduceCtorEq,aa]at hs
   case norm=>subst hs;exact hg
   case exit=>subst hs;exact hg
   case ret=>subst hs;exact hg
 |loopK b f p =>
   cases o<;>simp only[lh,reduceCtorEq,aa]at hs
   case norm=>subst hs;exact .loop hg (λ_ _ q=>q) (λ_ _ _ q=>q) (λ_ _ q=>q)
   case exit=>subst hs;exact hg
   case ret=>subst hs;exact hg
 |blockK id =>
   simp only[lh,aa]at hs;subst hs;exact hg
 |callK f =>
   simp only[lh]at hs;split at hs
   .rename_i rf hrf
    split at hs
    .rename_i o' ho
     simp only[aa]at hs;subst hs;exact⟨rf,o',hrf,ho,hg⟩
    .cases hs
   .cases hs
 |opsK b q l f p n ts =>
   cases o<;>simp only[lh,reduceCtorEq]at hs;split at hs
   .rename_i hc
    simp only[aa]at hs;subst hs;exact⟨hc,hg⟩
   .cases hs
 |rngK l ts =>
   cases o<;>simp only[lh,reduceCtorEq]at hs;split at hs
   .rename_i o' ho
    simp only[aa]at hs;subst hs;exact⟨o',ho,hg⟩
   .cases hs
 |asgK b body f p =>
   cases o<;>simp only[lh,reduceCtorEq]at hs;split at hs
   .rename_i fn q tl ps hl
    simp only[aa]at hs;subst hs;exact⟨fn,q,tl,ps,hl,hg⟩
   .cases hs
 |rndK b =>
   simp only[lh]at hs;split at hs
   .rename_i o' ho
    simp only[aa]at hs;subst hs;exact⟨o',ho,hg⟩
   .cases hs
theorem rU{S':KS}(hs:jy P S=some S')(hg:GoodS P S'):GoodS P S:=by
 obtain⟨f,k⟩:=S;cases f with
 |ops b l f p n ts h =>
   cases l with
   |nil =>
     simp only[jy,aa]at hs;subst hs;exact .nil hg
   |cons o l=>exact BE hs hg
 |code c f p ts h=>exact zH hs hg
 |call f args h =>
   simp only[jy]at hs;split at hs
   .rename_i rf hrf
    simp only[aa]at hs;subst hs;exact BZ hrf hg
   .cases hs
 |round b args h=>exact yU hs hg
 |out o =>
   cases k with
   |nil=>simp[jy]at hs
   |cons fr k=>exact BD hs hg
theorem lK{P:RP}:∀{n:Nat}{S S':KS},nl P n S=some S'->GoodS P S'->GoodS P S
 |0,S,S',hs,hg=>by simp only[nl,aa]at hs;subst hs;exact hg
 |n+1,S,S',hs,hg=>by
   simp only[nl]at hs;split at hs
   .rename_i S1 h1
    exact rU h1 (lK hs hg)
   .cases hs
def knx(S:KS):Option (List KS) :=
 match S.f with
 |.ops b (o::l) f p n ts h =>
   match wanted ts o.guard with
   |some true=>match o.op with
     |.nxM x=>match tw h (RO.ev ts x)with
       |some as=>if as.all (λv=>fZ (dB ts o.dst v.1) v.2 o.cs)=true then some (as.map λv=>⟨.ops b l f p (n+1) (dB ts o.dst v.1) v.2,S.k⟩)else none
       |none=>none
     |_=>none
   |_=>none
 |_=>none
theorem vY(hs:knx S=some L)(hg:∀S'∈L,GoodS P S'):GoodS P S:=by
 obtain⟨f,k⟩:=S;unfold knx at hs;split at hs
 .rename_i b o l f p n ts h e
  simp only at e;subst e;split at hs
  .rename_i hw
   split at hs
   .rename_i x ho
    split at hs
    .rename_i as ha
     split at hs
     .rename_i hc
      cases hs;rw[cF]at hc;exact .any hw ho ha (λv h' hm=>hc _ hm) λv h' hm=>hg _ (bh.2 ⟨_,hm,rfl⟩)
     .cases hs
    .cases hs
   .cases hs
  .cases hs
 .cases hs
theorem HY(hs:knx S=some L)(ho:okS P S):∀S'∈L,okS P S':=by
 obtain⟨f,k⟩:=S;obtain⟨h1,h2⟩:=ho;unfold knx at hs;split at hs
 .rename_i b o l f p n ts h e
  simp only at e;subst e;simp only[lI]at h1;split at hs
  .split at hs
   .split at hs
    .split at hs
     .cases hs;intro S' hm;obtain⟨v,_,rfl⟩:=bh.1 hm;exact⟨qT h1,h2⟩
     .cases hs
    .cases hs
   .cases hs
  .cases hs
 .cases hs
def zI(P:RP)(test:KS->Bool):Nat->KS->Bool
 |0,S=>test S
 |n+1,S=>match test S with
   |true=>true
   |false=>match jy P S with
     |some S'=>zI P test n S'
     |none=>match knx S with
       |some L=>L.all (zI P test n)
       |none=>false
theorem pu{P:RP}{test:KS->Bool}(ht:∀S,okS P S->test S=true->GoodS P S):∀(n:Nat) (S:KS),okS P S->zI P test n S=true->GoodS P S
 |0,S,ho,h=>ht S ho h
 |n+1,S,ho,h=>by
   unfold zI at h;split at h
   .rename_i h1;exact ht S ho h1
   .split at h
    .rename_i S' h1
     exact rU h1 (pu ht n S' (zF h1 ho) h)
    .split at h
     .rename_i L h1
      rw[cF]at h;exact vY h1 λS' hm=>pu ht n S' (HY h1 ho S' hm) (h S' hm)
     .cases h
def nu(n:Nat):List Fr->Bool
 |[]=>true
 |.opsK b _ l _ _ _ _::k=>l.all (λx=>match x.nm with | some j=>b+j != n | none=>true)&&nu n k
 |_::k=>nu n k
theorem Hu{n:Nat}{o:ROper}{f:Nat}{i:Nat}(h:nu n (.opsK b o l f p i ts::k)=true):(∀x∈l,∀j,x.nm=some j->b+j≠n)/\nu n k=true:=by
 simp only[nu,aK,cF]at h;refine⟨λx hx j hj=>?_,h.2⟩;have:=h.1 x hx;rw[hj]at this;simpa using this
theorem GS.frame{P:RP}{n:Nat}{ob:AO}{tg:Option Nat}:∀(k:List Fr) (o:Out),nu n k=true->GS P k o->o.heap.get n=some .resv->GS P k (o.mapH (·.putG n ob tg))
 |[],o,_,hg,_=>by
   obtain⟨h,rfl⟩:=hg;exact⟨_,rfl⟩
 |fr::k,o,hk,hg,hn=>by
   have hl:∀x,Lift n ob tg (GS P k) x->nu n k=true->GS P k x:=by
    rintro x ⟨y,q1,q2,rfl⟩ hk2;exact GS.frame k y hk2 q1 q2
   cases fr with
   |seqK b f p =>
     have hk2:nu n k=true:=hk;cases o with
     |norm ts h=>exact(BS.frame2 (o:=ob) (tg:=tg) (show BS P (.code b) ts h (GS P k) from hg) hn (λ_ _ q=>by cases q)).mono λx q=>hl x q hk2
     |exit i ts h=>exact GS.frame k (.exit i ts h) hk2 hg hn
     |ret ts h=>exact GS.frame k (.ret ts h) hk2 hg hn
     |val v h=>exact hg.elim
   |loopK b f p =>
     have hk2:nu n k=true:=hk;cases o with
     |norm ts h=>exact(BS.frame2 (o:=ob) (tg:=tg) (show BS P (.code (.loop b)) ts h (GS P k) from hg) hn (λ_ _ q=>by cases q)).mono λx q=>hl x q hk2
     |exit i ts h=>exact GS.frame k (.exit i ts h) hk2 hg hn
     |ret ts h=>exact GS.frame k (.ret ts h) hk2 hg hn
     |val v h=>exact hg.elim
   |blockK id =>
     have hk2:nu n k=true:=hk;have hg2:GS P k (o.unblock id):=by cases o<;>exact hg
     have h1:=GS.frame (ob:=ob) (tg:=tg) k (o.unblock id) hk2 hg2 (by rw[(oP (o:=ob) (tg:=tg) (n:=n)).2];exact hn);rw[<-(oP (o:=ob) (tg:=tg) (n:=n)).1]at h1;cases o<;>exact h1
   |callK f =>
     have hk2:nu n k=true:=hk;have hg2:∃rf o',P f=some rf/\li rf (some o)=some o'/\GS P k o':=by cases o<;>exact hg
     obtain⟨rf,o',e1,e2,e3⟩:=hg2;obtain⟨f1,f2⟩:=zQ (o:=ob) (tg:=tg) hn e2;have h1:∃rf o1,P f=some rf/\li rf (some (o.mapH (·.putG n ob tg)))=some o1/\GS P k o1:=⟨rf,_,e1,f1,GS.frame k o' hk2 e3 f2⟩
     cases o<;>exact h1
   |opsK b q l f p i ts =>
     obtain⟨k1,k2⟩:=Hu hk;cases o with
     |val v h =>
       obtain⟨h1,h2⟩:=(show fZ (dB ts q.dst v) h q.cs=true/\BS P (.ops b l) (dB ts q.dst v) h (GS P k) from hg)
       exact⟨ff hn h1,(BS.frame2 (o:=ob) (tg:=tg) h2 hn (λb' l' e=>by cases e;exact k1)).mono λx q=>hl x q k2⟩
     |norm=>exact hg.elim
     |exit=>exact hg.elim
     |ret=>exact hg.elim
   |rngK l ts =>
     have hk2:nu n k=true:=hk;cases o with
     |val v h =>
       obtain⟨o',e1,e2⟩:=(show ∃o',jU l ts h=some o'/\GS P k o' from hg)
       obtain⟨f1,f2⟩:=uf (o:=ob) (tg:=tg) hn e1;exact⟨_,f1,GS.frame k o' hk2 e2 f2⟩
     |norm=>exact hg.elim
     |exit=>exact hg.elim
     |ret=>exact hg.elim
   |asgK b body f p =>
     have hk2:nu n k=true:=hk;cases o with
     |norm ts1 h1 =>
       obtain⟨fn,p,tl,ps,e1,e2⟩:=(show ∃fn p tl ps,h1.get b=some (.lp fn p tl ps .ready none)/\BS P (.code body) ts1 (h1.put b (.lp fn p tl ps .busy none)) (λo2=>∃r,iH b (some o2)=some r/\GS P k r) from hg)
       have hne:=ig hn e1 (by simp);refine⟨fn,p,tl,ps,cx hn _ _ e1 (by simp),?_⟩;show BS P (.code body) ts1 ((h1.putG n ob tg).put b _) _;rw[AH.put_putG hne];refine(BS.frame2 (o:=ob) (tg:=tg) e2 (er hn hne (AH.lt_of_get e1)) (λ_ _ q=>by cases q)).mono ?_;rintro x ⟨y,⟨r,q1,q2⟩,q3,rfl⟩;obtain⟨f1,f2⟩:=nV (o:=ob) (tg:=tg) q3 q1;exact⟨_,f1,GS.frame k r hk2 q2 f2⟩
     |val=>exact hg.elim
     |exit=>exact hg.elim
     |ret=>exact hg.elim
   |rndK b =>
     have hk2:nu n k=true:=hk;have hg2:∃r,iH b (some o)=some r/\GS P k r:=by cases o<;>exact hg
     obtain⟨r,e1,e2⟩:=hg2;obtain⟨f1,f2⟩:=nV (o:=ob) (tg:=tg) hn e1;have h1:∃r,iH b (some (o.mapH (·.putG n ob tg)))=some r/\GS P k r:=⟨_,f1,GS.frame k r hk2 e2 f2⟩
     cases o<;>exact h1
theorem GoodS.frame_call{P:RP}{f:FuncId}{a:List AV}{h:AH}{k:List Fr}:∀(L:List (Nat×AO×Option Nat)),(L.map (·.1)).Nodup->(∀x∈L,h.get x.1=some .resv)->(∀x∈L,nu x.1 k=true)->GoodS P ⟨.call f a h,k⟩->GoodS P ⟨.call f a (jw L h),k⟩
 |[],_,_,_,hg=>hg
 |x::r,hd,hn,hk,hg=>by
   rw[bm,aX]at hd;have hne:∀y∈r,y.1≠x.1:=λy hy e=>hd.1 (bh.2 ⟨y,hy,e⟩);have h1:=GoodS.frame_call r hd.2 (λy hy=>hn y (by simp[hy])) (λy hy=>hk y (by simp[hy])) hg;have hx:(jw r h).get x.1=some .resv:=by
    rw[jN r λy hy=>⟨AH.lt_of_get (hn y (by simp[hy])),hne y hy⟩];exact hn x (by simp)
   refine(BS.frame2 (o:=x.2.1) (tg:=x.2.2) (show BS P (.call f a) .nil (jw r h) (GS P k) from h1) hx (λ_ _ q=>by cases q)).mono ?_;rintro o ⟨y,q1,q2,rfl⟩;exact GS.frame k y (hk x (by simp)) q1 q2
theorem GoodS.frame_out{P:RP}{v:AV}{h:AH}{k:List Fr}:∀(L:List (Nat×AO×Option Nat)),(L.map (·.1)).Nodup->(∀x∈L,h.get x.1=some .resv)->(∀x∈L,nu x.1 k=true)->GoodS P ⟨.out (.val v h),k⟩->GoodS P ⟨.out (.val v (jw L h)),k⟩
 |[],_,_,_,hg=>hg
 |x::r,hd,hn,hk,hg=>by
   rw[bm,aX]at hd;have hne:∀y∈r,y.1≠x.1:=λy hy e=>hd.1 (bh.2 ⟨y,hy,e⟩);have h1:=GoodS.frame_out r hd.2 (λy hy=>hn y (by simp[hy])) (λy hy=>hk y (by simp[hy])) hg;have hx:(jw r h).get x.1=some .resv:=by
    rw[jN r λy hy=>⟨AH.lt_of_get (hn y (by simp[hy])),hne y hy⟩];exact hn x (by simp)
   exact GS.frame (ob:=x.2.1) (tg:=x.2.2) k (.val v (jw r h)) (hk x (by simp)) h1 hx
def tE(h:AH):List Nat->List (Nat×AO×Option Nat)
 |[]=>[]
 |n::G=>match h.get n with
   |some o=>(n,o,h.tyOf n)::tE h G
   |none=>tE h G
def vE:Nat->List Nat->Bool
 |_,[]=>true
 |a,n::G=>Nat.blt a n&&vE n G
def BG:Option AO->Bool
 |some .resv=>true
 |_=>false
theorem wo{x:Option AO}(h:BG x=true):x=some .resv:=by
 unfold BG at h;split at h
 .rfl
 .cases h
theorem yW:∀(a:Nat) (G:List Nat),vE a G=true->∀n∈G,a<n
 |a,[],_,n,hn=>by cases hn
 |a,m::G,h,n,hn=>by
   simp only[vE,aK,uG]at h;rcases aw.1 hn with rfl|hn
   .exact h.1
   .exact Nat.lt_trans h.1 (yW m G h.2 n hn)
theorem jD{h:AH}:∀{G:List Nat}{x:Nat×AO×Option Nat},x∈tE h G->x.1∈G
 |[],x,hx=>by cases hx
 |n::G,x,hx=>by
   unfold tE at hx;split at hx
   .rcases aw.1 hx with rfl|hx
    .exact bD ..
    .exact aV _ (jD hx)
   .exact aV _ (jD hx)
theorem lJ{h:AH}:∀{a:Nat}{G:List Nat},vE a G=true->((tE h G).map (·.1)).Nodup
 |a,[],_=>pJ
 |a,n::G,hr=>by
   simp only[vE,aK,uG]at hr;unfold tE;split
   .rw[bm,aX];refine⟨λhm=>?_,lJ hr.2⟩;obtain⟨x,hx,e⟩:=bh.1 hm;have:=yW n G hr.2 x.1 (jD hx);simp only at e;omega
   .exact lJ hr.2
def yh(G:List Nat)(hs hb:AH):Bool:=vE 0 G&&G.all (λn=>BG (hb.get n))&&GN (jw (tE hs G) hb) hs
def um(G:List Nat)(B:PS)(S:KS):Bool :=
 match S.f,B.f with
 |.call f a h,.call f' a' h'=>f==f'&&AV.sames a a'&&lG (S.k.map Fr.bare) B.k&&G.all (λn=>nu n S.k)&&yh G h h'
 |.out (.val v h),.out (.val v' h')=>AV.same v v'&&lG (S.k.map Fr.bare) B.k&&G.all (λn=>nu n S.k)&&yh G h h'
 |_,_=>false
theorem sa{G:List Nat}{B:PS}(ho:okS P S)(hc:um G B S=true)(hg:GoodS P (B.load P)):GoodS P S:=by
 obtain⟨f,k⟩:=S;obtain⟨f',k'⟩:=B;have hload:lG (k.map Fr.bare) k'=true->(k'.map (PFr.load P))=k:=λh=>by
  rw[<-th _ _ h,lZ]
  conv=>rhs;rw[<-List.map_id k]
  exact dI λfr hf=>Fr.load_bare (ho.2 fr hf)
 unfold um at hc;split at hc
 .rename_i f1 a h f2 a' h' e1 e2
  simp only at e1 e2;subst e1 e2;simp only[aK,beq_iff_eq,yh]at hc;obtain⟨⟨⟨⟨h1,h2⟩,h3⟩,h4⟩,⟨h5,h6⟩,h7⟩:=hc;rw[cF]at h4 h6;have e:=hload h3;rw[<-h1,<-AV.sames_eq _ _ h2]at hg;simp only[PS.load,PFoc.load,e]at hg;rw[<-yR _ _ h7];exact GoodS.frame_call _ (lJ h5) (λx hx=>wo (h6 _ (jD hx))) (λx hx=>h4 _ (jD hx)) hg
 .rename_i v h v' h' e1 e2
  simp only at e1 e2;subst e1 e2;simp only[aK,yh]at hc;obtain⟨⟨⟨h2,h3⟩,h4⟩,⟨h5,h6⟩,h7⟩:=hc;rw[cF]at h4 h6;have e:=hload h3;rw[<-AV.same_eq _ _ h2]at hg;simp only[PS.load,PFoc.load,e]at hg;rw[<-yR _ _ h7];exact GoodS.frame_out _ (lJ h5) (λx hx=>wo (h6 _ (jD hx))) (λx hx=>h4 _ (jD hx)) hg
 .cases hc
def legS(P:RP)(n:Nat)(G:List Nat)(a b:PS):Bool :=
 match nl P n (a.load P)with
 |some S=>um G b S
 |none=>false
theorem EI{n:Nat}{G:List Nat}{b:PS}(hl:legS P n G a b=true)(hg:GoodS P (b.load P)):GoodS P (a.load P):=by
 unfold legS at hl;split at hl
 .rename_i S hS
  exact lK hS (sa (tK hS (PS.load_ok P a)) hl hg)
 .cases hl
def MI(d:Nat)(G:List Nat)(b:PS)(S:KS):Bool :=
 match S.f with
 |.out (.val _ _)=>Nat.beq S.k.length d&&um G b S
 |_=>false
theorem xM{n:Nat}(hl:HQ P n a=true):GoodS P (a.load P):=by
 unfold HQ at hl;split at hl
 .rename_i S hS
  split at hl
  .rename_i o h e1 e2
   refine lK hS ?_;unfold GoodS;rw[e1,e2];exact⟨_,rfl⟩
  .cases hl
 .cases hl
theorem C.of_goodS{h0:AH}(hg:GoodS P ⟨.call f [] h0,[]⟩)(L:List (Nat×AO×Option Nat))(hd:(L.map (·.1)).Nodup)(hk:∀x∈L,h0.get x.1=some .resv) :
 C P f [] (jw L h0) λv h'=>v=.bool true/\∀c∈L.map (·.1),c<h'.next/\h'.get c=(jw L h0).get c:=by
 have hb:BS P (.call f []) .nil h0 R0:=hg;refine(BS.frames (by simp) hb L hd hk).mono ?_;rintro o ⟨o0,⟨h1,rfl⟩,rfl,q⟩;have hnext:∀x∈L,x.1<h1.next:=λx hx=>AH.lt_of_get (q x hx);refine⟨_,_,rfl,rfl,λc hc=>⟨?_,?_⟩⟩
 .obtain⟨x,hx,rfl⟩:=bh.1 hc;rw[kJ];exact hnext x hx
 .exact zd L hd hnext (λx hx=>AH.lt_of_get (hk x hx)) hc
def gOf(l:List (Nat×Nat)):List Nat:=l.flatMap λp=>List.range' p.1 p.2
end Go.Am
