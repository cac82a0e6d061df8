/- A closed call carried out by the kernel -/
import Derived.Test.YtmibmlioidpogaaGreatDoorVAmK
set_option linter.all false
namespace Go.Am
variable {P:RP}{S:KS}{args:List AV}{b n:Nat}{f:FuncId}{h:AH}{k:List Fr}{p:List Nat}{ts:Tm}
def R0:Out->Prop:=λo=>∃h,o=.val (.bool true) h
def frS(P:RP):Fr->Out->(Out->Prop)->Prop
 |.seqK b _ _,.norm ts h,R=>BS P (.code b) ts h R
 |.seqK _ _ _,.exit i ts h,R=>R (.exit i ts h)
 |.seqK _ _ _,.ret ts h,R=>R (.ret ts h)
 |.loopK c _ _,.norm ts h,R=>BS P (.code (.loop c)) ts h R
 |.loopK _ _ _,.exit i ts h,R=>R (.exit i ts h)
 |.loopK _ _ _,.ret ts h,R=>R (.ret ts h)
 |.blockK id,o,R=>R (o.unblock id)
 |.callK f,o,R=>∃rf o',P f=some rf/\sJ rf (some o)=some o'/\R o'
 |.opsK b p l _ _ _ ts,.val v h,R=>gu (dE ts p.dst v) h p.cs=true/\BS P (.ops b l) (dE ts p.dst v) h R
 |.rngK l ts,.val _ h,R=>∃o',pk l ts h=some o'/\R o'
 |.asgK b body _ _,.norm ts1 h1,R=>∃fn p tl ps,h1.get b=some (.lp fn p tl ps .ready none)/\BS P (.code body) ts1 (h1.put b (.lp fn p tl ps .busy none)) λo2=>∃r,mZ b (some o2)=some r/\R r
 |.rndK b,o,R=>∃r,mZ b (some o)=some r/\R r
 |_,_,_=>False
def GS(P:RP):List Fr->Out->Prop
 |[]=>R0
 |fr::k=>λo=>frS P fr o (GS P k)
def jg(P:RP)(S:KS):Prop :=
 match S.f with
 |.ops b l _ _ _ ts h=>BS P (.ops b l) ts h (GS P S.k)
 |.code c _ _ ts h=>BS P (.code c) ts h (GS P S.k)
 |.call f args h=>BS P (.call f args) .nil h (GS P S.k)
 |.round b args h=>BS P (.round b args) .nil h (GS P S.k)
 |.out o=>GS P S.k o
theorem Ak{o:ROper}{l:List ROper}{f:Nat}(hs:Gg b o l f p n ts h k=some S)(hg:jg P S):jg P ⟨.ops b (o::l) f p n ts h,k⟩:=by
 unfold Gg at hs;split at hs
 .cases hs
 .rename_i hw
  simp only[aa]at hs;subst hs;exact .skipped hw hg
 .rename_i hw
  split at hs
  .rename_i f args ho
   simp only[aa]at hs;subst hs;exact .call hw ho hg (λv g (q:_/\_)=>q.1) λv g (q:_/\_)=>q.2
  .rename_i x args ho
   split at hs
   .rename_i f caps hx
    simp only[aa]at hs;subst hs;exact .callv hw ho hx hg (λv g (q:_/\_)=>q.1) λv g (q:_/\_)=>q.2
   .rename_i c hx
    simp only[aa]at hs;subst hs;exact .yield hw ho hx hg (λv g (q:_/\_)=>q.1) λv g (q:_/\_)=>q.2
   .cases hs
  .split at hs
   .rename_i v h' he
    split at hs
    .rename_i hc
     simp only[aa]at hs;subst hs;exact .op hw he hc hg
    .cases hs
   .cases hs
theorem yy{c:RC}{f:Nat}(hs:yz c f p ts h k=some S)(hg:jg P S):jg P ⟨.code c f p ts h,k⟩:=by
 cases c<;>simp only[yz,reduceCtorEq,aa]at hs
 case skip=>subst hs;exact .skip hg
 case reg=>subst hs;exact .reg hg
 case regK=>subst hs;exact .regK hg
 case seq=>subst hs;exact .seq hg (λ_ _ q=>q) (λ_ _ _ q=>q) (λ_ _ q=>q)
 case cond =>
  split at hs
  .rename_i hc;simp only[aa]at hs;subst hs;exact .cond hc hg
  .rename_i hc;simp only[aa]at hs;subst hs;exact .cond hc hg
  .cases hs
 case block id c=>subst hs;exact .block hg λo q=>q
 case loop=>subst hs;exact .loop hg (λ_ _ q=>q) (λ_ _ _ q=>q) (λ_ _ q=>q)
 case rangeF =>
  split at hs
  .rename_i g caps hf
   simp only[aa]at hs;subst hs;refine .rangeF hf hg λv' h' q=>?_;obtain⟨o2,h2,h3⟩:=(show ∃o',pk _ _ _=some o'/\GS P k o' from q)
   unfold pk at h2;split at h2
   .rename_i fn p tl ps st pend hl
    split at h2
    .cases h2
    .rename_i hst
     refine⟨fn,p,tl,ps,st,pend,hl,hst,?_⟩;split at h2<;>(cases h2;exact h3)
   .cases h2
  .cases hs
 case exit=>subst hs;exact .exit hg
 case ret=>subst hs;exact .ret hg
theorem AG{rf:RF}(hf:P f=some rf)(h1:BS P (.code rf.body) (bE 0 args) h (GS P (.callK f::k))):BS P (.call f args) ts h (GS P k):=by
 refine .func hf h1 (λi ts' h' q=>?_) λts' h' q=>?_
 .obtain⟨rf',o',_,h2,_⟩:=(show ∃rf' o',P f=some rf'/\sJ rf' (some (.exit i ts' h'))=some o'/\GS P k o' from q)
  cases h2
 .rcases q with q|q
  .obtain⟨rf',o',e1,h2,h3⟩:=(show ∃rf' o',P f=some rf'/\sJ rf' (some (.norm ts' h'))=some o'/\GS P k o' from q)
   rw[hf]at e1;cases e1;simp only[sJ,aA]at h2;obtain⟨v,hv,rfl⟩:=h2;exact⟨v,hv,h3⟩
  .obtain⟨rf',o',e1,h2,h3⟩:=(show ∃rf' o',P f=some rf'/\sJ rf' (some (.ret ts' h'))=some o'/\GS P k o' from q)
   rw[hf]at e1;cases e1;simp only[sJ,aA]at h2;obtain⟨v,hv,rfl⟩:=h2;exact⟨v,hv,h3⟩
theorem xP(hs:wi P b args h k=some S)(hg:jg P S):jg P ⟨.round b args h,k⟩:=by
 unfold wi at hs;split at hs
 .rename_i fn p tl ps hl
  split at hs
  .rename_i hal
   split at hs
   .rename_i rf hrf
    split at hs
    .rename_i fn' p' x ps' asg body hn
     split at hs
     .rename_i hc
      obtain⟨rfl,rfl,rfl⟩:=hc;simp only[aa]at hs;subst hs;refine .round hl hal hrf hn hg (λo1 e=>?_) (S2:=λo2=>∃r,mZ b (some o2)=some r/\GS P k r) ?_ ?_
      .cases o1 with
       |norm ts1 g1 =>
         obtain⟨f1,p1,t1,s1,hr,_⟩:=(show ∃fn p tl ps,_/\_ from e)
         exact⟨ts1,g1,f1,p1,t1,s1,rfl,hr⟩
       |_=>exact e.elim
      .intro ts2 h2 f2 p2 t2 s2 e hr2;obtain⟨f1,p1,t1,s1,hr,hbd⟩:=(show ∃fn p tl ps,h2.get b=some (.lp fn p tl ps .ready none)/\BS P (.code body) ts2 (h2.put b (.lp fn p tl ps .busy none)) (λo2=>∃r,mZ b (some o2)=some r/\GS P k r) from e)
       rw[hr]at hr2;cases hr2;exact hbd
      .rintro o3 ⟨o,he,hgs⟩;have key:∀{st:LS}{pend:Option (Option Nat)}{bb:Bool}{h3:AH},lM b st pend bb h3=some o->∃fn p tl ps,h3.get b=some (.lp fn p tl ps .busy none)/\GS P k (Out.val (.bool bb) (h3.put b (.lp fn p tl ps st pend))):=by
        intro st pend bb h3 hk;unfold lM at hk;split at hk
        .rename_i hb;cases hk;exact⟨_,_,_,_,hb,hgs⟩
        .cases hk
       cases o3 with
       |norm=>exact key he
       |ret=>exact key he
       |exit=>exact key he
       |val=>cases he
     .cases hs
    .cases hs
   .cases hs
  .cases hs
 .cases hs
theorem Aj{fr:Fr}{o:Out}(hs:oG P fr o k=some S)(hg:jg P S):jg P ⟨.out o,fr::k⟩:=by
 cases fr with
 |seqK b f p =>
   cases o<;>simp only[oG,reduceCtorEq,aa]at hs
   case norm=>subst hs;exact hg
   case exit=>subst hs;exact hg
   case ret=>subst hs;exact hg
 |loopK b f p =>
   cases o<;>simp only[oG,reduceCtorEq,aa]at hs
   case norm=>subst hs;exact .loop hg (λ_ _ q=>q) (λ_ _ _ q=>q) (λ_ _ q=>q)
   case exit=>subst hs;exact hg
   case ret=>subst hs;exact hg
 |blockK id =>
   simp only[oG,aa]at hs;subst hs;exact hg
 |callK f =>
   simp only[oG]at hs;split at hs
   .rename_i rf hrf
    split at hs
    .rename_i o' ho
     simp only[aa]at hs;subst hs;exact⟨rf,o',hrf,ho,hg⟩
    .cases hs
   .cases hs
 |opsK b q l f p n ts =>
   cases o<;>simp only[oG,reduceCtorEq]at hs;split at hs
   .rename_i hc
    simp only[aa]at hs;subst hs;exact⟨hc,hg⟩
   .cases hs
 |rngK l ts =>
   cases o<;>simp only[oG,reduceCtorEq]at hs;split at hs
   .rename_i o' ho
    simp only[aa]at hs;subst hs;exact⟨o',ho,hg⟩
   .cases hs
 |asgK b body f p =>
   cases o<;>simp only[oG,reduceCtorEq]at hs;split at hs
   .rename_i fn q tl ps hl
    simp only[aa]at hs;subst hs;exact⟨fn,q,tl,ps,hl,hg⟩
   .cases hs
 |rndK b =>
   simp only[oG]at hs;split at hs
   .rename_i o' ho
    simp only[aa]at hs;subst hs;exact⟨o',ho,hg⟩
   .cases hs
theorem yw{S':KS}(hs:qG P S=some S')(hg:jg P S'):jg P S:=by
 obtain⟨f,k⟩:=S;cases f with
 |ops b l f p n ts h =>
   cases l with
   |nil =>
     simp only[qG,aa]at hs;subst hs;exact .nil hg
   |cons o l=>exact Ak hs hg
 |code c f p ts h=>exact yy hs hg
 |call f args h =>
   simp only[qG]at hs;split at hs
   .rename_i rf hrf
    simp only[aa]at hs;subst hs;exact AG hrf hg
   .cases hs
 |round b args h=>exact xP hs hg
 |out o =>
   cases k with
   |nil=>simp[qG]at hs
   |cons fr k=>exact Aj hs hg
theorem qH{P:RP}:∀{n:Nat}{S S':KS},sD P n S=some S'->jg P S'->jg P S
 |0,S,S',hs,hg=>by simp only[sD,aa]at hs;subst hs;exact hg
 |n+1,S,S',hs,hg=>by
   simp only[sD]at hs;split at hs
   .rename_i S1 h1
    exact yw h1 (qH hs hg)
   .cases hs
theorem vY{a:PS}(hl:FZ P n a=true):jg P (a.load P):=by
 unfold FZ at hl;split at hl
 .rename_i S hS
  split at hl
  .rename_i o h e1 e2
   refine qH hS ?_;unfold jg;rw[e1,e2];exact⟨_,rfl⟩
  .cases hl
 .cases hl
theorem C.of_goodS{h0:AH}(hg:jg P ⟨.call f [] h0,[]⟩)(L:List (Nat×AO×Option Nat))(hd:(L.map (·.1)).Nodup)(hk:∀x∈L,h0.get x.1=some .resv) :
 C P f [] (lj L h0) λv h'=>v=.bool true/\∀c∈L.map (·.1),c<h'.next/\h'.get c=(lj L h0).get c:=by
 have hb:BS P (.call f []) .nil h0 R0:=hg;refine(BS.frames (by simp) hb L hd hk).mono ?_;rintro o ⟨o0,⟨h1,rfl⟩,rfl,q⟩;have hnext:∀x∈L,x.1<h1.next:=λx hx=>AH.lt_of_get (q x hx);refine⟨_,_,rfl,rfl,λc hc=>⟨?_,?_⟩⟩
 .obtain⟨x,hx,rfl⟩:=bA.1 hc;rw[jZ];exact hnext x hx
 .exact xW L hd hnext (λx hx=>AH.lt_of_get (hk x hx)) hc
end Go.Am
