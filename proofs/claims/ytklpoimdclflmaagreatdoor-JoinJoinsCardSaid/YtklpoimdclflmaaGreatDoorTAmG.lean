/- A closed call carried out by the kernel -/
import Derived.Test.YtklpoimdclflmaaGreatDoorTAmK
set_option linter.all false
namespace Go.Am
variable {P:RP}{S:KS}{args:List AV}{b n:Nat}{f:FuncId}{h:AH}{k:List Fr}{p:List Nat}{ts:Tm}
def R0:Out->Prop:=λo=>∃h,o=.val (.bool true) h
def frS(P:RP):Fr->Out->(Out->Prop)->Prop
 |.seqK b _ _,.norm ts h,R=>BS P (.code b) ts h R
 |.seqK _ _ _,.exit i ts h,R=>R (.exit i ts h)
 |.seqK _ _ _,.ret ts h,R=>R (.ret ts h)
 |.loopK c _ _,.norm ts h,R=>BS P (.code (.loop c)) ts h R
 |.loopK _ _ _,.exit i ts h,R=>R (.exit i ts h)
 |.loopK _ _ _,.ret ts h,R=>R (.ret ts h)
 |.blockK id,o,R=>R (o.unblock id)
 |.callK f,o,R=>∃rf o',P f=some rf/\vi rf (some o)=some o'/\R o'
 |.opsK b p l _ _ _ ts,.val v h,R=>gZ (dH ts p.dst v) h p.cs=true/\BS P (.ops b l) (dH ts p.dst v) h R
 |.rngK l ts,.val _ h,R=>∃o',rV l ts h=some o'/\R o'
 |.asgK b body _ _,.norm ts1 h1,R=>∃fn p tl ps,h1.get b=some (.lp fn p tl ps .ready none)/\BS P (.code body) ts1 (h1.put b (.lp fn p tl ps .busy none)) λo2=>∃r,pn b (some o2)=some r/\R r
 |.rndK b,o,R=>∃r,pn b (some o)=some r/\R r
 |_,_,_=>False
def GS(P:RP):List Fr->Out->Prop
 |[]=>R0
 |fr::k=>λo=>frS P fr o (GS P k)
def kb(P:RP)(S:KS):Prop :=
 match S.f with
 |.ops b l _ _ _ ts h=>BS P (.ops b l) ts h (GS P S.k)
 |.code c _ _ ts h=>BS P (.code c) ts h (GS P S.k)
 |.call f args h=>BS P (.call f args) .nil h (GS P S.k)
 |.round b args h=>BS P (.round b args) .nil h (GS P S.k)
 |.out o=>GS P S.k o
def Cz{o:ROper}{l:List ROper}{f:Nat}(hs:Ix b o l f p n ts h k=some S)(hg:kb P S):kb P ⟨.ops b (o::l) f p n ts h,k⟩:=by
 unfold Ix at hs;split at hs
 .cases hs
 .rename_i hw
  simp only[aa]at hs;subst hs;exact .skipped hw hg
 .rename_i hw
  split at hs
  .rename_i f args ho
   simp only[aa]at hs;subst hs;exact .call hw ho hg (λv g (q:_/\_)=>q.1) λv g (q:_/\_)=>q.2
  .rename_i x args ho
   split at hs
   .rename_i f caps hx
    simp only[aa]at hs;subst hs;exact .callv hw ho hx hg (λv g (q:_/\_)=>q.1) λv g (q:_/\_)=>q.2
   .rename_i c hx
    simp only[aa]at hs;subst hs;exact .yield hw ho hx hg (λv g (q:_/\_)=>q.1) λv g (q:_/\_)=>q.2
   .cases hs
  .split at hs
   .rename_i v h' he
    split at hs
    .rename_i hc
     simp only[aa]at hs;subst hs;exact .op hw he hc hg
    .cases hs
   .cases hs
def AL{c:RC}{f:Nat}(hs:AM c f p ts h k=some S)(hg:kb P S):kb P ⟨.code c f p ts h,k⟩:=by
 cases c<;>simp only[AM,reduceCtorEq,aa]at hs
 case skip=>subst hs;exact .skip hg
 case reg=>subst hs;exact .reg hg
 case regK=>subst hs;exact .regK hg
 case seq=>subst hs;exact .seq hg (λ_ _ q=>q) (λ_ _ _ q=>q) (λ_ _ q=>q)
 case cond =>
  split at hs
  .rename_i hc;simp only[aa]at hs;subst hs;exact .cond hc hg
  .rename_i hc;simp only[aa]at hs;subst hs;exact .cond hc hg
  .cases hs
 case block id c=>subst hs;exact .block hg λo q=>q
 case loop=>subst hs;exact .loop hg (λ_ _ q=>q) (λ_ _ _ q=>q) (λ_ _ q=>q)
 case rangeF =>
  split at hs
  .rename_i g caps hf
   simp only[aa]at hs;subst hs;refine .rangeF hf hg λv' h' q=>?_;obtain⟨o2,h2,h3⟩:=(show ∃o',rV _ _ _=some o'/\GS P k o' from q)
   unfold rV at h2;split at h2
   .rename_i fn p tl ps st pend hl
    split at h2
    .cases h2
    .rename_i hst
     refine⟨fn,p,tl,ps,st,pend,hl,hst,?_⟩;split at h2<;>(cases h2;exact h3)
   .cases h2
  .cases hs
 case exit=>subst hs;exact .exit hg
 case ret=>subst hs;exact .ret hg
def Dc{rf:RF}(hf:P f=some rf)(h1:BS P (.code rf.body) (bV 0 args) h (GS P (.callK f::k))):BS P (.call f args) ts h (GS P k):=by
 refine .func hf h1 (λi ts' h' q=>?_) λts' h' q=>?_
 .obtain⟨rf',o',_,h2,_⟩:=(show ∃rf' o',P f=some rf'/\vi rf' (some (.exit i ts' h'))=some o'/\GS P k o' from q)
  cases h2
 .rcases q with q|q
  .obtain⟨rf',o',e1,h2,h3⟩:=(show ∃rf' o',P f=some rf'/\vi rf' (some (.norm ts' h'))=some o'/\GS P k o' from q)
   rw[hf]at e1;cases e1;simp only[vi,aG]at h2;obtain⟨v,hv,rfl⟩:=h2;exact⟨v,hv,h3⟩
  .obtain⟨rf',o',e1,h2,h3⟩:=(show ∃rf' o',P f=some rf'/\vi rf' (some (.ret ts' h'))=some o'/\GS P k o' from q)
   rw[hf]at e1;cases e1;simp only[vi,aG]at h2;obtain⟨v,hv,rfl⟩:=h2;exact⟨v,hv,h3⟩
def Ab(hs:yI P b args h k=some S)(hg:kb P S):kb P ⟨.round b args h,k⟩:=by
 unfold yI at hs;split at hs
 .rename_i fn p tl ps hl
  split at hs
  .rename_i hal
   split at hs
   .rename_i rf hrf
    split at hs
    .rename_i fn' p' x ps' asg body hn
     split at hs
     .rename_i hc
      obtain⟨rfl,rfl,rfl⟩:=hc;simp only[aa]at hs;subst hs;refine .round hl hal hrf hn hg (λo1 e=>?_) (S2:=λo2=>∃r,pn b (some o2)=some r/\GS P k r) ?_ ?_
      .cases o1 with
       |norm ts1 g1 =>
         obtain⟨f1,p1,t1,s1,hr,_⟩:=(show ∃fn p tl ps,_/\_ from e)
         exact⟨ts1,g1,f1,p1,t1,s1,rfl,hr⟩
       |_=>exact e.elim
      .intro ts2 h2 f2 p2 t2 s2 e hr2;obtain⟨f1,p1,t1,s1,hr,hbd⟩:=(show ∃fn p tl ps,h2.get b=some (.lp fn p tl ps .ready none)/\BS P (.code body) ts2 (h2.put b (.lp fn p tl ps .busy none)) (λo2=>∃r,pn b (some o2)=some r/\GS P k r) from e)
       rw[hr]at hr2;cases hr2;exact hbd
      .rintro o3 ⟨o,he,hgs⟩;have key:∀{st:LS}{pend:Option (Option Nat)}{bb:Bool}{h3:AH},mY b st pend bb h3=some o->∃fn p tl ps,h3.get b=some (.lp fn p tl ps .busy none)/\GS P k (Out.val (.bool bb) (h3.put b (.lp fn p tl ps st pend))):=by
        intro st pend bb h3 hk;unfold mY at hk;split at hk
        .rename_i hb;cases hk;exact⟨_,_,_,_,hb,hgs⟩
        .cases hk
       cases o3 with
       |norm=>exact key he
       |ret=>exact key he
       |exit=>exact key he
       |val=>cases he
     .cases hs
    .cases hs
   .cases hs
  .cases hs
 .cases hs
def Cy{fr:Fr}{o:Out}(hs:qB P fr o k=some S)(hg:kb P S):kb P ⟨.out o,fr::k⟩:=by
 cases fr with
 |seqK b f p =>
   cases o<;>simp only[qB,reduceCtorEq,aa]at hs
   case norm=>subst hs;exact hg
   case exit=>subst hs;exact hg
   case ret=>subst hs;exact hg
 |loopK b f p =>
   cases o<;>simp only[qB,reduceCtorEq,aa]at hs
   case norm=>subst hs;exact .loop hg (λ_ _ q=>q) (λ_ _ _ q=>q) (λ_ _ q=>q)
   case exit=>subst hs;exact hg
   case ret=>subst hs;exact hg
 |blockK id =>
   simp only[qB,aa]at hs;subst hs;exact hg
 |callK f =>
   simp only[qB]at hs;split at hs
   .rename_i rf hrf
    split at hs
    .rename_i o' ho
     simp only[aa]at hs;subst hs;exact⟨rf,o',hrf,ho,hg⟩
    .cases hs
   .cases hs
 |opsK b q l f p n ts =>
   cases o<;>simp only[qB,reduceCtorEq]at hs;split at hs
   .rename_i hc
    simp only[aa]at hs;subst hs;exact⟨hc,hg⟩
   .cases hs
 |rngK l ts =>
   cases o<;>simp only[qB,reduceCtorEq]at hs;split at hs
   .rename_i o' ho
    simp only[aa]at hs;subst hs;exact⟨o',ho,hg⟩
   .cases hs
 |asgK b body f p =>
   cases o<;>simp only[qB,reduceCtorEq]at hs;split at hs
   .rename_i fn q tl ps hl
    simp only[aa]at hs;subst hs;exact⟨fn,q,tl,ps,hl,hg⟩
   .cases hs
 |rndK b =>
   simp only[qB]at hs;split at hs
   .rename_i o' ho
    simp only[aa]at hs;subst hs;exact⟨o',ho,hg⟩
   .cases hs
def AJ{S':KS}(hs:tF P S=some S')(hg:kb P S'):kb P S:=by
 obtain⟨f,k⟩:=S;cases f with
 |ops b l f p n ts h =>
   cases l with
   |nil =>
     simp only[tF,aa]at hs;subst hs;exact .nil hg
   |cons o l=>exact Cz hs hg
 |code c f p ts h=>exact AL hs hg
 |call f args h =>
   simp only[tF]at hs;split at hs
   .rename_i rf hrf
    simp only[aa]at hs;subst hs;exact Dc hrf hg
   .cases hs
 |round b args h=>exact Ab hs hg
 |out o =>
   cases k with
   |nil=>simp[tF]at hs
   |cons fr k=>exact Cy hs hg
def tG{P:RP}:∀{n:Nat}{S S':KS},uZ P n S=some S'->kb P S'->kb P S
 |0,S,S',hs,hg=>by simp only[uZ,aa]at hs;subst hs;exact hg
 |n+1,S,S',hs,hg=>by
   simp only[uZ]at hs;split at hs
   .rename_i S1 h1
    exact AJ h1 (tG hs hg)
   .cases hs
def yF{a:PS}(hl:Io P n a=true):kb P (a.load P):=by
 unfold Io at hl;split at hl
 .rename_i S hS
  split at hl
  .rename_i o h e1 e2
   refine tG hS ?_;unfold kb;rw[e1,e2];exact⟨_,rfl⟩
  .cases hl
 .cases hl
def C.of_goodS{h0:AH}(hg:kb P ⟨.call f [] h0,[]⟩)(L:List (Nat×AO×Option Nat))(hd:(L.map (·.1)).Nodup)(hk:∀x∈L,h0.get x.1=some .resv) :
 C P f [] (mD L h0) λv h'=>v=.bool true/\∀c∈L.map (·.1),c<h'.next/\h'.get c=(mD L h0).get c:=by
 have hb:BS P (.call f []) .nil h0 R0:=hg;refine(BS.frames (by simp) hb L hd hk).mono ?_;rintro o ⟨o0,⟨h1,rfl⟩,rfl,q⟩;have hnext:∀x∈L,x.1<h1.next:=λx hx=>AH.lt_of_get (q x hx);refine⟨_,_,rfl,rfl,λc hc=>⟨?_,?_⟩⟩
 .obtain⟨x,hx,rfl⟩:=bp.1 hc;rw[lz];exact hnext x hx
 .exact Ao L hd hnext (λx hx=>AH.lt_of_get (hk x hx)) hc
end Go.Am
