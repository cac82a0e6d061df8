/- A region that draws its order -/
import Derived.Test.YtklpoimdclflmaaGreatDoorTAmFrame
set_option linter.all false
namespace Go.Am
variable {R:Out->Prop}{h:AH}{l:List ROper}{ts:Tm}
def jQ(c:Nat×ROp×Option (Nat×Bool)):List Nat:=c.1::(c.2.1.ros.flatMap RO.tm++(match c.2.2 with|some (n,_)=>[n]|none=>[]))
def ROper.looksK(o:ROper):List Nat:=o.looks++o.cs.flatMap jQ
def wT:List Nat->List Nat->List Nat
 |acc,[]=>acc
 |acc,x::r=>match acc.contains x with
   |true=>wT acc r
   |false=>wT (x::acc) r
def sI:∀(l acc:List Nat) {x:Nat},x∈wT acc l->x∈acc\/x∈l
 |[],acc,x,h=>.inl h
 |y::r,acc,x,h=>by
   unfold wT at h;split at h
   .rcases sI r acc h with h|h
    .exact .inl h
    .exact .inr (aN _ h)
   .rcases sI r (y::acc) h with h|h
    .rcases aF.1 h with rfl|h
     .exact .inr (aM ..)
     .exact .inl h
    .exact .inr (aN _ h)
def Dm:List (List Nat)->List (List Nat)->List (List Nat)
 |acc,[]=>acc
 |acc,e::r=>Dm (acc++[wT [] (e++e.flatMap λk=>acc.getD k [])]) r
def yx:List Nat->Bool
 |[]=>true
 |x::l=>!(l.contains x)&&yx l
def yg:Nat->List (List Nat)->Bool
 |_,[]=>true
 |n,e::r=>e.all (·<n)&&yg (n+1) r
def FE{ev ev':RO->AV}{op:ROp}(hx:∀x∈op.ros,ev' x=ev x):lay ev' h op=lay ev h op:=by
 cases op<;>simp only[ROp.ros,aF,bA,or_false,forall_eq_or_imp,forall_eq]at hx<;>simp only[lay]
 case mksl z e n ps=>rw[nN ps _ hx]
 all_goals first|rfl|simp only[hx]
def EV(P:RP)(b:Nat)(o:ROper)(ts:Tm)(h:AH)(T:AV->AH->Prop):Prop :=
 (∃v h1,evN b (RO.ev ts) h o=some (v,h1)/\T v h1) \/
 (∃x as,o.op=.nxM x/\we h (RO.ev ts x)=some as/\∀v h',(v,h')∈as->T v h') \/
 (∃f args U,o.op=.call f args/\BS P (.call f (args.map (RO.ev ts))) .nil h U/\∀v h',U (.val v h')->T v h') \/
 (∃x args f caps U,o.op=.callv x args/\RO.ev ts x=.fn f caps/\BS P (.call f (args.map (RO.ev ts)++caps)) .nil h U/\∀v h',U (.val v h')->T v h') \/
 (∃x args c U,o.op=.callv x args/\RO.ev ts x=.yld c/\BS P (.round c (args.map (RO.ev ts))) .nil h U/\∀v h',U (.val v h')->T v h')
def SV(P:RP)(b:Nat)(o:ROper)(ts:Tm)(h:AH)(S:AV->AH->Prop):Prop :=
 (wanted ts o.guard=some false/\S .un h) \/
 (wanted ts o.guard=some true/\EV P b o ts h λv h'=>S v h'/\gZ (dH ts o.dst v) h' o.cs=true)
def BS.step{P:RP}{b:Nat}{o:ROper}{S:AV->AH->Prop}(hs:SV P b o ts h S)(hb:∀v h1,S v h1->BS P (.ops b l) (dH ts o.dst v) h1 R):BS P (.ops b (o::l)) ts h R:=by
 rcases hs with⟨hw,hs⟩|⟨hw,⟨v,h1,he,hs⟩|⟨x,as,ho,hn,hs⟩|⟨f,args,T,ho,hc,hs⟩|⟨x,args,f,caps,T,ho,hx,hc,hs⟩|⟨x,args,c,T,ho,hx,hc,hs⟩⟩
 .exact .skipped hw (hb _ _ hs)
 .exact .op hw he hs.2 (hb _ _ hs.1)
 .exact .any hw ho hn (λv h' hm=>(hs v h' hm).2) λv h' hm=>hb _ _ (hs v h' hm).1
 .exact .call hw ho hc (λv h' hm=>(hs v h' hm).2) λv h' hm=>hb _ _ (hs v h' hm).1
 .exact .callv hw ho hx hc (λv h' hm=>(hs v h' hm).2) λv h' hm=>hb _ _ (hs v h' hm).1
 .exact .yield hw ho hx hc (λv h' hm=>(hs v h' hm).2) λv h' hm=>hb _ _ (hs v h' hm).1
def BS.unstep{P:RP}{b:Nat}{o:ROper}(hb:BS P (.ops b (o::l)) ts h R):∃S,SV P b o ts h S/\∀v h1,S v h1->BS P (.ops b l) (dH ts o.dst v) h1 R:=by
 cases hb with
 |skipped hw hb=>exact⟨λv h1=>v=.un/\h1=h,.inl ⟨hw,rfl,rfl⟩,by rintro v h1 ⟨rfl,rfl⟩;exact hb⟩
 |@op _ _ _ _ _ v0 h0 _ hw he hc hb=>exact⟨λv h1=>v=v0/\h1=h0,.inr ⟨hw,.inl ⟨_,_,he,⟨rfl,rfl⟩,hc⟩⟩,by rintro v h1 ⟨rfl,rfl⟩;exact hb⟩
 |@any _ _ _ _ _ x as _ hw ho hn hc hb=>exact⟨λv h1=>(v,h1)∈as,.inr ⟨hw,.inr (.inl ⟨_,_,ho,hn,λ_ _ q=>⟨q,hc _ _ q⟩⟩)⟩,hb⟩
 |@call _ _ _ _ _ f args S _ hw ho hc hk hb=>exact⟨λv h1=>S (.val v h1),.inr ⟨hw,.inr (.inr (.inl ⟨_,_,_,ho,hc,λ_ _ q=>⟨q,hk _ _ q⟩⟩))⟩,hb⟩
 |@callv _ _ _ _ _ x args f caps S _ hw ho hx hc hk hb=>exact⟨λv h1=>S (.val v h1),.inr ⟨hw,.inr (.inr (.inr (.inl ⟨_,_,_,_,_,ho,hx,hc,λ_ _ q=>⟨q,hk _ _ q⟩⟩)))⟩,hb⟩
 |@yield _ _ _ _ _ x args c S _ hw ho hx hc hk hb=>exact⟨λv h1=>S (.val v h1),.inr ⟨hw,.inr (.inr (.inr (.inr ⟨_,_,_,_,ho,hx,hc,λ_ _ q=>⟨q,hk _ _ q⟩⟩)))⟩,hb⟩
section
variable {R:Out->Prop}{S:AV->AH->Prop}{cl es:List (List Nat)}{h:AH}{i j n:Nat}{o x y:ROper}{ops:List ROper}{ts ts':Tm}{v:AV}
variable {P:RP}{b:Nat}
def EV.mono{T:AV->AH->Prop}(hs:EV P b o ts h S)(ht:∀v h1,S v h1->T v h1):EV P b o ts h T:=by
 rcases hs with⟨v,h1,he,hs⟩|⟨x,as,ho,hn,hs⟩|⟨f,args,U,ho,hc,hs⟩|⟨x,args,f,caps,U,ho,hx,hc,hs⟩|⟨x,args,b,U,ho,hx,hc,hs⟩
 .exact .inl ⟨v,h1,he,ht _ _ hs⟩
 .exact .inr (.inl ⟨x,as,ho,hn,λ_ _ q=>ht _ _ (hs _ _ q)⟩)
 .exact .inr (.inr (.inl ⟨f,args,U,ho,hc,λ_ _ q=>ht _ _ (hs _ _ q)⟩))
 .exact .inr (.inr (.inr (.inl ⟨x,args,f,caps,U,ho,hx,hc,λ_ _ q=>ht _ _ (hs _ _ q)⟩)))
 .exact .inr (.inr (.inr (.inr ⟨x,args,b,U,ho,hx,hc,λ_ _ q=>ht _ _ (hs _ _ q)⟩)))
def EV.comes{o:ROper}{ts:Tm}{h:AH}{S:AV->AH->Prop}(hs:EV P b o ts h S):∃v h1,S v h1:=by
 rcases hs with⟨v,h1,he,hs⟩|⟨x,as,ho,hn,hs⟩|⟨f,args,U,ho,hc,hs⟩|⟨x,args,f,caps,U,ho,hx,hc,hs⟩|⟨x,args,b,U,ho,hx,hc,hs⟩
 .exact⟨_,_,hs⟩
 .obtain⟨⟨v,h1⟩,hp⟩:=DT hn;exact⟨v,h1,hs _ _ hp⟩
 .obtain⟨o,ho,v,h',rfl⟩:=hc.comes;exact⟨_,_,hs _ _ ho⟩
 .obtain⟨o,ho,v,h',rfl⟩:=hc.comes;exact⟨_,_,hs _ _ ho⟩
 .obtain⟨o,ho,v,h',rfl⟩:=hc.comes;exact⟨_,_,hs _ _ ho⟩
def SV.mono{o:ROper}{ts:Tm}{h:AH}{S T:AV->AH->Prop}(hs:SV P b o ts h S)(ht:∀v h1,S v h1->T v h1):SV P b o ts h T:=by
 rcases hs with⟨hw,hs⟩|⟨hw,hs⟩
 .exact .inl ⟨hw,ht _ _ hs⟩
 .exact .inr ⟨hw,hs.mono λv h1 q=>⟨ht _ _ q.1,q.2⟩⟩
def SV.comes{o:ROper}{ts:Tm}{h:AH}{S:AV->AH->Prop}(hs:SV P b o ts h S):∃v h1,S v h1:=by
 rcases hs with⟨hw,hs⟩|⟨hw,hs⟩
 .exact⟨_,_,hs⟩
 .obtain⟨v,h1,q⟩:=hs.comes;exact⟨v,h1,q.1⟩
def mZ{ts:Tm}{h:AH}:∀{cs:List (Nat×ROp×Option (Nat×Bool))},gZ ts h cs=true↔∀c∈cs,sY ts h c=true
 |[]=>by simp[gZ]
 |c::r=>by simp[gZ,mZ (cs:=r)]
def oL{g:Option (Nat×Bool)}(h:∀n∈(match g with|some (n,_)=>[n]|none=>([]:List Nat)),db ts' n=db ts n):wanted ts' g=wanted ts g:=by
 cases g with
 |none=>rfl
 |some p =>
   obtain⟨m,b⟩:=p;simp only[wanted];rw[h m (by simp)]
def Gm{c:Nat×ROp×Option (Nat×Bool)}(hl:∀n∈jQ c,db ts' n=db ts n):sY ts' h c=sY ts h c:=by
 unfold sY;rw[oL (λn hn=>hl n (by unfold jQ;simp only[aF,aZ];exact .inr (.inr hn)))];rw[qF (ev:=RO.ev ts) (ev':=RO.ev ts') (λx hx=>yU λn hn=>hl n (by unfold jQ;simp only[aF,aZ,cM];exact .inr (.inl ⟨x,hx,hn⟩)))];rw[hl c.1 (by simp[jQ])]
def SV.drop{o:ROper}{cs:List (Nat×ROp×Option (Nat×Bool))}(hc:∀c∈cs,c∈o.cs)(hs:SV P b o ts h S):SV P b { o with cs:=cs} ts h S:=by
 rcases hs with⟨hw,hs⟩|⟨hw,hs⟩
 .exact .inl ⟨hw,hs⟩
 .refine .inr ⟨hw,?_⟩;have key:EV P b o ts h (λv h'=>S v h'/\gZ (dH ts o.dst v) h' cs=true):=hs.mono λv h' q=>⟨q.1,mZ.2 λc hm=>mZ.1 q.2 c (hc c hm)⟩
  exact key
def SV.cong(hl:∀n∈o.looksK,db ts' n=db ts n)(hs:SV P b o ts h S):SV P b o ts' h S:=by
 have hl1:∀n∈o.looks,db ts' n=db ts n:=λn hn=>hl n (by unfold ROper.looksK;exact cW _ hn);have hw:wanted ts' o.guard=wanted ts o.guard:=oL λn hn=>hl1 n (by unfold ROper.looks;exact hU _ hn);have hx:∀x∈o.op.ros,RO.ev ts' x=RO.ev ts x:=λx hx=>yU λn hn=>hl1 n (by
  simp only[ROper.looks,aZ,cM];exact .inl ⟨x,hx,hn⟩)
 have hck:∀v h',gZ (dH ts' o.dst v) h' o.cs=gZ (dH ts o.dst v) h' o.cs:=by
  intro v h';rw[dM,mZ,mZ];refine forall_congr' λc=>forall_congr' λhc=>?_;rw[Gm (ts:=dH ts o.dst v) (ts':=dH ts' o.dst v)];intro n hn;by_cases hd:o.dst=some n
  .rw[hd];simp[dH,fD]
  .rw[pB (λm hm e=>hd (by rw[hm,e])),pB (λm hm e=>hd (by rw[hm,e]))];exact hl n (by unfold ROper.looksK;exact hU _ (cM.2 ⟨c,hc,hn⟩))
 rcases hs with⟨h1,h2⟩|⟨h1,h2⟩
 .exact .inl ⟨by rw[hw];exact h1,h2⟩
 .refine .inr ⟨by rw[hw];exact h1,?_⟩;simp only[hck];rcases h2 with⟨v,h1,he,hs⟩|⟨x,as,ho,hn,hs⟩|⟨f,args,T,ho,hc,hs⟩|⟨x,args,f,caps,T,ho,hy,hc,hs⟩|⟨x,args,c,T,ho,hy,hc,hs⟩
  .refine .inl ⟨v,h1,?_,hs⟩;have:evN b (RO.ev ts') h o=evN b (RO.ev ts) h o:=by
    unfold evN;split
    .exact qF hx
    .unfold iV;rw[FE hx]
   rw[this];exact he
  .exact .inr (.inl ⟨x,as,ho,by rw[hx x (by rw[ho];simp[ROp.ros])];exact hn,hs⟩)
  .refine .inr (.inr (.inl ⟨f,args,T,ho,?_,hs⟩));rw[cT (λa ha=>hx a (by rw[ho];exact ha))];exact hc
  .refine .inr (.inr (.inr (.inl ⟨x,args,f,caps,T,ho,?_,?_,hs⟩)))
   .rw[hx x (by rw[ho];simp[ROp.ros])];exact hy
   .rw[cT (λa ha=>hx a (by rw[ho];simp[ROp.ros,ha]))];exact hc
  .refine .inr (.inr (.inr (.inr ⟨x,args,c,T,ho,?_,?_,hs⟩)))
   .rw[hx x (by rw[ho];simp[ROp.ros])];exact hy
   .rw[cT (λa ha=>hx a (by rw[ho];simp[ROp.ros,ha]))];exact hc
def SV.ev{o:ROper}{ts:Tm}{h:AH}{S:AV->AH->Prop}(hc:o.op.cls<3)(hs:SV P b o ts h S):(wanted ts o.guard=some false/\S .un h)\/(wanted ts o.guard=some true/\∃v h1,evN b (RO.ev ts) h o=some (v,h1)/\S v h1):=by
 rcases hs with h1|⟨h1,⟨v,h2,he,hs⟩|⟨x,as,ho,hn,hs⟩|⟨f,args,T,ho,_⟩|⟨x,args,f,caps,T,ho,_,_⟩|⟨x,args,b,T,ho,_,_⟩⟩
 .exact .inl h1
 .exact .inr ⟨h1,v,h2,he,hs.1⟩
 all_goals rw[ho]at hc;simp[ROp.cls]at hc
def yV{ev:RO->AV}{p:AV×AH}(hc:o.op.cls≠2)(he:evN b ev h o=some p):(∀h2,evN b ev h2 o=aL ev h2 o.op)/\aL ev h o.op=some p:=by
 unfold evN at he;split at he
 .rename_i hn
  exact⟨λh2=>by unfold evN;rw[hn],he⟩
 .unfold iV at he;split at he
  .split at he
   .rename_i hl
    exact absurd (LN hl) hc
   .cases he
  .cases he
def SV.of_ev{h1:AH}(hcs:o.cs=[])(hw:wanted ts o.guard=some true)(he:evN b (RO.ev ts) h o=some (v,h1))(hs:S v h1):SV P b o ts h S :=
 .inr ⟨hw,.inl ⟨v,h1,he,hs,by rw[hcs];rfl⟩⟩
def SV.pure(hc:o.op.cls=0)(hcs:o.cs=[])(hs:SV P b o ts h S):∃v,S v h/\∀g T,T v g->SV P b o ts g T:=by
 rcases hs.ev om with⟨a,c⟩|⟨a,v,h1,e,c⟩
 .exact⟨_,c,λg T hT=>.inl ⟨a,hT⟩⟩
 .obtain⟨k1,k2⟩:=yV om e;obtain⟨rfl,h2⟩:=xy hc k2;exact⟨v,c,λg T hT=>.of_ev hcs a (by rw[k1];exact h2 g) hT⟩
def SV.reads(hc:o.op.cls=1)(hcs:o.cs=[])(hs:SV P b o ts h S):∃v,S v h/\∀(g:AH) T,Keeps h g->T v g->SV P b o ts g T:=by
 rcases hs.ev om with⟨a,c⟩|⟨a,v,h1,e,c⟩
 .exact⟨_,c,λg T _ hT=>.inl ⟨a,hT⟩⟩
 .obtain⟨k1,k2⟩:=yV om e;obtain⟨rfl,h2⟩:=pM hc k2;exact⟨v,c,λg T hg hT=>.of_ev hcs a (by rw[k1];exact h2 g hg) hT⟩
def SV.news(hc:o.op.cls=2)(hcs:o.cs=[])(hs:SV P b o ts h S):∃v h1,S v h1/\Keeps h h1/\∀T,T v h1->SV P b o ts h T:=by
 rcases hs.ev om with⟨a,c⟩|⟨a,v,h1,e,c⟩
 .exact⟨_,_,c,Keeps.refl h,λT hT=>.inl ⟨a,hT⟩⟩
 .refine⟨v,h1,c,?_,λT hT=>.of_ev hcs a e hT⟩;unfold evN at e;split at e
  .rw[vt hc,aG]at e;obtain⟨p,_,e⟩:=e;simp only[aq]at e;obtain⟨_,rfl⟩:=e;exact CB
  .unfold iV at e;split at e
   .rename_i hg
    split at e
    .simp only[aa,aq]at e;obtain⟨_,rfl⟩:=e;exact dK hg
    .cases e
   .cases e
def SV.lays(hc:o.op.cls=2)(hn:o.nm=some j)(hs:SV P b o ts h S):(wanted ts o.guard=some false/\S .un h) \/
 (wanted ts o.guard=some true/\∃f ob tg,lay (RO.ev ts) h o.op=some (f,ob,tg)/\h.get (b+j)=some .resv/\S (f (b+j)) (h.putG (b+j) ob tg)):=by
 rcases hs.ev om with⟨a,c⟩|⟨a,v,h1,e,c⟩
 .exact .inl ⟨a,c⟩
 .refine .inr ⟨a,?_⟩;unfold evN at e;rw[hn]at e;simp only[iV]at e;split at e
  .rename_i hg
   split at e
   .rename_i f ob tg hl
    simp only[aa,aq]at e;obtain⟨rfl,rfl⟩:=e;exact⟨f,ob,tg,hl,hg,c⟩
   .cases e
  .cases e
def SV.lay_mk(hcs:o.cs=[])(hn:o.nm=some j)(hw:wanted ts o.guard=some true){f:Nat->AV}{ob:AO}{tg:Option Nat}(hl:lay (RO.ev ts) h o.op=some (f,ob,tg))(hg:h.get (b+j)=some .resv)(hs:S (f (b+j)) (h.putG (b+j) ob tg)):SV P b o ts h S:=by
 refine .of_ev hcs hw ?_ hs;unfold evN;rw[hn];simp only[iV,hg,hl]
def SV.frame{o:ROper}{ts:Tm}{h:AH}{S:AV->AH->Prop}{n:Nat}{ob:AO}{tg:Option Nat}(hn:h.get n=some .resv)(hnm:∀j,o.nm=some j->b+j≠n)(hs:SV P b o ts h S) :
 SV P b o ts (h.putG n ob tg) (λv h1=>∃h0,S v h0/\h0.get n=some .resv/\h1=h0.putG n ob tg):=by
 rcases hs with⟨a,c⟩|⟨a,hs⟩
 .exact .inl ⟨a,_,c,hn,rfl⟩
 .refine .inr ⟨a,?_⟩;have key:∀{v:AV}{h0:AH},S v h0/\gZ (dH ts o.dst v) h0 o.cs=true->h0.get n=some .resv->(∃h1,S v h1/\h1.get n=some .resv/\h0.putG n ob tg=h1.putG n ob tg)/\gZ (dH ts o.dst v) (h0.putG n ob tg) o.cs=true:=λq hg=>⟨⟨_,q.1,hg,rfl⟩,jz hg q.2⟩
  rcases hs with⟨v,h2,he,hs⟩|⟨x,as,ho,hm,hs⟩|⟨f,args,T,ho,hc,hs⟩|⟨x,args,f,caps,T,ho,hx,hc,hs⟩|⟨x,args,b,T,ho,hx,hc,hs⟩
  .obtain⟨f1,f2⟩:=xG (o:=ob) (tg:=tg) hn hnm v h2 he;exact .inl ⟨_,_,f2,key hs f1⟩
  .obtain⟨f1,f2⟩:=wU (o:=ob) (tg:=tg) hn hm;refine .inr (.inl ⟨_,_,ho,f1,λv h' hm=>?_⟩);rw[bp]at hm;obtain⟨⟨v0,h0⟩,hm,e⟩:=hm;simp only[aq]at e;obtain⟨rfl,rfl⟩:=e;exact key (hs _ _ hm) (f2 _ _ hm)
  .refine .inr (.inr (.inl ⟨_,_,_,ho,hc.frame (o:=ob) (tg:=tg) hn (λ_ _ q=>by cases q),λv h' hm=>?_⟩));obtain⟨h0,q1,q2,rfl⟩:=hm.val;exact key (hs _ _ q1) q2
  .refine .inr (.inr (.inr (.inl ⟨_,_,_,_,_,ho,hx,hc.frame (o:=ob) (tg:=tg) hn (λ_ _ q=>by cases q),λv h' hm=>?_⟩)));obtain⟨h0,q1,q2,rfl⟩:=hm.val;exact key (hs _ _ q1) q2
  .refine .inr (.inr (.inr (.inr ⟨_,_,_,_,ho,hx,hc.frame (o:=ob) (tg:=tg) hn (λ_ _ q=>by cases q),λv h' hm=>?_⟩)));obtain⟨h0,q1,q2,rfl⟩:=hm.val;exact key (hs _ _ q1) q2
def SV.keeps(hn:h.get n=some .resv)(hnm:∀j,o.nm=some j->b+j≠n)(hs:SV P b o ts h S):SV P b o ts h (λv h1=>S v h1/\h1.get n=some .resv):=by
 have:=hs.frame (ob:=.resv) (tg:=none) hn hnm;rw[AH.putG_same hn]at this;refine this.mono ?_;rintro v h1 ⟨h0,q1,q2,rfl⟩;rw[AH.putG_same q2];exact⟨q1,q2⟩
def SV.keepsAll{o:ROper}{ts:Tm}{h:AH}:∀(Z:List Nat) {S:AV->AH->Prop},(∀n∈Z,h.get n=some .resv/\∀j,o.nm=some j->b+j≠n)->SV P b o ts h S->SV P b o ts h (λv h1=>S v h1/\∀n∈Z,h1.get n=some .resv)
 |[],S,_,hs=>hs.mono λv h1 q=>⟨q,λn hn=>by cases hn⟩
 |m::Z,S,hz,hs=>by
   have h1:=SV.keepsAll Z (λn hn=>hz n (by simp[hn])) hs;have h2:=h1.keeps (hz m (by simp)).1 (hz m (by simp)).2;refine h2.mono λv h1 q=>⟨q.1.1,λn hn=>?_⟩
   rw[aF]at hn;rcases hn with rfl|hn
   .exact q.2
   .exact q.1.2 n hn
def SV.chk(hs:SV P b o ts h S):SV P b o ts h (λv h1=>S v h1/\(h1=h\/gZ (dH ts o.dst v) h1 o.cs=true)):=by
 rcases hs with⟨a,c⟩|⟨a,hs⟩
 .exact .inl ⟨a,c,.inl rfl⟩
 .exact .inr ⟨a,hs.mono λv h1 q=>⟨⟨q.1,.inr q.2⟩,q.2⟩⟩
def CK(y x:ROper):Prop :=
 y.op.cls=0\/x.op.cls=0\/(y.op.cls=1/\(x.op.cls=1\/x.op.cls=2)) \/
 (y.op.cls=2/\x.op.cls=2/\x.op.isRg=false/\∃i j,y.nm=some i/\x.nm=some j/\i≠j) \/
 (y.op.cls=3/\y.nm=none/\x.op.cls=2/\x.op.isRg=false/\∃j,x.nm=some j) \/
 (y.op.cls=1/\x.op.cls=3/\∃d,y.dst=some d/\(d,y.op,y.guard)∈x.cs)
def Nh(y x:ROper):Prop:=∀d,x.dst=some d->d∉y.looksK/\y.dst≠some d
def Kf(y:ROper):Prop:=(y.op.cls<3->y.cs=[])/\∀d,y.dst=some d->d∉y.looks
def zF(y x:ROper):Prop:=y.op.cls=1->∀d,x.dst=some d->d∉y.looks/\y.dst≠some d
structure Apart(y x:ROper):Prop where
 ck:CK y x
 af:Nh y x
 yd:∀d,y.dst=some d->d∉x.looks
def lW{d:Option Nat}{L:List Nat}(h:∀n,d=some n->n∉L):∀m∈L,db (dH ts d v) m=db ts m:=λm hm=>pB λn hn e=>h n hn (by rw[e];exact hm)
def BS.swap{y x:ROper}{cs:List (Nat×ROp×Option (Nat×Bool))}{l:List ROper}(hsy:Kf y)(hsx:x.op.cls<3->x.cs=[])(hp:Apart y x)
 (hcs:∀c∈cs,c∈x.cs/\∀d,y.dst=some d->d∉jQ c) (hnm:∀j,x.nm=some j->h.get (b+j)=some .resv) (hb0:BS P (.ops b (y::x::l)) ts h R):BS P (.ops b ({ x with cs:=cs}::y::l)) ts h R:=by
 obtain⟨S,hy,hb⟩:=hb0.unstep;clear hb0;have ha:=hp.af;have hdx:({ x with cs:=cs}:ROper).dst=x.dst:=rfl;have hxl:∀d,y.dst=some d->d∉({ x with cs:=cs}:ROper).looksK:=by
  intro d hd hm;unfold ROper.looksK at hm;rw[aZ]at hm;rcases hm with hm|hm
  .exact hp.yd d hd hm
  .obtain⟨c,hc,hm⟩:=cM.1 hm;exact(hcs c hc).2 d hd hm
 have hxc:∀{v:AV}{g:AH}{T:AV->AH->Prop},SV P b x (dH ts y.dst v) g T->SV P b { x with cs:=cs} ts g T:=λq =>
  (q.drop (cs:=cs) λc hc=>(hcs c hc).1).cong λm hm=>(lW hxl m hm).symm
 have hyc:∀{v:AV}{g:AH}{T:AV->AH->Prop},SV P b y ts g T->SV P b y (dH ts x.dst v) g T:=λq=>q.cong (lW λd hd=>(ha d hd).1);have hne:∀n m,y.dst=some n->x.dst=some m->n≠m:=λn m hn hm e=>(ha m hm).2 (by rw[hn,e]);have hcomm:∀u v,dH (dH ts y.dst v) x.dst u=dH (dH ts x.dst u) y.dst v:=λu v=>Ga hne;have hxn:x.op.cls<3->({ x with cs:=cs}:ROper).cs=[]:=by
  intro q;have e:=hsx q;cases cs with
  |nil=>rfl
  |cons c r=>have:=(hcs c (by simp)).1;rw[e]at this;cases this
 rcases hp.ck with hc|hc|⟨hc1,hc2⟩|⟨hc1,hc2,hrg,i,j,hi,hj,hij⟩|⟨hc1,hyn,hc2,hrg,j,hj⟩|⟨hc1,hc2,d,hd,hm⟩
 ·
  obtain⟨v,hv,hy'⟩:=hy.pure hc (hsy.1 om);obtain⟨T,hx,hb⟩:=(hb v h hv).unstep;refine BS.step (hxc hx) λu h2 hu=>?_;refine BS.step (S:=λv' h'=>v'=v/\h'=h2) (hyc (hy' h2 _ ⟨rfl,rfl⟩)) ?_;rintro v' h' ⟨rfl,rfl⟩;rw[hdx,<-hcomm];exact hb u _ hu
 ·
  obtain⟨v0,h0,hs0⟩:=hy.comes;obtain⟨T0,hx0,_⟩:=(hb v0 h0 hs0).unstep;obtain⟨u,_,hu⟩:=(hxc hx0).pure (o:={ x with cs:=cs}) hc (hxn om);refine BS.step (S:=λu' h'=>u'=u/\h'=h) (hu h _ ⟨rfl,rfl⟩) ?_;rintro u' h' ⟨rfl,rfl⟩;refine BS.step (hyc hy) λv h1 hv=>?_;obtain⟨T,hx,hb⟩:=(hb v h1 hv).unstep;obtain⟨u2,hu2,hu3⟩:=(hxc hx).pure (o:={ x with cs:=cs}) hc (hxn om);have:u2=u':=by
   have a1:=hu h1 (λa _=>a=u') rfl;have a2:=hu3 h1 (λa _=>a=u2) rfl;have b1:=a1.ev (by show x.op.cls<3;omega);have b2:=a2.ev (by show x.op.cls<3;omega);rcases b1 with⟨c1,d1⟩|⟨c1,w1,g1,d1,k1⟩<;>rcases b2 with⟨c2,d2⟩|⟨c2,w2,g2,d2,k2⟩
   .rw[<-d1,<-d2]
   .rw[c1]at c2;cases c2
   .rw[c1]at c2;cases c2
   .rw[d1]at d2;simp only[aa,aq]at d2;rw[<-k1,<-k2,d2.1]
  subst this;rw[hdx,<-hcomm];exact hb _ _ hu2
 .rcases hc2 with hc2|hc2
  ·
   obtain⟨v,hv,hy'⟩:=hy.reads hc1 (hsy.1 om);obtain⟨T,hx,hb⟩:=(hb v h hv).unstep;obtain⟨u,hu,hx'⟩:=(hxc hx).reads (o:={ x with cs:=cs}) hc2 (hxn om);refine BS.step (S:=λu' h'=>u'=u/\h'=h) (hx' h _ (Keeps.refl h) ⟨rfl,rfl⟩) ?_;rintro u' h' ⟨rfl,rfl⟩;refine BS.step (S:=λv' h2=>v'=v/\h2=h') (hyc (hy' h' _ (Keeps.refl h') ⟨rfl,rfl⟩)) ?_;rintro v' h2 ⟨rfl,rfl⟩;rw[hdx,<-hcomm];exact hb _ _ hu
  ·
   obtain⟨v,hv,hy'⟩:=hy.reads hc1 (hsy.1 om);obtain⟨T,hx,hb⟩:=(hb v h hv).unstep;obtain⟨u,h2,hu,hext,hx'⟩:=(hxc hx).news (o:={ x with cs:=cs}) hc2 (hxn om);refine BS.step (S:=λu' h'=>u'=u/\h'=h2) (hx' _ ⟨rfl,rfl⟩) ?_;rintro u' h' ⟨rfl,rfl⟩;refine BS.step (S:=λv' h2=>v'=v/\h2=h') (hyc (hy' h' _ hext ⟨rfl,rfl⟩)) ?_;rintro v' h3 ⟨rfl,rfl⟩;rw[hdx,<-hcomm];exact hb _ _ hu
 ·
  have hycs:=hsy.1 om;have hxcs:=hxn om;rcases hy.lays hc1 hi with⟨w,hs⟩|⟨w,f,ob,tg,hl,hg,hs⟩
  .obtain⟨T,hx,hb⟩:=(hb _ h hs).unstep;refine BS.step (hxc hx) λu h2 hu=>?_;refine BS.step (S:=λv' h'=>v'=.un/\h'=h2) (hyc (.inl ⟨w,rfl,rfl⟩)) ?_;rintro v' h' ⟨rfl,rfl⟩;rw[hdx,<-hcomm];exact hb u _ hu
  .obtain⟨T,hx,hb⟩:=(hb _ _ hs).unstep;have hne2:b+i≠b+j:=om;rcases(hxc hx).lays (o:={ x with cs:=cs}) hc2 hj with⟨w2,hs2⟩|⟨w2,f2,ob2,tg2,hl2,hg2,hs2⟩
   .refine BS.step (S:=λu' h'=>u'=.un/\h'=h) (.inl ⟨w2,rfl,rfl⟩) ?_;rintro u' h' ⟨rfl,rfl⟩;refine BS.step (S:=λv' h2=>v'=f (b+i)/\h2=h'.putG (b+i) ob tg) (hyc (.lay_mk hycs hi w hl hg ⟨rfl,rfl⟩)) ?_;rintro v' h2 ⟨rfl,rfl⟩;rw[hdx,<-hcomm];exact hb _ _ hs2
   .have hg3:h.get (b+j)=some .resv:=by
     rw[AH.get_putG (AH.lt_of_get hg),if_neg hne2]at hg2;exact hg2
    have hl3:lay (RO.ev ts) h x.op=some (f2,ob2,tg2):=by rw[yH hrg (h:=h.putG (b+i) ob tg)];exact hl2
    refine BS.step (S:=λu' h'=>u'=f2 (b+j)/\h'=h.putG (b+j) ob2 tg2) (.lay_mk (o:={ x with cs:=cs}) hxcs hj w2 hl3 hg3 ⟨rfl,rfl⟩) ?_;rintro u' h' ⟨rfl,rfl⟩;have hg4:(h.putG (b+j) ob2 tg2).get (b+i)=some .resv:=by
     rw[AH.get_putG (AH.lt_of_get hg3),if_neg (λq=>hne2 q.symm)];exact hg
    refine BS.step (S:=λv' h2=>v'=f (b+i)/\h2=(h.putG (b+j) ob2 tg2).putG (b+i) ob tg) (hyc (.lay_mk hycs hi w (yG (dK hg3) hl) hg4 ⟨rfl,rfl⟩)) ?_;rintro v' h2 ⟨rfl,rfl⟩;rw[hdx,<-hcomm,AH.putG_comm (λq=>hne2 q.symm)];exact hb _ _ hs2
 ·
  have hxcs:=hxn om;have hg:=hnm j hj;obtain⟨v0,h0,hs0⟩:=hy.comes;obtain⟨T0,hx0,_⟩:=(hb v0 h0 hs0).unstep;rcases(hxc hx0).lays (o:={ x with cs:=cs}) hc2 hj with⟨w2,_⟩|⟨w2,f2,ob2,tg2,hl2,_,_⟩
  .refine BS.step (S:=λu' h'=>u'=.un/\h'=h) (.inl ⟨w2,rfl,rfl⟩) ?_;rintro u' h' ⟨rfl,rfl⟩;refine BS.step (hyc hy) λv h1 hv=>?_;obtain⟨T,hx,hb⟩:=(hb v h1 hv).unstep;rcases(hxc hx).lays (o:={ x with cs:=cs}) hc2 hj with⟨w3,hs3⟩|⟨w3,_⟩
   .rw[hdx,<-hcomm];exact hb _ _ hs3
   .rw[w2]at w3;cases w3
  .have hl3:∀g,lay (RO.ev ts) g x.op=some (f2,ob2,tg2):=λg=>by rw[yH hrg (h:=h0)];exact hl2
   refine BS.step (S:=λu' h'=>u'=f2 (b+j)/\h'=h.putG (b+j) ob2 tg2) (.lay_mk (o:={ x with cs:=cs}) hxcs hj w2 (hl3 h) hg ⟨rfl,rfl⟩) ?_;rintro u' h' ⟨rfl,rfl⟩;refine BS.step (hyc (hy.frame (ob:=ob2) (tg:=tg2) hg (λi hi=>by rw[hyn]at hi;cases hi))) ?_;rintro v h1 ⟨h3,hv,hg3,rfl⟩;obtain⟨T,hx,hb⟩:=(hb v h3 hv).unstep;rcases(hxc hx).lays (o:={ x with cs:=cs}) hc2 hj with⟨w3,_⟩|⟨w3,f4,ob4,tg4,hl4,hg4,hs4⟩
   .rw[w2]at w3;cases w3
   .have:=hl3 h3;rw[show({ x with cs:=cs}:ROper).op=x.op from rfl,this]at hl4;simp only[aa,aq]at hl4;obtain⟨rfl,rfl,rfl⟩:=hl4;rw[hdx,<-hcomm];exact hb _ _ hs4
 ·
  have hycs:=hsy.1 om;rcases hy.ev om with⟨w,hs⟩|⟨w,v,h1,he,hs⟩
  .obtain⟨T,hx,hb⟩:=(hb _ h hs).unstep;refine BS.step (hxc hx) λu h2 hu=>?_;refine BS.step (S:=λv' h'=>v'=.un/\h'=h2) (hyc (.inl ⟨w,rfl,rfl⟩)) ?_;rintro v' h' ⟨rfl,rfl⟩;rw[hdx,<-hcomm];exact hb u _ hu
  .obtain⟨k1,k2⟩:=yV om he;obtain⟨rfl,hk3⟩:=pM hc1 k2;obtain⟨T,hx,hb⟩:=(hb v _ hs).unstep;have hx2:=hx.chk;refine BS.step (hxc hx2) λu h2 hu=>?_;obtain⟨hT,hu⟩:=hu;have hagree:∀m∈y.looks,db (dH (dH ts y.dst v) x.dst u) m=db ts m:=by
    intro m hm;rw[lW (L:=y.looksK) (λd hd=>(ha d hd).1) m (by unfold ROper.looksK;exact cW _ hm)];exact lW hsy.2 m hm
   have hagree2:∀m∈y.looks,db (dH ts x.dst u) m=db ts m:=λm hm =>
    lW (L:=y.looksK) (λd hd=>(ha d hd).1) m (by unfold ROper.looksK;exact cW _ hm)
   have hros:∀{ts':Tm},(∀m∈y.looks,db ts' m=db ts m)->∀z∈y.op.ros,RO.ev ts' z=RO.ev ts z:=λq z hz=>yU λn hn=>q n (by
    simp only[ROper.looks,aZ,cM];exact .inl ⟨z,hz,hn⟩)
   have hgd:∀{ts':Tm},(∀m∈y.looks,db ts' m=db ts m)->wanted ts' y.guard=wanted ts y.guard:=λq=>oL λn hn=>q n (by unfold ROper.looks;exact hU _ hn);have hread:aL (RO.ev ts) h2 y.op=some (v,h2):=by
    rcases hu with rfl|hu
    .exact k2
    .have hck:=mZ.1 hu _ hm;unfold sY at hck;rw[hgd hagree,w]at hck;simp only at hck;rw[qF (hros hagree)]at hck;split at hck
     .rename_i v2 h3 he2
      have e1:=AV.same_eq _ _ hck;have e2:db (dH (dH ts y.dst v) x.dst u) d=v:=by
       rw[pB (λn hn e=>(ha n hn).2 (by rw[hd,e])),hd];simp[dH,fD]
      rw[e2]at e1;subst e1;obtain⟨rfl,_⟩:=pM hc1 he2;exact he2
     .cases hck
   refine BS.step (S:=λv' h'=>v'=v/\h'=h2) (hyc (.of_ev hycs w (by rw[k1];exact hread) ⟨rfl,rfl⟩)) ?_;rintro v' h' ⟨rfl,rfl⟩;rw[hdx,<-hcomm];exact hb _ _ hT
def BS.bubble{x:ROper}{l:List ROper}(hsx:x.op.cls<3->x.cs=[]):∀(a:List ROper) {cs:List (Nat×ROp×Option (Nat×Bool))}{ts:Tm}{h:AH}{R:Out->Prop},
 (∀y∈a,Kf y/\Apart y x/\∀j,x.nm=some j->y.nm≠some j)->a.Pairwise zF ->
 (∀c∈cs,c∈x.cs/\∀z∈a,∀d,z.dst=some d->d∉jQ c)->(∀j,x.nm=some j->h.get (b+j)=some .resv) ->
 BS P (.ops b (a++x::l)) ts h R->BS P (.ops b ({ x with cs:=cs}::(a++l))) ts h R
 |[],cs,ts,h,R,_,_,hcs,_,hb=>by
   obtain⟨S,hx,hb⟩:=BS.unstep hb;exact BS.step (hx.drop (cs:=cs) λc hc=>(hcs c hc).1) hb
 |y::a,cs,ts,h,R,hi,hpw,hcs,hnm,hb=>by
   obtain⟨hsy,hpy,hny⟩:=hi y (by simp);rw[dh]at hpw;obtain⟨S,hy,hb⟩:=BS.unstep hb;have hy2:SV P b y ts h (λv h1=>S v h1/\∀j,x.nm=some j->h1.get (b+j)=some .resv):=by
    cases hxn:x.nm with
    |none=>exact hy.mono λv h1 q=>⟨q,λj hj=>by cases hj⟩
    |some j =>
      refine(hy.keeps (hnm j hxn) (λi hij=>?_)).mono λv h1 q=>⟨q.1,λj' hj'=>by simp only[aa]at hj';subst hj';exact q.2⟩
      intro e;exact hny j hxn (by rw[hij];congr 1;omega)
   have inner:∀(cs2:List (Nat×ROp×Option (Nat×Bool))),(∀c∈cs2,c∈x.cs/\∀z∈a,∀d,z.dst=some d->d∉jQ c)->BS P (.ops b (y::{ x with cs:=cs2}::(a++l))) ts h R:=λcs2 h2 =>
    BS.step hy2 λv h1 hs=>BS.bubble hsx a (λz hz=>hi z (by simp[hz])) hpw.2 h2 hs.2 (hb v h1 hs.1)
   have hcs1:∀c∈cs,c∈x.cs/\∀z∈a,∀d,z.dst=some d->d∉jQ c:=λc hc=>⟨(hcs c hc).1,λz hz=>(hcs c hc).2 z (by simp[hz])⟩
   have hcsn:∀(cs2:List (Nat×ROp×Option (Nat×Bool))),(∀c∈cs2,c∈x.cs)->x.op.cls<3->cs2=[]:=by
    intro cs2 h2 q;cases cs2 with
    |nil=>rfl
    |cons c r=>have:=h2 c (by simp);rw[hsx q]at this;cases this
   rcases hpy.ck with hc|hc|hc|hc|hc|⟨hc1,hc2,d,hd,hm⟩
   case inr.inr.inr.inr.inr =>
    have hent:∀z∈a,∀e,z.dst=some e->e∉jQ (d,y.op,y.guard):=by
     intro z hz e he hm;have:=hpw.1 z hz hc1 e he;simp only[jQ,aF]at hm;rcases hm with rfl|hm
     .exact this.2 hd
     .exact this.1 hm
    refine BS.swap (x:={ x with cs:=(d,y.op,y.guard)::cs}) hsy (λq=>by have:x.op.cls<3:=q;omega) ⟨.inr (.inr (.inr (.inr (.inr ⟨hc1,hc2,d,hd,by simp⟩)))),hpy.af,hpy.yd⟩ ?_ hnm (inner _ ?_)
    .intro c hc;exact⟨by simp[hc],(hcs c hc).2 y (by simp)⟩
    .intro c hc;rw[aF]at hc;rcases hc with rfl|hc
     .exact⟨hm,hent⟩
     .exact hcs1 c hc
   all_goals
    refine BS.swap (x:={ x with cs:=cs}) hsy (hcsn cs λc hc=>(hcs c hc).1) ⟨?_,hpy.af,hpy.yd⟩ (λc hc=>⟨hc,(hcs c hc).2 y (by simp)⟩) hnm (inner cs hcs1)
   .exact .inl hc
   .exact .inr (.inl hc)
   .exact .inr (.inr (.inl hc))
   .exact .inr (.inr (.inr (.inl hc)))
   .exact .inr (.inr (.inr (.inr (.inl hc))))
def ROper.strip(o:ROper):ROper:={ o with cs:=[]}
def BS.perm{g:Nat->ROper}:∀(l l0:List Nat) {ts:Tm}{h:AH}{R:Out->Prop},l.Perm l0->(∀i∈l0,Kf (g i)) ->
 l0.Pairwise (λy x=>zF (g y) (g x)/\∀j,(g x).nm=some j->(g y).nm≠some j)->(∀y x,[y,x].Sublist l0->[x,y].Sublist l->Apart (g y) (g x)) ->
 (∀i∈l0,∀j,(g i).nm=some j->h.get (b+j)=some .resv)->BS P (.ops b (l0.map g)) ts h R->BS P (.ops b (l.map λi=>(g i).strip)) ts h R
 |[],l0,_,_,_,hp,_,_,_,_,hb=>by
   have:=hp.nil_eq;subst this;exact hb
 |x::l,l0,ts,h,R,hp,hs,hpw,hi,hn,hb=>by
   have hx:x∈l0:=hp.subset (by simp);obtain⟨a,c,rfl⟩:=qT hx;have hp':l.Perm (a++c):=(List.perm_cons x).1 (hp.trans List.perm_middle);rw[bS,bO]at hb;rw[zB]at hpw;obtain⟨pw1,pw2,pw3⟩:=hpw;rw[dh]at pw2;have hb:=BS.bubble (hs x hx).1 (a.map g) (cs:=[]) (λy hy=>by
    obtain⟨i,hia,rfl⟩:=bp.1 hy;have h3:=pw3 i hia x (by simp);refine⟨hs i (by simp[hia]),hi i x ?_ ?_,h3.2⟩
    .have:[i].Sublist a:=jD.2 hia;have h2:[x].Sublist (x::c):=jD.2 (by simp);exact this.append h2
    .have:i∈l:=hp'.symm.subset (by simp[hia]);exact List.Sublist.cons_cons x (jD.2 this)) (by
    rw[eN];exact pw1.imp λq=>q.1) (λc hc=>by cases hc) (hn x hx) hb
   rw[bO];obtain⟨S,hS,hb⟩:=BS.unstep hb;have hS2:=hS.keepsAll ((a++c).filterMap λi=>(g i).nm.map (b+·)) (λn hm=>by
    obtain⟨i,him,hi2⟩:=Dr.1 hm;rw[aG]at hi2;obtain⟨j,hj,rfl⟩:=hi2;rw[aZ]at him;refine⟨hn i (by simp only[aZ,aF];rcases him with q|q<;>simp[q]) j hj,λk hk e=>?_⟩;have hk':(g x).nm=some k:=hk;have hkj:k=j:=om;subst hkj;rcases him with q|q
    .exact(pw3 i q x (by simp)).2 k hk' hj
    .exact(pw2.1 i q).2 k hj hk')
   refine BS.step hS2 λv h1 hv=>BS.perm l (a++c) hp' (λi hm=>hs i (by simp only[aZ,aF]at hm |-;rcases hm with q|q<;>simp[q])) ?_ (λy z h1 h2=>hi y z (h1.trans ?_) (h2.trans (List.sublist_cons_self x l))) ?_ ?_
   .rw[zB];exact⟨pw1,pw2.2,λi hi j hj=>pw3 i hi j (by simp[hj])⟩
   .exact(List.Sublist.refl a).append (List.sublist_cons_self x c)
   .intro i hm j hj;exact hv.2 (b+j) (Dr.2 ⟨i,hm,by rw[hj];rfl⟩)
   .rw[bS];exact hb v h1 hv.1
def pu{n:Nat}{es:List (List Nat)}{l:List Nat}(hl:Lin n es l):∀(rest acc:List (List Nat)),(∃pre,es=pre++rest/\pre.length=acc.length) ->
 (∀i y,y∈acc.getD i []->∀p q,l=p++i::q->y∈p)->∀i y,y∈(Dm acc rest).getD i []->∀p q,l=p++i::q->y∈p
 |[],acc,_,ha,i,y,hy=>ha i y hy
 |e::r,acc,hpre,ha,i,y,hy=>by
   obtain⟨pre,he,hpl⟩:=hpre;refine pu hl r (acc++[wT [] (e++e.flatMap λk=>acc.getD k [])]) ⟨pre++[e],by simp[he],by simp[hpl]⟩ ?_ i y hy;intro i y hy p q hpq;rcases mI i acc.length with hi|hi|hi
   .rw[aA,bC hi,<-aA]at hy;exact ha i y hy p q hpq
   .subst hi;rw[aA,bw (ab _),dV]at hy;simp only[bD,cL]at hy;have hy:=(sI _ _ hy).resolve_left bA;simp only[aZ,cM]at hy;have hes:es.getD acc.length []=e:=by
     rw[he,aA,bw om,hpl];simp
    rcases hy with hy|⟨k,hk,hy⟩
    .exact hl.2.2 p _ q hpq y (by rw[hes];exact hy)
    .have hkp:k∈p:=hl.2.2 p _ q hpq k (by rw[hes];exact hk);obtain⟨p1,p2,rfl⟩:=qT hkp;have:=ha k y hy p1 (p2++acc.length::q) (by rw[hpq];simp);simp[this]
   .rw[aA,bJ (by simp;omega)]at hy;simp at hy
def yX(ops:List ROper)(k:Nat):Option (Nat×ROp×Option (Nat×Bool)) :=
 match ops[k]? with
 |some o=>o.dst.map λd=>(d,o.op,o.guard)
 |none=>none
instance :Inhabited ROper:=⟨⟨none,.bad,none,none,[]⟩⟩
def gK(ops:List ROper)(cl:List (List Nat))(i:Nat):ROper :=
 match ops[i]? with
 |some o=>match cl.getD i []with
   |[]=>o
   |c::r=>{ o with cs:=(c::r).filterMap (yX ops)}
 |none=>default
def zl(cl:List (List Nat))(iy ix:Nat)(y x:ROper):Bool :=
 (y.op.cls==0||x.op.cls==0||(y.op.cls==1&&(x.op.cls==1||x.op.cls==2)) ||
  (y.op.cls==2&&x.op.cls==2&&!x.op.isRg&&(match y.nm,x.nm with|some i,some j=>i != j|_,_=>false)) ||
  (y.op.cls==3&&y.nm.isNone&&x.op.cls==2&&!x.op.isRg&&x.nm.isSome) ||
  (y.op.cls==1&&x.op.cls==3&&y.dst.isSome&&(cl.getD ix []).contains iy)) &&
 (match y.dst with|some d=>!(x.looks.contains d)|none=>true)
def vQ(y x:ROper):Bool :=
 match x.dst with|some d=>!(y.looksK.contains d)&&(match y.dst with|some e=>d != e|none=>true)|none=>true
def zr(y x:ROper):Bool :=
 (y.op.cls != 1||(match x.dst with|some d=>!(y.looks.contains d)&&(match y.dst with|some e=>d != e|none=>true)|none=>true)) &&
 (match x.nm,y.nm with|some i,some j=>i != j|_,_=>true)
def Hs(y:ROper):Bool:=(y.op.cls==3||y.cs.isEmpty)&&(match y.dst with|some d=>!(y.looks.contains d)|none=>true)
def kM(ops:List ROper)(cl bef:List (List Nat)):List Nat->Bool
 |[]=>true
 |y::l=>Hs (gK ops cl y)&&(l.all λx=>zr (gK ops cl y) (gK ops cl x)&&((bef.getD x []).contains y||(vQ (gK ops cl y) (gK ops cl x)&&zl cl y x (gK ops cl y) (gK ops cl x))))&&kM ops cl bef l
def okK(kn:Nat)(ops:List ROper)(cl es:List (List Nat))(l0:List Nat):Bool :=
 yx l0&&(List.range ops.length).all (l0.contains ·)&&l0.all (·<ops.length)&&yg 0 es &&
 ops.all (λo=>o.cs.isEmpty&&match o.nm with|some j=>decide (j<kn)|none=>true)&&kM ops cl (Dm [] es) l0
def Jf(h:ops[i]?=some o)(hc:o.cs=[]):(gK ops cl i).strip=o:=by
 unfold gK;rw[h];simp only;split
 .obtain⟨d,op,g,nm,cs⟩:=o;simp only at hc;subst hc;rfl
 .obtain⟨d,op,g,nm,cs⟩:=o;simp only at hc;subst hc;rfl
def vj(h:ops[i]?=some o)(hc:o.cs=[]):(gK ops cl i).dst=o.dst/\(gK ops cl i).op=o.op/\(gK ops cl i).guard=o.guard/\(gK ops cl i).nm=o.nm/\(gK ops cl i).cs=(cl.getD i []).filterMap (yX ops):=by
 unfold gK;rw[h];simp only;split
 .rename_i e
  rw[e];exact⟨rfl,rfl,rfl,rfl,hc⟩
 .rename_i e
  rw[e];exact⟨rfl,rfl,rfl,rfl,rfl⟩
def BF(h:vQ y x=true):Nh y x:=by
 unfold vQ at h;intro d hd;rw[hd]at h;simp only[aU,dZ,fy,ce]at h;refine⟨h.1,λe=>?_⟩;rw[e]at h;simp at h
def zq(h:zr y x=true):zF y x/\∀j,x.nm=some j->y.nm≠some j:=by
 unfold zr at h;rw[aU]at h;refine⟨λhc d hd=>?_,λj hj e=>?_⟩
 .rw[hd,hc]at h;simp only[bne_self_eq_false,BN,aU,dZ,fy,ce]at h;refine⟨h.1.1,λe=>?_⟩;rw[e]at h;simp at h
 .rw[hj,e]at h;simp at h
def Ca(h:Hs y=true):Kf y:=by
 unfold Hs at h;rw[aU,dm]at h;refine⟨λhc=>?_,λd hd=>?_⟩
 .rcases h.1 with q|q
  .simp at q;omega
  .exact tX.1 q
 .rw[hd]at h;simpa using h.2
def qd{ops:List ROper}{cl bef:List (List Nat)}:∀{l0:List Nat},kM ops cl bef l0=true->∀i∈l0,Kf (gK ops cl i)
 |[],_,i,hi=>by cases hi
 |z::l,hk,i,hi=>by
   simp only[kM,aU]at hk;rw[aF]at hi;rcases hi with rfl|hi
   .exact Ca hk.1.1
   .exact qd hk.2 i hi
def tz{ops:List ROper}{cl bef:List (List Nat)}:∀{l0:List Nat},kM ops cl bef l0=true->l0.Pairwise λy x=>zF (gK ops cl y) (gK ops cl x)/\∀j,(gK ops cl x).nm=some j->(gK ops cl y).nm≠some j
 |[],_=>List.Pairwise.nil
 |z::l,hk=>by
   simp only[kM,aU,bK]at hk;exact dh.2 ⟨λx hx=>zq (hk.1.2 x hx).1,tz hk.2⟩
def rJ{ops:List ROper}{cl bef:List (List Nat)}:∀{l0:List Nat},kM ops cl bef l0=true->∀y x,[y,x].Sublist l0->y∈bef.getD x []\/(vQ (gK ops cl y) (gK ops cl x)=true/\zl cl y x (gK ops cl y) (gK ops cl x)=true)
 |[],_,y,x,hs=>by simp at hs
 |z::l,hk,y,x,hs=>by
   simp only[kM,aU,bK]at hk;cases hs with
   |cons _ hs=>exact rJ hk.2 y x hs
   |cons_cons _ hs =>
     have hx:x∈l:=jD.1 hs;have:=(hk.1.2 x hx).2;simp only[dm,aU,fy,aK]at this;exact this
def BD{iy ix:Nat}(hy:ops[iy]?=some y)(hyc:y.cs=[])(hx:ops[ix]?=some x)(hxc:x.cs=[])(ha:vQ (gK ops cl iy) (gK ops cl ix)=true)(h:zl cl iy ix (gK ops cl iy) (gK ops cl ix)=true):Apart (gK ops cl iy) (gK ops cl ix):=by
 obtain⟨y1,y2,y3,y4,y5⟩:=vj (cl:=cl) hy hyc;obtain⟨x1,x2,x3,x4,x5⟩:=vj (cl:=cl) hx hxc;unfold zl at h;simp only[aU,dm,beq_iff_eq,dZ,fy,aK]at h;refine⟨?_,BF ha,λd hd=>?_⟩
 .rcases h.1 with((((q|q)|q)|q)|q)|q
  .exact .inl q
  .exact .inr (.inl q)
  .exact .inr (.inr (.inl q))
  .refine .inr (.inr (.inr (.inl ⟨q.1.1.1,q.1.1.2,q.1.2,?_⟩)));have q4:=q.2;cases hi:(gK ops cl iy).nm with
   |none=>rw[hi]at q4;cases q4
   |some i =>
     cases hj:(gK ops cl ix).nm with
     |none=>rw[hi,hj]at q4;cases q4
     |some j=>rw[hi,hj]at q4;exact⟨i,j,rfl,rfl,by simpa using q4⟩
  .refine .inr (.inr (.inr (.inr (.inl ⟨q.1.1.1.1,by simpa using q.1.1.1.2,q.1.1.2,q.1.2,Option.isSome_iff_exists.1 q.2⟩))))
  .obtain⟨d,hd⟩:=Option.isSome_iff_exists.1 q.1.2;refine .inr (.inr (.inr (.inr (.inr ⟨q.1.1.1,q.1.1.2,d,hd,?_⟩))));rw[x5];refine Dr.2 ⟨iy,q.2,?_⟩;unfold yX;rw[hy];simp only;rw[y1]at hd;rw[hd,y2,y3];rfl
 .have:=h.2;rw[hd]at this;simpa using this
def uN:∀{l:List Nat},yx l=true->l.Nodup
 |[],_=>fk
 |x::l,h=>by
   simp only[yx,aU,dZ,fy,ce]at h;exact cn.2 ⟨h.1,uN h.2⟩
def zN{x y:Nat}{q:List Nat}:∀(p:List Nat),x∉p->[x,y].Sublist (p++x::q)->[x,y].Sublist (x::q)
 |[],_,h=>h
 |z::p,hxp,h=>by
   simp only[aF,not_or]at hxp;rw[bX]at h;cases h with
   |cons _ hs=>exact zN p hxp.2 hs
   |cons_cons _ hs=>exact absurd rfl hxp.1
def vP:∀(es:List (List Nat)) (n:Nat),yg n es=true->∀i j:Nat,j∈es.getD i []->j<n+i
 |[],n,_,i,j,hj=>by simp at hj
 |e::r,n,h,0,j,hj=>by
   simp only[yg,aU,bK,aK]at h;simpa using h.1 j (by simpa using hj)
 |e::r,n,h,i+1,j,hj=>by
   simp only[yg,aU]at h;have:=vP r (n+1) h.2 i j (by simpa using hj);omega
def FB(h:yg 0 es=true):Lin n es (List.range n):=by
 refine⟨oq,λi=>by simp,λa i b hab j hj=>?_⟩;have hlt:=vP es 0 h i j hj;have hl:a.length=i:=by
  have h1:(List.range n)[a.length]?=some i:=by rw[hab];simp
  rw[da]at h1
  .simpa using h1
  .have:=congrArg List.length hab;simp at this;omega
 have h2:a=List.range i:=by
  have:=congrArg (List.take i) hab;rw[List.take_range,List.take_append_of_le_length om,dx om]at this;have hn:i<=n:=by
   have:=congrArg List.length hab;simp at this;omega
  rw[cD hn]at this;exact this.symm
 rw[h2,aX];omega
def BS.draw{kn:Nat}{l0:List Nat}(hk:okK kn ops cl es l0=true)(hb:BS P (.ops h.next (l0.map (gK ops cl))) ts (h.keep kn) R):BS P (.code (.regD kn ops es)) ts h R:=by
 simp only[okK,aU,bK,aX,fy,aK]at hk;obtain⟨⟨⟨⟨⟨h1,h2⟩,h3⟩,h6⟩,h7⟩,h5⟩:=hk;have hn0:=uN h1;have hat:∀i,i<ops.length->∃o,ops[i]?=some o/\o.cs=[]/\∀j,o.nm=some j->j<kn:=by
  intro i hi;have:=h7 ops[i] (ar hi);refine⟨ops[i],aj hi,tX.1 this.1,λj hj=>?_⟩;have q:=this.2;rw[hj]at q;simpa using q
 refine .regD ⟨_,FB h6⟩ λl hl=>?_;have hlt:∀i∈l,i<ops.length:=λi hi=>(hl.2.1 i).1 hi;have e1:l.filterMap (ops[·]?)=l.map λi=>(gK ops cl i).strip:=by
  have:∀l:List Nat,(∀i∈l,i<ops.length)->l.filterMap (ops[·]?)=l.map λi=>(gK ops cl i).strip:=by
   intro l;induction l with
   |nil=>intro _;rfl
   |cons i l ih =>
     intro hl;obtain⟨o,ho,hoc,_⟩:=hat i (hl i (by simp));rw[td (b:=o) (by exact ho),bO,Jf ho hoc,ih λj hj=>hl j (by simp[hj])]
  exact this l hlt
 rw[e1];refine BS.perm l l0 ?_ (qd h5) (tz h5) (λy x hyx hxy=>?_) (λi hi j hj=>?_) hb
 .exact(kG hl.1 hn0).2 λi=>⟨λhi=>h2 i ((hl.2.1 i).1 hi),λhi=>(hl.2.1 i).2 (h3 i hi)⟩
 .rcases rJ h5 y x hyx with h|h
  .exfalso;have hx:x∈l:=hxy.subset (by simp);obtain⟨p,q,rfl⟩:=qT hx;have hy:=pu hl es [] ⟨[],rfl,rfl⟩ (λi y hy=>by simp at hy) x y h p q rfl;have hnd:=hl.1;have hyq:y∈q:=by
    have hxp:x∉p:=by
     intro hxp;have:=bQ.1 hnd;exact this.2.2 x hxp x (by simp) rfl
    have h6:[x,y].Sublist (x::q):=zN p hxp hxy;have hxq:x∉q:=by
     have:=(bQ.1 hnd).2.1;exact(cn.1 this).1
    cases h6 with
    |cons _ hs=>exact absurd (hs.subset (by simp)) hxq
    |cons_cons _ hs=>exact jD.1 hs
   exact(bQ.1 hnd).2.2 y hy y (by simp[hyq]) rfl
  .have hy:y∈l0:=hyx.subset (by simp);have hx:x∈l0:=hyx.subset (by simp);obtain⟨oy,q1,q2,_⟩:=hat y (h3 y hy);obtain⟨ox,q3,q4,_⟩:=hat x (h3 x hx);exact BD q1 q2 q3 q4 h.1 h.2
 .obtain⟨o,ho,hoc,hkn⟩:=hat i (h3 i hi);rw[(vj (cl:=cl) ho hoc).2.2.2.1]at hj;have:=hkn j hj;rw[AH.keep_get,if_pos om]
end
end Go.Am
