/- The clean machine's runs are the model's -/
import Derived.Test.YtklpoimdclflmaaGreatDoorTAmLay
import Derived.Orders
import Derived.CallsIn
import Derived.LoopNIn
import Derived.RangeFuncCalls
import Derived.RangeFuncRecord
set_option linter.all false
namespace Go.Am
open Go.RowKit
def xO{α:Type}{p q:α->Bool}:∀{l:List α},(∀x∈l,p x=true->q x=true)->(∃x∈l,q x=true/\p x=false)->l.countP p<l.countP q
 |[],_,h=>by obtain⟨x,hx,_⟩:=h;cases hx
 |y::l,h1,h2=>by
   have hle:l.countP p<=l.countP q:=List.countP_mono_left λx hx=>h1 x (by simp[hx]);obtain⟨x,hx,hq,hp⟩:=h2;simp only[aF]at hx;rcases hx with rfl|hx
   .rw[md (by simp[hp]),gr hq];omega
   .have:=xO (λx hx=>h1 x (by simp[hx])) ⟨x,hx,hq,hp⟩;by_cases hy:p y=true
    .rw[gr hy,gr (h1 y (by simp) hy)];omega
    .by_cases hy2:q y=true
     .rw[md hy,gr hy2];omega
     .rw[md hy,md hy2];omega
def rW:∀(es:List (List Nat)) (n:Nat),mm n es=true->∀i j:Nat,j∈es.getD i []->j<n+i
 |[],n,_,i,j,hj=>by simp at hj
 |e::r,n,h,0,j,hj=>by
   simp only[mm,aU,bK,aK]at h;simpa using h.1 j (by simpa using hj)
 |e::r,n,h,i+1,j,hj=>by
   simp only[mm,aU]at h;have:=rW r (n+1) h.2 i j (by simpa using hj);omega
section
variable {i:Nat}{listed:Array Bool}
variable {ops:Array Oper}
def xd{o:Oper}(ho:ops[i]?=some o){j:Nat}:j∈(ops.toList.map jR).getD i []↔∃e∈o.after,Region.binds .any e=true/\e.on=j:=by
 have h1:(ops.toList.map jR).getD i []=jR o:=by
  simp[aA,ho]
 rw[h1];simp only[jR,bp,bB,Array.mem_toList_iff];constructor
 .rintro⟨e,⟨h1,h2⟩,h3⟩;exact⟨e,h1,h2,h3⟩
 .rintro⟨e,h1,h2,h3⟩;exact⟨e,⟨h1,h2⟩,h3⟩
def Fz(h:i∈Region.ready .any ops listed):i<ops.size/\listed.getD i true=false/\∀j,j∈(ops.toList.map jR).getD i []->listed.getD j false=true:=by
 unfold Region.ready at h;rw[bB,aX]at h;obtain⟨h1,h2⟩:=h;rw[aU]at h2;obtain⟨h2,h3⟩:=h2;refine⟨h1,by simpa using h2,λj hj=>?_⟩;have ho:ops[i]?=some ops[i]:=eZ h1;rw[ho]at h3;simp only[aQ,cL,Array.all_eq_true']at h3;obtain⟨e,he,hb,rfl⟩:=(xd ho).1 hj;have:=h3 e he;simpa[hb]using this
def HE(h1:i<ops.size)(h2:listed.getD i true=false)(h3:∀j,j∈(ops.toList.map jR).getD i []->listed.getD j false=true):i∈Region.ready .any ops listed:=by
 unfold Region.ready;rw[bB,aX];refine⟨h1,?_⟩;have ho:ops[i]?=some ops[i]:=eZ h1;rw[ho,aU];refine⟨by simp[h2],?_⟩;simp only[aQ,cL,Array.all_eq_true'];intro e he;by_cases hb:Region.binds .any e=true
 .simp[hb,h3 e.on ((xd ho).2 ⟨e,he,hb,rfl⟩)]
 .simp[hb]
def un(ops:Array Oper)(listed:Array Bool):Nat:=(List.range ops.size).countP λi=>!listed.getD i true
def NH(hok:mm 0 (ops.toList.map jR)=true):∀(fuel t:Nat) (listed:Array Bool),listed.size=ops.size->un ops listed<=fuel ->
 (∀i,i∈Region.linearise.go .any ops fuel t listed []↔i<ops.size/\listed.getD i true=false)/\(Region.linearise.go .any ops fuel t listed []).Nodup /\
 ∀a i b,Region.linearise.go .any ops fuel t listed []=a++i::b->∀j,j∈(ops.toList.map jR).getD i []->listed.getD j false=true\/j∈a:=by
 intro fuel;induction fuel with
 |zero =>
   intro t listed hs hu;have hno:∀i,i<ops.size->¬listed.getD i true=false:=by
    intro i hi hl;have:0<un ops listed:=kV.2 ⟨i,by simpa using hi,by simp[hl]⟩;omega
   refine⟨λi=>?_,by simp[Region.linearise.go],λa i b h=>?_⟩
   .simp only[Region.linearise.go,Kh,bA,false_iff];exact λ⟨h1,h2⟩=>hno i h1 h2
   .simp[Region.linearise.go]at h
 |succ fuel ih =>
   intro t listed hs hu;simp only[Region.linearise.go]
   change (∀i,i∈(match (Region.ready .any ops listed)[t%(Region.ready .any ops listed).length]? with
    |some i=>Region.linearise.go .any ops fuel (t/(Region.ready .any ops listed).length) (listed.setIfInBounds i true) [i]
    |none=>[].reverse)↔_)/\(match (Region.ready .any ops listed)[t%(Region.ready .any ops listed).length]? with
    |some i=>Region.linearise.go .any ops fuel (t/(Region.ready .any ops listed).length) (listed.setIfInBounds i true) [i]
    |none=>[].reverse).Nodup/\∀a i b,(match (Region.ready .any ops listed)[t%(Region.ready .any ops listed).length]? with
    |some i=>Region.linearise.go .any ops fuel (t/(Region.ready .any ops listed).length) (listed.setIfInBounds i true) [i]
    |none=>[].reverse)=_->_
   cases hi:(Region.ready .any ops listed)[t%(Region.ready .any ops listed).length]? with
   |none =>
     have hnil:Region.ready .any ops listed=[]:=by
      cases hr:Region.ready .any ops listed with
      |nil=>rfl
      |cons x xs =>
        rw[hr]at hi;have hlt:t%(x::xs).length<(x::xs).length:=NU _ (by simp);simp at hi;simp at hlt;omega
     have hno:∀i,i<ops.size->¬listed.getD i true=false:=by
      intro i;induction i using Nat.strongRecOn with
      |_ i ihi =>
        intro h1 h2;have:i∈Region.ready .any ops listed:=HE h1 h2 λj hj=>by
         have hlt:=rW _ 0 hok i j hj;have hj2:=ihi j om om;rw[dU]at hj2 |-;cases hq:listed[j]? with
         |none=>rw[Array.getElem?_eq_none_iff]at hq;omega
         |some b=>cases b<;>simp_all
        rw[hnil]at this;cases this
     refine⟨λi=>?_,by simp,λa i b h=>?_⟩
     .simp only[Kh,bA,false_iff];exact λ⟨h1,h2⟩=>hno i h1 h2
     .simp at h
   |some x =>
     simp only[];rw[linearise_go_acc,List.reverse_singleton,List.singleton_append];obtain⟨x1,x2,x3⟩:=Fz (eP hi);have hset:∀(j:Nat) (d:Bool),(listed.setIfInBounds x true).getD j d=if x=j then true else listed.getD j d:=by
      intro j d;rw[dU,fw,dU];by_cases e:x=j
      .subst e;simp[hs,x1]
      .simp[e]
     have hun:un ops (listed.setIfInBounds x true)<=fuel:=by
      have:un ops (listed.setIfInBounds x true)<un ops listed:=by
       refine xO ?_ ⟨x,by simpa using x1,by simp[x2],by simp[hset]⟩;intro y _ hy;rw[hset]at hy;by_cases e:x=y
       .simp[e]at hy
       .simpa[e]using hy
      omega
     obtain⟨i1,i2,i3⟩:=ih (t/(Region.ready .any ops listed).length) (listed.setIfInBounds x true) (by simpa using hs) hun;refine⟨λi=>?_,?_,λa i b h j hj=>?_⟩
     .rw[aF,i1,hset];by_cases e:x=i
      .subst e;simp[x1,x2]
      .have e':¬i=x:=λq=>e q.symm;simp[e,e']
     .rw[cn];refine⟨λhm=>?_,i2⟩;rw[i1,hset]at hm;simp at hm
     .cases a with
      |nil =>
        simp only[cr,cy]at h;obtain⟨rfl,_⟩:=h;exact .inl (x3 j hj)
      |cons y a =>
        simp only[bX,cy]at h;obtain⟨rfl,h⟩:=h;rcases i3 a i b h j hj with h1|h1
        .rw[hset]at h1;by_cases e:x=j
         .subst e;exact .inr (by simp)
         .simp only[e,if_false]at h1;exact .inl h1
        .exact .inr (by simp[h1])
def wh(hok:mm 0 (ops.toList.map jR)=true)(t:Nat):Lin ops.size (ops.toList.map jR) (Region.linearise .any ops t):=by
 have hrep:∀(i:Nat) (d:Bool),i<ops.size->(Array.replicate ops.size false).getD i d=false:=by
  intro i d hi;simp[hi]
 obtain⟨h1,h2,h3⟩:=NH hok ops.size t (Array.replicate ops.size false) (by simp) (by
  unfold un;have:=ni (p:=λi=>!(Array.replicate ops.size false).getD i true) (l:=List.range ops.size);simpa using this)
 refine⟨h2,λi=>?_,λa i b h j hj=>?_⟩
 .show i∈Region.linearise.go .any ops ops.size t (Array.replicate ops.size false) []↔_;rw[h1];exact⟨λh=>h.1,λh=>⟨h,hrep i true h⟩⟩
 .rcases h3 a i b h j hj with q|q
  .exfalso;rw[dU]at q;by_cases hj2:j<ops.size
   .simp[hj2]at q
   .simp[hj2]at q
  .exact q
end
variable {Q:Exit->Act->World->Prop}{R R':Out->Prop}{a b:Act}{args:Array Value}{f:FuncId}{n:Nat}{o oo:Oper}{ro:Option Nat}{ts:Tm}{v':Value}{w:World}{σ τ:Sg}
def Fw(ro:Option Nat):Fence:={ Fence.wide with round:=ro}
def ROper.like(o o':ROper):Prop:=o.op=o'.op/\o.guard=o'.guard/\o.dst=o'.dst
def CL(P:Program)(nt:Nat)(ops:Array Oper):List Nat->List ROper->Prop
 |[],[]=>True
 |i::is,o::os=>(∃oo o',ops[i]?=some oo/\xW P nt ops.toList oo=some o'/\o'.like o)/\CL P nt ops is os
 |_,_=>False
def Out.ex:Out->Option (Exit×Tm×AH)
 |.norm ts h=>some (.normal,ts,h)
 |.exit id ts h=>some (.exit id,ts,h)
 |.ret ts h=>some (.ret,ts,h)
 |.val _ _=>none
def xg(k:Nat):Deferred:={ target:=.collected k,args:=#[]}
def Lands(K:Bs)(σ:Sg)(a:Act)(nt:Nat)(R:Out->Prop)(Q:Exit->Act->World->Prop):Prop :=
 ∀o e ts' h',R o->o.ex=some (e,ts',h')->∀σ' a' w' ds,σ.le σ'->Rep (K.dd ds) σ' h' w'->TR σ' ts' a'.tmps->nt<=a'.tmps.size->(∀k∈ds,K.B<=k)->a'.defers=ds.map xg++a.defers->Q e a' w'
def Loc(P:Program)(fn:FuncId)(nt:Nat)(q:List Bool)(cc:Code):Prop :=
 ∃func c0,P.funcs[fn]?=some func/\func.body=some c0/\nt=func.ntmps/\cG c0 q.reverse=some cc
def oh(P:Program)(l:List ROper)(ts:Tm)(h:AH)(R:Out->Prop):Prop :=
 ∀(K:Bs) (σ:Sg) (w:World) (a:Act) (nt:Nat) (ops:Array Oper) (idx:List Nat) (ro:Option Nat),K.P=P->CL P nt ops idx l->Rep K σ h w->TR σ ts a.tmps->nt<=a.tmps.size ->
   ∀Q,Lands K σ a nt R Q->wpOpsIn (Fw ro) 0 P ops Q idx a w
def sf(P:Program)(c:RC)(ts:Tm)(h:AH)(R:Out->Prop):Prop :=
 ∀(K:Bs) (σ:Sg) (w:World) (a:Act) (nt:Nat) (cc:Code) (ro:Option Nat) (fn:FuncId) (q:List Bool),K.P=P->eL P fn nt q cc=some c->(c.flatR=true\/(ro=none/\Loc P fn nt q cc))->Rep K σ h w->TR σ ts a.tmps->nt<=a.tmps.size ->
   ∀Q,Lands K σ a nt R Q->cc.wpIn (Fw ro) 0 P Q a w
def RoundsX(F:Fence)(n:Nat)(P:Program)(c:Code)(Q:Exit->Act->World->Prop)(a:Act)(w:World):Prop :=
 ∀(b:Frame) (k:List Item) (cs:List Frame),b.roundOf=F.round->F.fn b.fn->F.room (cs.length+1+n) ->
   ∃e a' w',Q e a' w'/\ArrivesIn (Machine.fenced P F) P (lone (b.atR a (.code c::.inLoop c::k)) cs w) b k cs e a' w'
def RoundsX.loop{F:Fence}{n:Nat}{P:Program}{c:Code}{Q:Exit->Act->World->Prop}{a:Act}{w:World}(h:RoundsX F n P c Q a w):(Code.loop c).wpIn F n P Q a w:=by
 intro b k cs hro hb hr;obtain⟨e,a',w',hq,harr⟩:=h b k cs hro hb hr;exact⟨e,a',w',hq,.of_steps (.one (fenced_calm hb hr rfl) stepR_loop) harr⟩
def RoundsX.step{F:Fence}{P:Program}{c:Code}(h:c.wpIn F n P (Exit.then (RoundsX F n P c Q) Q) a w):RoundsX F n P c Q a w:=by
 intro b k cs hro hb hr;obtain⟨e,a₁,w₁,hq,harr⟩:=h b (.inLoop c::k) cs hro hb hr;cases e with
 |normal =>
   obtain⟨e₂,a₂,w₂,hq₂,harr₂⟩:=hq b k cs hro hb hr;exact⟨e₂,a₂,w₂,hq₂,.of_steps (StepsIn.trans harr (.one (fenced_calm hb hr rfl) stepR_inLoop)) harr₂⟩
 |exit id=>exact⟨_,a₁,w₁,hq,.pass (x:=.inLoop c) rfl (λ_ _=>.inl (by simp)) harr⟩
 |goto l=>exact⟨_,a₁,w₁,hq,.pass (x:=.inLoop c) rfl (λ_ _=>.inl (by simp)) harr⟩
 |ret=>exact⟨_,a₁,w₁,hq,.pass (x:=.inLoop c) rfl (λ_ _=>.inl (by simp)) harr⟩
 |panic ch=>exact⟨_,a₁,w₁,hq,.pass (x:=.inLoop c) rfl (λ_ _=>.inl (by simp)) harr⟩
 |outgrown=>exact⟨_,a₁,w₁,hq,.pass (x:=.inLoop c) rfl (λ_ _=>.inl (by simp)) harr⟩
def Eu(P:Program)(c:RC)(ts:Tm)(h:AH)(R:Out->Prop):Prop :=
 ∀(b:RC),c=.loop b->∀(K:Bs) (σ:Sg) (w:World) (a:Act) (nt:Nat) (cc:Code) (ro:Option Nat) (fn:FuncId) (q:List Bool),K.P=P->eL P fn nt q cc=some b->(b.flatR=true\/(ro=none/\Loc P fn nt q cc))->Rep K σ h w->TR σ ts a.tmps->nt<=a.tmps.size ->
   ∀Q,Lands K σ a nt R Q->RoundsX (Fw ro) 0 P cc Q a w
def Ev(K:Bs)(σ:Sg)(R:Out->Prop)(e:Ending)(w':World):Prop :=
 ∃v h' v' σ',R (.val v h')/\e=.returned v'/\σ.le σ'/\VR σ' v v'/\Rep K σ' h' w'
def lu(P:Program)(f:FuncId)(args:List AV)(h:AH)(R:Out->Prop):Prop :=
 ∀(K:Bs) (σ:Sg) (w:World) (args':Array Value),K.P=P->Rep K σ h w->GL σ->VRs σ args args'.toList->CallsIn (Fw none) 0 P f args' w (Ev K σ R)
def vS(P:Program)(b:Nat)(args:List AV)(h:AH)(R:Out->Prop):Prop :=
 ∀(K:Bs) (σ:Sg) (w:World) (args':Array Value) (i:Pl) (L:Loop) (ro:Option Nat),K.P=P->Rep K σ h w->VRs σ args args'.toList->σ b=some i->w.heap[i.blk]?=some (.loop L) ->
   RoundIn (Fw ro) 0 P i.blk L.fn ((L.params.zip args').foldl (λtmps (t,a)=>tmps.setIfInBounds t a) L.tmps) L.assign L.body w (Ev K σ R)
def Snd(P:Program):Task->Tm->AH->(Out->Prop)->Prop
 |.ops _ l,ts,h,R=>oh P l ts h R
 |.code c,ts,h,R=>sf P c ts h R/\Eu P c ts h R
 |.call f args,_,h,R=>lu P f args h R
 |.round b args,_,h,R=>vS P b args h R
def Bs.dd_dd(K:Bs)(a b:List Nat):(K.dd a).dd b=K.dd (b++a):=by simp[Bs.dd]
def Lands.mono{K:Bs}{nt:Nat}(h:Lands K σ a nt R Q)(hl:σ.le τ)(hd:b.defers=a.defers)(hR:∀o,R' o->R o):Lands K τ b nt R' Q :=
 λo e ts' h' ho he σ' a' w' ds h1 h2 h3 h4 h5 h6=>h o e ts' h' (hR o ho) he σ' a' w' ds (Sg.le_trans hl h1) h2 h3 h4 h5 (h6.trans (by rw[hd]))
def Lands.later{K:Bs}{nt:Nat}{ds:List Nat}(h:Lands K σ a nt R Q)(hl:σ.le τ)(hB:∀k∈ds,K.B<=k)(hd:b.defers=ds.map xg++a.defers)(hR:∀o,R' o->R o):Lands (K.dd ds) τ b nt R' Q :=
 λo e ts' h' ho he σ' a' w' ds' h1 h2 h3 h4 h5 h6=>h o e ts' h' (hR o ho) he σ' a' w' (ds'++ds) (Sg.le_trans hl h1) (by rw[<-Bs.dd_dd];exact h2) h3 h4
  (λk hk=>by rw[aZ]at hk;exact hk.elim (h5 k) (hB k)) (by rw[h6,hd];simp)
def mw{ops:Array Oper}{nt:Nat}(ht:TR σ ts a.tmps)(hn:nt<=a.tmps.size){g:Option (Nat×Bool)}(hg:ta nt ops.toList o.guard=some g){b:Bool}(hw:wanted ts g=some b) :
 Region.wanted o (yielded ops a.tmps)=b:=by
 unfold Region.wanted;cases hog:o.guard with
 |none =>
   rw[hog]at hg;simp only[ta,aa]at hg;subst hg;simp only[wanted,aa]at hw;exact hw
 |some p =>
   obtain⟨j,c⟩:=p;rw[hog]at hg;simp only[ta,eJ]at hg;split at hg
   .rename_i o' ho'
    split at hg
    .rename_i d hd
     split at hg
     .rename_i hdn
      simp only[aa]at hg;subst hg;simp only[wanted]at hw;split at hw
      .rename_i c' hc'
       simp only[aa]at hw;subst hw;have hbd:d<a.tmps.size:=du hdn hn;have:=ht.1 d;rw[hc']at this;simp only[VR]at this;have h2:a.tmps[d]?=some (.bool c'):=by
        rw[dU]at this;rw[eZ hbd]at this |-;simpa using this
       simp only[yielded,ho',hd,tV,h2];rfl
      .rename_i hc'
       simp only[aa]at hw;subst hw;have hbd:d<a.tmps.size:=du hdn hn;have:=ht.1 d;rw[hc']at this;simp only[VR]at this;obtain⟨vs,h3,h4⟩:=this;cases vs with
       |cons _ _=>simp[VRs]at h4
       |nil =>
         have h2:a.tmps[d]?=some (.tuple #[]):=by
          rw[dU]at h3;rw[eZ hbd]at h3 |-;simpa using h3
         simp only[yielded,ho',hd,tV,h2];rfl
      .cases hw
     .cases hg
    .cases hg
   .cases hg
def yt{nt:Nat}(ht:TR σ ts a.tmps)(hn:nt<=a.tmps.size){d:Option Nat}(hd:∀n,d=some n->n<nt){v:AV}(hv:VR σ v v') :
 TR σ (dH ts d v) (a.put d v').tmps/\nt<=(a.put d v').tmps.size/\(a.put d v').defers=a.defers:=by
 cases d with
 |none=>exact⟨ht,hn,rfl⟩
 |some n =>
   have:=hd n rfl;exact⟨ht.put om hv,by simp[Act.put];exact hn,rfl⟩
def De{P:Program}{nt:Nat}{ops:List Oper}{o:ROper}(h:xW P nt ops oo=some o):(o.op≠.bad->cOp P oo.op=some o.op)/\ta nt ops oo.guard=some o.guard/\oo.dst=o.dst/\∀n,o.dst=some n->n<nt:=by
 have key:∀{x:Option ROp},x.getD .bad≠.bad->x=some (x.getD .bad):=by
  intro x hx;cases x with
  |none=>exact absurd rfl hx
  |some y=>rfl
 unfold xW at h;split at h
 .rename_i g h2 h3
  simp only[aa]at h;subst h;exact⟨key,h2,h3,λn hn=>by cases hn⟩
 .rename_i g d h2 h3
  split at h
  .rename_i hd
   simp only[aa]at h;subst h;exact⟨key,h2,h3,λn hn=>by simp only[aa]at hn;subst hn;exact hd⟩
  .cases h
 .cases h
def nU{P:Program}{nt:Nat}{ops:List Oper}{o' o:ROper}(h:xW P nt ops oo=some o')(hl:o'.like o):(o.op≠.bad->cOp P oo.op=some o.op)/\ta nt ops oo.guard=some o.guard/\oo.dst=o.dst/\∀n,o.dst=some n->n<nt:=by
 obtain⟨l1,l2,l3⟩:=hl;rw[<-l1,<-l2,<-l3];exact De h
def sG{P:Program}{op:Op}{r:ROp}(h:cOp P op=some r):∀c,op≠.defer c:=by
 rintro c rfl;simp[cOp]at h
def vY{P:Program}{K:Act->World->Prop}{nx:Next}{w':World}(hfin:nx=.value v'\/(nx=.skip/\v'=undef))(h:K (a.put o.dst v') w') :
 o.uponIn (Fw ro) 0 P a K Q (.ok nx w'):=by
 rcases hfin with rfl|⟨rfl,rfl⟩
 .exact h
 .exact h
def CallsIn.inAny{P:Program}{R:Ending->World->Prop}(ro:Option Nat)(h:CallsIn (Fw none) n P f args w R):CallsIn (Fw ro) n P f args w R:=h
def FW{P:Program}{c:Call}(ho:o.op=.call c){caps:Array Value}{callee:Operand}(hc:c.callee=.value callee)(hv:a.eval callee=.func (.func f) #[] caps){fn:Func}(hf:P.funcs[f]?=some fn)(hb:fn.body.isSome=true)(hn:fn.name≠ "runtime.NumGoroutine")
 (ha:c.args.map a.eval=args) (w:World):(execOp a.eval o).run P w=.ok (.enter f (args++caps)) w:=by
 have hb':¬fn.body=none:=by cases h:fn.body<;>simp_all
 obtain⟨cc,cargs,cats⟩:=c;simp only at hc ha;subst hc ha;simp[execOp,ho,resolve,hv,Deferred.ofValue,invoke,callFunc,hf,hn,hb']
def nW{P:Program}{rf:RF}(h:bZ P f=some rf):∃fn c,P.funcs[f]?=some fn/\fn.body=some c/\fn.name≠ "runtime.NumGoroutine"/\eL P f fn.ntmps [] c=some rf.body/\vM P fn.results.toList=some rf.results:=by
 unfold bZ at h;cases hf:P.funcs[f]? with
 |none=>simp[hf]at h
 |some fn =>
   simp only[hf,tV,cFn]at h;cases hb:fn.body with
   |none=>simp[hb]at h
   |some c =>
     simp only[hb]at h;split at h
     .cases h
     .rename_i hn
      split at h
      .rename_i b rs h1 h2
       simp only[aa]at h;subst h;exact⟨fn,c,rfl,hb,hn,h1,h2⟩
      .cases h
def GJ{P:Program}{ops:Array Oper}{i:Nat}{is:List Nat}(ho:ops[i]?=some oo)(hw:Region.wanted oo (yielded ops a.tmps)=true)(hnd:∀c,oo.op≠.defer c)
 (h:oo.uponIn (Fw ro) 0 P a (wpOpsIn (Fw ro) 0 P ops Q is) Q ((execOp a.eval oo).run P w)):wpOpsIn (Fw ro) 0 P ops Q (i::is) a w:=by
 simp only[wpOpsIn,ho,hw,if_true,Oper.wpIn];refine⟨λ_ _=>trivial,?_⟩;rw[Oper.semAt_eq _ _ _ hnd];exact h
section
variable {R S:Out->Prop}{args:List AV}{f:FuncId}{h:AH}{l:List ROper}{op:Op}{ro:ROp}{ts:Tm}{x:RO}
variable {P:Program}{RPm:RP}
def zR{o:ROper}(hw:wanted ts o.guard=some false)(ih:oh P l (dH ts o.dst .un) h R):oh P (o::l) ts h R:=by
 intro K σ w a nt ops idx ro hK hcl r ht hn Q hQ;cases idx with
 |nil=>exact hcl.elim
 |cons i is =>
   obtain⟨⟨oo,o',ho,hc,hlk⟩,hcl⟩:=hcl;obtain⟨c1,c2,c3,c4⟩:=nU hc hlk;have hwt:=mw ht hn c2 hw;simp only[wpOpsIn,ho,hwt,bT,if_false];refine⟨λ_ _=>trivial,?_⟩;obtain⟨p1,p2,p3⟩:=yt ht hn c4 (VR.un (σ:=σ));rw[c3];exact ih K σ w _ nt ops is ro hK hcl r p1 p2 Q (hQ.mono (Sg.le_refl σ) p3 λ_ q=>q)
def ux{o:ROper}(hbad:o.op≠.bad)(hw:wanted ts o.guard=some true)
 (hy:∀(K:Bs) (σ:Sg) (w:World) (a:Act) (oo:Oper),K.P=P->TR σ ts a.tmps->cOp P oo.op=some o.op->Rep K σ h w->∃v h1,Yields P K σ (execOp a.eval oo) w v h1/\oh P l (dH ts o.dst v) h1 R):oh P (o::l) ts h R:=by
 intro K σ w a nt ops idx ro hK hcl r ht hn Q hQ;cases idx with
 |nil=>exact hcl.elim
 |cons i is =>
   obtain⟨⟨oo,o',ho,hc,hlk⟩,hcl⟩:=hcl;obtain⟨c1,c2,c3,c4⟩:=nU hc hlk;have c1:=c1 hbad;refine GJ ho (mw ht hn c2 hw) (sG c1) ?_;obtain⟨v,h1,⟨nx,v',w',σ',hrun,hfin,hle,hv,r'⟩,ih⟩:=hy K σ w a oo hK ht c1 r;rw[hrun];refine vY hfin ?_;obtain⟨p1,p2,p3⟩:=yt (ht.mono hle) hn c4 hv;rw[c3];exact ih K σ' w' _ nt ops is ro hK hcl r' p1 p2 Q (hQ.mono hle p3 λ_ q=>q)
def to{o:ROper}{caps:List AV}(hbad:o.op≠.bad)(hf:∃rf,bZ P f=some rf)(hw:wanted ts o.guard=some true)
 (hexec:∀(σ:Sg) (a:Act) (oo:Oper),TR σ ts a.tmps->cOp P oo.op=some o.op->∃c callee capsv,oo.op=.call c/\c.callee=.value callee/\a.eval callee=.func (.func f) #[] capsv/\VRs σ caps capsv.toList/\VRs σ args (c.args.map a.eval).toList)
 (hcall:lu P f (args++caps) h S) (ih:∀v h1,S (.val v h1)->oh P l (dH ts o.dst v) h1 R):oh P (o::l) ts h R:=by
 intro K σ w a nt ops idx ro hK hcl r ht hn Q hQ;cases idx with
 |nil=>exact hcl.elim
 |cons i is =>
   obtain⟨⟨oo,o',ho,hc,hlk⟩,hcl⟩:=hcl;obtain⟨c1,c2,c3,c4⟩:=nU hc hlk;have c1:=c1 hbad;refine GJ ho (mw ht hn c2 hw) (sG c1) ?_;obtain⟨c,callee,capsv,e1,e2,e3,e4,e5⟩:=hexec σ a oo ht c1;obtain⟨rf,hrf⟩:=hf;obtain⟨fn,cd,g1,g2,g3,g4,g5⟩:=nW hrf;rw[FW e1 e2 e3 g1 (by rw[g2];rfl) g3 rfl w];simp only[Oper.uponIn];refine⟨λq=>by simp[Fw,Fence.wide]at q,?_⟩;refine CallsIn.inAny ro ((hcall K σ w _ hK r ht.2 (by simpa using e5.append e4)).mono ?_);rintro e w' ⟨v,h1,v',σ',hS,rfl,hle,hv,r'⟩;obtain⟨p1,p2,p3⟩:=yt (ht.mono hle) hn c4 hv;simp only;rw[c3];exact ih v h1 hS K σ' w' _ nt ops is ro hK hcl r' p1 p2 Q (hQ.mono hle p3 λ_ q=>q)
def EI{o:ROper}{b:Nat}{fn:FuncId}{p:List Bool}{tl:Tm}{ps:List Nat}{st:LS}{pend:Option (Option Nat)}(hbad:o.op≠.bad)(hw:wanted ts o.guard=some true)
 (hexec:∀(σ:Sg) (a:Act) (oo:Oper),TR σ ts a.tmps->cOp P oo.op=some o.op->∃c callee i,oo.op=.call c/\c.callee=.value callee/\σ b=some i/\a.eval callee=.func (.yield i.blk) #[] #[]/\VRs σ args (c.args.map a.eval).toList)
 (hg:h.get b=some (.lp fn p tl ps st pend)) (hal:args.length=ps.length)
 (hcall:vS P b args h S) (ih:∀v h1,S (.val v h1)->oh P l (dH ts o.dst v) h1 R):oh P (o::l) ts h R:=by
 intro K σ w a nt ops idx ro hK hcl r ht hn Q hQ;cases idx with
 |nil=>exact hcl.elim
 |cons i is =>
   obtain⟨⟨oo,o',ho,hc,hlk⟩,hcl⟩:=hcl;obtain⟨c1,c2,c3,c4⟩:=nU hc hlk;have c1:=c1 hbad;refine GJ ho (mw ht hn c2 hw) (sG c1) ?_;obtain⟨c,callee,i,e1,e2,e3,e4,e5⟩:=hexec σ a oo ht c1;obtain⟨i',hi',L,func,c0,g,q1,q2,q3,q4,_⟩:=r.obj b _ hg rfl;rw[e3]at hi';simp only[aa]at hi';subst hi';have hsz:(c.args.map a.eval).size=L.params.size:=by
    have h1:=e5.length;have h2:L.params.toList.length=ps.length:=by rw[q3]
    simp only[bU]at h1 h2;omega
   have hrun:(execOp a.eval oo).run P w=.ok (.round i.blk L.fn ((L.params.zip (c.args.map a.eval)).foldl (λtmps (t,a)=>tmps.setIfInBounds t a) L.tmps) L.assign L.body) w:=by
    have:=run_yield (P:=P) (args:=c.args.map a.eval) q1 hsz;obtain⟨cc,cargs,cats⟩:=c;simp only at e2;subst e2;simp only[execOp,e1,resolve,e4,Deferred.ofValue,Sem.run_bind,Sem.run_pure,Result.andThen_ok,invoke,Array.empty_append];exact this
   rw[hrun];simp only[Oper.uponIn];refine⟨λq=>by simp[Fw,Fence.wide]at q,?_⟩;refine(hcall K σ w _ i L ro hK r e5 e3 q1).mono ?_;rintro e w' ⟨v,h1,v',σ',hS,rfl,hle,hv,r'⟩;obtain⟨p1,p2,p3⟩:=yt (ht.mono hle) hn c4 hv;simp only;rw[c3];exact ih v h1 hS K σ' w' _ nt ops is ro hK hcl r' p1 p2 Q (hQ.mono hle p3 λ_ q=>q)
def MA{e:TypeId}{s:RO}(h:Df P e s x=some ro):(∃n b,ro=.app n b s x)\/∃t,ro=.appB t s x:=by
 unfold Df at h
 repeat' (split at h)
 all_goals first|(simp only[aa]at h;subst h;first|exact .inl ⟨_,_,rfl⟩|exact .inr ⟨_,rfl⟩)|cases h
def Mw{q:Option TypeId}{as:List Operand}(h:wk q as=some ro):(∃x,ro=.mov x)\/∃t x,ro=.mkz t x:=by
 unfold wk at h;split at h
 .obtain⟨x,_,rfl⟩:=bG h;exact .inl ⟨x,rfl⟩
 .obtain⟨x,_,rfl⟩:=bG h;exact .inr ⟨_,x,rfl⟩
 .cases h
def nJ:ROp->Bool
 |.call _ _=>true
 |.callv _ _=>true
 |.nxM _=>true
 |_=>false
def sQ{r:ROp}(h:cOp P op=some r)(hr:nJ r=true) :
 (∃(c:Call) (f:FuncId) (args:List RO),op=.call c/\c.callee=.value (.func f)/\cOs c.args.toList=some args/\r=.call f args) \/
 (∃(c:Call) (t:Nat) (args:List RO),op=.call c/\c.callee=.value (.tmp t)/\cOs c.args.toList=some args/\r=.callv (.t t) args) \/
 (∃y x,op=.next y false/\cO y=some x/\r=.nxM x):=by
 cases op
 case call c =>
  obtain⟨callee,cargs,cats⟩:=c;cases callee with
  |value x =>
    cases x<;>simp only[cOp,reduceCtorEq]at h
    .obtain⟨rs,h1,rfl⟩:=bG h;exact .inr (.inl ⟨_,_,rs,rfl,rfl,h1,rfl⟩)
    .split at h
     .rcases Mw h with⟨x,rfl⟩|⟨t,x,rfl⟩<;>simp[nJ]at hr
     .obtain⟨rs,h1,rfl⟩:=bG h;exact .inl ⟨_,_,rs,rfl,rfl,h1,rfl⟩
  |invoke _ _=>simp[cOp]at h
  |builtin b =>
    exfalso;simp only[cOp]at h
    repeat' (split at h)
    all_goals first
     |(cases h;done)
     |(simp only[aa]at h;subst h;simp[nJ]at hr;done)
     |(obtain⟨_,_,rfl⟩:=bG h;simp[nJ]at hr;done)
     |(rcases MA h with⟨_,_,rfl⟩ | ⟨_,rfl⟩<;>simp[nJ]at hr;done)
 case next y s =>
  cases s with
  |true=>simp[cOp]at h
  |false =>
    simp only[cOp]at h;obtain⟨z,h1,rfl⟩:=bG h;exact .inr (.inr ⟨y,z,rfl,h1,rfl⟩)
 case makeFunc f _ _ =>
  exfalso;cases f<;>simp only[cOp,reduceCtorEq]at h;split at h
  .obtain⟨_,_,rfl⟩:=bG h;simp[nJ]at hr
  .cases h
 case makeMap _ x =>
  exfalso;cases x<;>simp only[cOp,reduceCtorEq]at h;split at h
  .simp only[aa]at h;subst h;simp[nJ]at hr
  .cases h
 all_goals
  exfalso;simp only[cOp,Gv]at h
  repeat' (split at h)
  all_goals first
   |(cases h;done)
   |(simp only[aa]at h;subst h;simp[nJ]at hr;done)
   |(obtain⟨_,_,rfl⟩:=bG h;simp[nJ]at hr;done)
def IL{args:List RO}(h:cOp P op=some (.call f args)):∃c:Call,op=.call c/\c.callee=.value (.func f)/\cOs c.args.toList=some args:=by
 rcases sQ h rfl with⟨c,f',as,h1,h2,h3,h4⟩|⟨c,t,as,h1,h2,h3,h4⟩|⟨y,x,h1,h2,h4⟩
 .simp only[ROp.call.injEq]at h4;obtain⟨rfl,rfl⟩:=h4;exact⟨c,h1,h2,h3⟩
 .simp at h4
 .simp at h4
def xp{args:List RO}(h:cOp P op=some (.callv x args)):∃(c:Call) (t:Nat),op=.call c/\c.callee=.value (.tmp t)/\x=.t t/\cOs c.args.toList=some args:=by
 rcases sQ h rfl with⟨c,f',as,h1,h2,h3,h4⟩|⟨c,t,as,h1,h2,h3,h4⟩|⟨y,x,h1,h2,h4⟩
 .simp at h4
 .simp only[ROp.callv.injEq]at h4;obtain⟨rfl,rfl⟩:=h4;exact⟨c,t,h1,h2,rfl,h3⟩
 .simp at h4
def IJ(h:cOp P op=some (.nxM x)):∃y,op=.next y false/\cO y=some x:=by
 rcases sQ h rfl with⟨c,f',as,h1,h2,h3,h4⟩|⟨c,t,as,h1,h2,h3,h4⟩|⟨y,z,h1,h2,h4⟩
 .simp at h4
 .simp at h4
 .simp only[ROp.nxM.injEq]at h4;subst h4;exact⟨y,h1,h2⟩
section
variable {K:Bs}{R S:Out->Prop}{a asg b body:RC}{args:List AV}{cc:Code}{f:FuncId}{h:AH}{id kn:Nat}{l:List ROper}{o:ROper}{p:List Bool}{ps:List Nat}{rf:RF}{ts:Tm}{v:AV}{w:World}{σ:Sg}
variable {nt:Nat}{fn:FuncId}{q:List Bool}
def IG(h:eL P fn nt q cc=some .skip):cc=.skip:=by
 cases cc<;>simp only[eL,reduceCtorEq,aG,and_false,exists_false,aa]at h<;>first|rfl|(repeat' (split at h))<;>simp at h
def LU(h:eL P fn nt q cc=some .ret):cc=.ret:=by
 cases cc<;>simp only[eL,reduceCtorEq,aG,and_false,exists_false,aa]at h<;>first|rfl|(repeat' (split at h))<;>simp at h
def IK(h:eL P fn nt q cc=some (.exit id)):cc=.exit id:=by
 cases cc<;>simp only[eL,reduceCtorEq,aG,and_false,exists_false,aa,RC.exit.injEq]at h<;>first|(subst h;rfl)|(repeat' (split at h))<;>simp at h
def DZ(h:eL P fn nt q cc=some (.seq a b)):∃x y,cc=.seq x y/\eL P fn nt (false::q) x=some a/\eL P fn nt (true::q) y=some b:=by
 cases cc<;>simp only[eL,reduceCtorEq,aG,and_false,exists_false,aa]at h
 case seq x y =>
  split at h
  .rename_i h1 h2
   simp only[aa,RC.seq.injEq]at h;obtain⟨rfl,rfl⟩:=h;exact⟨x,y,rfl,h1,h2⟩
  .cases h
 all_goals (exfalso;repeat' (split at h))<;>simp at h
def AQ{c:RO}(h:eL P fn nt q cc=some (.cond c a b)):∃z x y,cc=.cond z x y/\cO z=some c/\eL P fn nt (false::q) x=some a/\eL P fn nt (true::q) y=some b:=by
 cases cc<;>simp only[eL,reduceCtorEq,aG,and_false,exists_false,aa]at h
 case cond z x y =>
  split at h
  .rename_i h1 h2 h3
   simp only[aa,RC.cond.injEq]at h;obtain⟨rfl,rfl,rfl⟩:=h;exact⟨z,x,y,rfl,h1,h2,h3⟩
  .cases h
 all_goals (exfalso;repeat' (split at h))<;>simp at h
def xq(h:eL P fn nt q cc=some (.block id a)):∃x,cc=.block id x/\eL P fn nt (false::q) x=some a:=by
 cases cc<;>simp only[eL,reduceCtorEq,aG,and_false,exists_false,aa]at h
 case block i x =>
  obtain⟨y,h1,h2⟩:=h;simp only[RC.block.injEq]at h2;obtain⟨rfl,rfl⟩:=h2;exact⟨x,rfl,h1⟩
 all_goals (exfalso;repeat' (split at h))<;>simp at h
def AP(h:eL P fn nt q cc=some (.loop a)):∃x,cc=.loop x/\eL P fn nt (false::q) x=some a:=by
 cases cc<;>simp only[eL,reduceCtorEq,aG,and_false,exists_false,aa]at h
 case loop x =>
  obtain⟨y,h1,h2⟩:=h;simp only[RC.loop.injEq]at h2;obtain rfl:=h2;exact⟨x,rfl,h1⟩
 all_goals (exfalso;repeat' (split at h))<;>simp at h
def xl{f0:FuncId}{f:RO}(h:eL P fn nt q cc=some (.rangeF f0 p f ps a b)):∃g pa x y,cc=.rangeFunc g pa x y/\f0=fn/\p=q.reverse/\cO g=some f/\ps=pa.toList/\eL P fn nt (false::q) x=some a/\eL P fn nt (true::q) y=some b/\a.flatR=true/\b.flatR=true/\∀t∈ps,t<nt:=by
 cases cc<;>simp only[eL,reduceCtorEq,aG,and_false,exists_false,aa]at h
 case rangeFunc g pa x y =>
  split at h
  .rename_i h1 h2 h3
   split at h
   .rename_i hc
    simp only[aa,RC.rangeF.injEq]at h;obtain⟨rfl,rfl,rfl,rfl,rfl,rfl⟩:=h;simp only[aU,bK,aK]at hc;exact⟨g,pa,x,y,rfl,rfl,rfl,h1,rfl,h2,h3,hc.1.1,hc.1.2,hc.2⟩
   .cases h
  .cases h
 all_goals (exfalso;repeat' (split at h))<;>simp at h
def LV(h:eL P fn nt q cc=some (.reg l)):∃id ops,cc=.region id ops false/\nT P nt ops.toList ops.toList=some l:=by
 cases cc<;>simp only[eL,reduceCtorEq,aG,and_false,exists_false,aa]at h
 case region id ops d =>
  split at h
  .rename_i l' hl
   cases d with
   |true =>
     simp only[if_true]at h;split at h<;>simp at h
   |false =>
     simp only[bT,if_false,aa,RC.reg.injEq]at h;subst h;exact⟨id,ops,rfl,hl⟩
  .cases h
 all_goals (exfalso;repeat' (split at h))<;>simp at h
def IH(h:eL P fn nt q cc=some (.regK kn l)):False:=by
 cases cc<;>simp only[eL,reduceCtorEq,aG,and_false,exists_false,aa]at h
 all_goals (repeat' (split at h))<;>simp at h
def II{es:List (List Nat)}(h:eL P fn nt q cc=some (.regD kn l es)):∃id ops l',cc=.region id ops true/\nT P nt ops.toList ops.toList=some l'/\kn=(qM l').1/\l=(qM l').2/\es=ops.toList.map jR/\mm 0 (ops.toList.map jR)=true:=by
 cases cc<;>simp only[eL,reduceCtorEq,aG,and_false,exists_false,aa]at h
 case region id ops d =>
  split at h
  .rename_i l' hl
   cases d with
   |true =>
     simp only[if_true]at h;split at h
     .rename_i hk
      simp only[aa,RC.regD.injEq]at h;obtain⟨rfl,rfl,rfl⟩:=h;exact⟨id,ops,_,rfl,hl,rfl,rfl,rfl,hk⟩
     .cases h
   |false=>simp at h
  .cases h
 all_goals (exfalso;repeat' (split at h))<;>simp at h
def fH:∀(c:Code) (p r:List Bool),cG c (p++r)=(cG c p).bind λd=>cG d r
 |c,[],r=>by simp[cG]
 |.seq a b,false::p,r=>by simp only[bX,cG];exact fH a p r
 |.seq a b,true::p,r=>by simp only[bX,cG];exact fH b p r
 |.cond _ a b,false::p,r=>by simp only[bX,cG];exact fH a p r
 |.cond _ a b,true::p,r=>by simp only[bX,cG];exact fH b p r
 |.block _ c,false::p,r=>by simp only[bX,cG];exact fH c p r
 |.block _ c,true::p,r=>by simp[cG]
 |.loop c,false::p,r=>by simp only[bX,cG];exact fH c p r
 |.loop c,true::p,r=>by simp[cG]
 |.skip,_::p,r=>by simp[cG]
 |.region _ _ _,_::p,r=>by simp[cG]
 |.rangeFunc _ _ _ _,_::p,r=>by simp[cG]
 |.exit _,_::p,r=>by simp[cG]
 |.scope _,_::p,r=>by simp[cG]
 |.label _,_::p,r=>by simp[cG]
 |.goto _,_::p,r=>by simp[cG]
 |.ret,_::p,r=>by simp[cG]
 |.refuse _,_::p,r=>by simp[cG]
def Loc.sub{dd:Code}{b:Bool}(h:Loc P fn nt q cc)(hs:cG cc [b]=some dd):Loc P fn nt (b::q) dd:=by
 obtain⟨func,c0,h1,h2,h3,h4⟩:=h;refine⟨func,c0,h1,h2,h3,?_⟩;rw[List.reverse_cons,fH,h4];exact hs
def kh:∀(p:List Bool) {q:List Bool}{c:Code}{r:RC}{d:Code}{e:RC},eL P fn nt q c=some r->cG c p=some d->r.node p=some e->∃q',eL P fn nt q' d=some e
 |[],q,c,r,d,e,h,hd,he=>by
   simp only[cG,aa]at hd;simp only[RC.node,aa]at he;subst hd he;exact⟨q,h⟩
 |b::p,q,c,r,d,e,h,hd,he=>by
   cases r with
   |seq x y =>
     obtain⟨x',y',rfl,h1,h2⟩:=DZ h;cases b
     .exact kh p h1 (by simpa[cG]using hd) (by simpa[RC.node]using he)
     .exact kh p h2 (by simpa[cG]using hd) (by simpa[RC.node]using he)
   |cond v x y =>
     obtain⟨z,x',y',rfl,_,h1,h2⟩:=AQ h;cases b
     .exact kh p h1 (by simpa[cG]using hd) (by simpa[RC.node]using he)
     .exact kh p h2 (by simpa[cG]using hd) (by simpa[RC.node]using he)
   |block i x =>
     obtain⟨x',rfl,h1⟩:=xq h;cases b
     .exact kh p h1 (by simpa[cG]using hd) (by simpa[RC.node]using he)
     .simp[RC.node]at he
   |loop x =>
     obtain⟨x',rfl,h1⟩:=AP h;cases b
     .exact kh p h1 (by simpa[cG]using hd) (by simpa[RC.node]using he)
     .simp[RC.node]at he
   |_=>simp[RC.node]at he
def nS{nt:Nat}{all:List Oper}:∀{os:List Oper}{l:List ROper},nT P nt all os=some l->l.length=os.length/\∀(i:Nat) (oo:Oper),os[i]?=some oo->∃o:ROper,l[i]?=some o/\xW P nt all oo=some o
 |[],l,h=>by simp only[nT,aa]at h;subst h;simp
 |x::os,l,h=>by
   unfold nT at h;split at h
   .rename_i a as h1 h2
    simp only[aa]at h;subst h;obtain⟨i1,i2⟩:=nS h2;refine⟨by simp[i1],λi oo hi=>?_⟩;cases i with
    |zero=>simp only[bD,aa]at hi;subst hi;exact⟨a,by simp,h1⟩
    |succ i=>obtain⟨o,q1,q2⟩:=i2 i oo (by simpa using hi);exact⟨o,by simpa using q1,q2⟩
   .cases h
def AD(l l':List ROper):Prop:=l.length=l'.length/\∀(i:Nat) (o:ROper),l[i]?=some o->∃o',l'[i]?=some o'/\o.like o'
def uV(l:List ROper):AD l l:=⟨rfl,λi o h=>⟨o,h,rfl,rfl,rfl⟩⟩
def tA:∀(l:List ROper) (j:Nat),AD l (names j l)
 |[],j=>⟨rfl,λi o h=>by simp at h⟩
 |o::r,j=>by
   have key:∀(o':ROper) (k:Nat),o.like o'->AD (o::r) (o'::names k r):=by
    intro o' k ho;obtain⟨h1,h2⟩:=tA r k;refine⟨by simp[h1],λi x hx=>?_⟩;cases i with
    |zero=>simp only[bD,aa]at hx;subst hx;exact⟨o',by simp,ho⟩
    |succ i=>simpa using h2 i x (by simpa using hx)
   unfold names;split
   .exact key _ _ ⟨rfl,rfl,rfl⟩
   .exact key _ _ ⟨rfl,rfl,rfl⟩
def tC(l:List ROper):AD l (qM l).2:=by
 unfold qM;split
 .exact uV l
 .exact tA l 0
def Km{nt:Nat}{ops:Array Oper}{l l':List ROper}(h:nT P nt ops.toList ops.toList=some l)(hl:AD l l'):∀(idx:List Nat),(∀i∈idx,i<ops.size)->CL P nt ops idx (idx.filterMap (l'[·]?))
 |[],_=>trivial
 |i::is,hi=>by
   obtain⟨h1,h2⟩:=nS h;have hlt:=hi i (by simp);obtain⟨o,q1,q2⟩:=h2 i ops[i] (by simp[hlt]);obtain⟨o',q3,q4⟩:=hl.2 i o q1;rw[td (b:=o') (by exact q3)];exact⟨⟨ops[i],o,by simp[hlt],q2,q4⟩,Km h hl is λj hj=>hi j (by simp[hj])⟩
def oz{α:Type}:∀l:List α,(List.range l.length).filterMap (l[·]?)=l
 |[]=>rfl
 |x::l=>by
   rw[bd,List.range_succ_eq_map,td (b:=x) (by simp),List.filterMap_map];have:=oz l;congr 1
def NY{nt:Nat}{ops:Array Oper}(h:nT P nt ops.toList ops.toList=some l):CL P nt ops (List.range ops.size) l:=by
 have:=Km h (uV l) (List.range ops.size) (by simp);have hl:(List.range ops.size).filterMap (l[·]?)=l:=by
  obtain⟨h1,_⟩:=nS h;have h1':l.length=ops.size:=by simpa using h1
  rw[<-h1'];exact oz l
 rwa [hl]at this
def Srts(P:Program)(f:FuncId):Prop:=(∃rf,bZ P f=some rf)/\∀{h h':AH}{b o n c:Nat}{zs:List Int},ai h b o n=some (zs.map (AV.int .i64))->bP h b o (BV zs)=some h'->n<2^62->lu P f [.sl b o n c] h λx=>x=.val (.tup []) h'
def Srfs(P:Program)(f g:FuncId):Prop:=(∃rf,bZ P f=some rf)/\∀{h:AH}{b o n c:Nat}{vs:List AV}{kf:Nat->Int}{R:Out->Prop},ai h b o n=some vs->0<n->n<2^62->(∀i v,vs[i]?=some v->tc h b (kf i) v) ->
 (∀is:List Nat,is.Perm (List.range n)->is.Pairwise (λi j=>kf i<=kf j)->∃h',bP h b o (is.map λi=>vs.getD i .un)=some h'/\R (.val (.tup []) h'))->lu P f [.sl b o n c,.fn g []] h R
structure Has(P:Program)(RPm:RP):Prop where
 fn:∀f rf,RPm f=some rf->(∃k,rf=⟨[],.exit k⟩)\/bZ P f=some rf
 srf:∀f g,RPm (f+oC)=some (tj g)->Srfs P f g
 srt:∀f,RPm (f+oC)=some uq->Srts P f
 mixed:P.follows .mixedOrders=true
def ve:∀(args:List AV) (i n:Nat),db (bV i args) n=if i<=n then(args[n-i]?).getD AV.un else AV.un
 |[],i,n=>by simp[bV,db,T.get]
 |v::r,i,n=>by
   simp only[bV];rw[fD,ve r (i+1) n];by_cases h:i=n
   .subst h;simp
   .by_cases h1:i<=n
    .rw[if_neg h,if_pos om,if_pos h1,show n-i=(n-(i+1))+1 from by omega];simp
    .rw[if_neg h,if_neg om,if_neg h1]
def LZ{args':Array Value}(h:VRs σ args args'.toList)(hgl:GL σ)(k:Nat):TR σ (bV 0 args) (args'++Array.replicate k undef):=by
 refine⟨λn=>?_,hgl⟩;rw[ve];have hl:=h.length;simp only[dv,if_true,GE];rw[dU];cases hn:args[n]? with
 |some v =>
   obtain⟨y,hy,ry⟩:=h.get hn;have hlt:n<args'.size:=by have:=(au.1 hy).1;simpa using this
   rw[fJ hlt];simp only[eJ]at hy;simp[hy,ry]
 |none =>
   have hge:args'.size<=n:=by rw[List.getElem?_eq_none_iff]at hn;simp at hl;omega
   rw[Array.getElem?_append_right hge];have:((Array.replicate k undef)[n-args'.size]?).getD undef=undef:=by
    rw[Array.getElem?_replicate];split<;>rfl
   rw[this];simp only[Option.getD_none];exact VR.un
def yq(tmps:Array Value):ResultVar->Sem Value
 |.tmp t=>pure (tmps.getD t undef)
 |.cell a t=>do loadVar t (<-asAddr (tmps.getD a undef))
def DJ{K:Bs}{σ:Sg}{h:AH}{w:World}(r:Rep K σ h w){ts:Tm}{tmps:Array Value}(ht:TR σ ts tmps):∀{rs:List ResultVar}{rr:List RR}{vs:List AV},vM P rs=some rr->jj ts h rr=some vs ->
 ∃vs':List Value,(rs.mapM (yq tmps)).run P w=.ok vs' w/\VRs σ vs vs'
 |[],rr,vs,hc,hr=>by
   simp only[vM,aa]at hc;subst hc;simp only[jj,aa]at hr;subst hr;exact⟨[],by simp,rfl⟩
 |x::rs,rr,vs,hc,hr=>by
   unfold vM at hc;split at hc
   .rename_i y ys h1 h2
    simp only[aa]at hc;subst hc;unfold jj at hr;split at hr
    .rename_i v vs1 g1 g2
     simp only[aa]at hr;subst hr;obtain⟨vs',q1,q2⟩:=DJ r ht h2 g2;cases x with
     |tmp t =>
       simp only[cRes,aa]at h1;subst h1;simp only[kZ,aa]at g1;subst g1;refine⟨tmps.getD t undef::vs',?_,?_⟩
       .simp only[List.mapM_cons,Sem.run_bind,yq,Sem.run_pure,Result.andThen_ok,q1]
       .simp only[VRs];exact⟨_,_,rfl,ht.1 t,q2⟩
     |cell a t =>
       simp only[cRes]at h1;obtain⟨⟨g,n⟩,hl,rfl⟩:=bG h1;simp only[kZ]at g1;split at g1
       .rename_i b o hb
        split at g1
        .rename_i cs hcs
         have hv:=ht.1 a;rw[hb]at hv;simp only[VR]at hv;obtain⟨i,hi,hv⟩:=hv;obtain⟨v',p1,p2⟩:=tr (P:=P) hl r hcs hi g1;refine⟨v'::vs',?_,?_⟩
         .simp only[List.mapM_cons,Sem.run_bind,yq,hv,asAddr,Sem.run_pure,Result.andThen_ok,p1,q1]
         .simp only[VRs];exact⟨_,_,rfl,p2,q2⟩
        .cases g1
       .cases g1
    .cases hr
   .cases hc
def Ag(r:Rep K σ h w){tmps:Array Value}(ht:TR σ ts tmps){fn:Func}(hc:vM P fn.results.toList=some rf.results)(hr:results rf ts h=some v) :
 ∃v',(Go.results fn tmps).run P w=.ok v' w/\VR σ v v':=by
 unfold Am.results at hr;cases hvs:jj ts h rf.results with
 |none=>simp[hvs]at hr
 |some vs =>
   obtain⟨vs',q1,q2⟩:=DJ (P:=P) r ht hc hvs;have hrun:(Go.results fn tmps).run P w=.ok (if hh:vs'.toArray.size=1 then vs'.toArray[0]else .tuple vs'.toArray) w:=by
    have hres:Go.results fn tmps=(do let vs <-fn.results.mapM (yq tmps);pure (if h:vs.size=1 then vs[0]else .tuple vs)):=by
     unfold Go.results;congr 1
    rw[hres,Array.mapM_eq_mapM_toList];simp only[Sem.run_bind,Sem.run_map,q1,Result.andThen_ok,Sem.run_pure]
   have hl:=q2.length;rw[hvs]at hr;cases vs with
   |nil =>
     simp only[aa]at hr;subst hr;simp only[VRs]at q2;subst q2;exact⟨.tuple #[],by rw[hrun];simp,by simp[VR,VRs]⟩
   |cons x xs =>
     cases xs with
     |nil =>
       simp only[aa]at hr;subst hr;simp only[VRs]at q2;obtain⟨y,ys,rfl,h1,rfl⟩:=q2;exact⟨y,by rw[hrun];simp,h1⟩
     |cons y ys =>
       simp only[aa]at hr;subst hr;refine⟨.tuple vs'.toArray,?_,by simp only[VR];exact⟨vs',rfl,q2⟩⟩;rw[hrun];have:¬vs'.toArray.size=1:=by simp at hl |-;omega
       rw[dif_neg this]
def Lands.block{a:Act}{nt:Nat}{Q:Exit->Act->World->Prop}(h:Lands K σ a nt R Q)(hs:∀o,S o->R (o.unblock id)):Lands K σ a nt S (Exit.inBlock id Q):=by
 intro o e ts' h' ho he σ' a' w' ds h1 h2 h3 h4 h5 h6;have:=hs o ho;cases o with
 |norm ts1 h1' =>
   simp only[Out.ex,aa,aq]at he;obtain⟨rfl,rfl,rfl⟩:=he;exact h _ _ _ _ this rfl σ' a' w' ds h1 h2 h3 h4 h5 h6
 |ret ts1 h1' =>
   simp only[Out.ex,aa,aq]at he;obtain⟨rfl,rfl,rfl⟩:=he;exact h _ _ _ _ this rfl σ' a' w' ds h1 h2 h3 h4 h5 h6
 |exit j ts1 h1' =>
   simp only[Out.ex,aa,aq]at he;obtain⟨rfl,rfl,rfl⟩:=he;simp only[Out.unblock]at this;by_cases hj:j=id
   .subst hj;simp only[if_true]at this;have:=h _ _ _ _ this rfl σ' a' w' ds h1 h2 h3 h4 h5 h6;simpa[Exit.inBlock]using this
   .simp only[hj,if_false]at this;have:=h _ _ _ _ this rfl σ' a' w' ds h1 h2 h3 h4 h5 h6;simpa[Exit.inBlock,hj]using this
 |val v h1'=>simp[Out.ex]at he
def rQ{K:Bs}{σ:Sg}{h:AH}{fn:Func}{tmps:Array Value}{R:Ending->World->Prop}:∀(ds:List Nat) {w:World},Rep (K.dd ds) σ h w->(∀k∈ds,K.B<=k) ->
 (∀w',Rep K σ h w'->∃v,(Go.results fn tmps).run P w'=.ok v w'/\R (.returned v) w')->LeavesInM (Fw none) 0 P fn tmps R (ds.map xg) .returning w
 |[],w,r,_,hR=>hR w r
 |k::ds,w,r,hB,hR=>by
   obtain⟨h1,r'⟩:=r.shut (hB k (by simp));exact⟨by simp,.inl ⟨k,_,rfl,run_takeDeferred h1,rQ ds r' (λj hj=>hB j (by simp[hj])) hR⟩⟩
def GW(hf:bZ P f=some rf)(hc:sf P rf.body (bV 0 args) h S)(hx:∀id ts' h',¬S (.exit id ts' h'))(hr:∀ts' h',S (.norm ts' h')\/S (.ret ts' h')->∃v,Am.results rf ts' h'=some v/\R (.val v h')):lu P f args h R:=by
 intro K σ w args' hK r hgl hv;obtain⟨fn,c,g1,g2,g3,g4,g5⟩:=nW hf;refine callsIn_of_wp_marks g1 g2 trivial ?_ rfl;refine hc K σ w _ fn.ntmps c none f [] hK g4 (.inr ⟨rfl,fn,c,g1,g2,rfl,by simp[cG]⟩) r (LZ hv hgl _) (by simp;omega) _ ?_;intro o e ts' h' ho he σ' a' w' ds hle r' ht' _ hB hd;have key:(S (.norm ts' h')\/S (.ret ts' h'))->LeavesInM (Fw none) 0 P fn a'.tmps (Ev K σ R) a'.defers .returning w':=by
  intro hS;obtain⟨v,hv1,hv2⟩:=hr ts' h' hS;have hd':a'.defers=ds.map xg:=by rw[hd];simp
  rw[hd'];refine rQ ds r' hB λw2 r2=>?_;obtain⟨v',q1,q2⟩:=Ag (P:=P) r2 ht' g5 hv1;exact⟨v',q1,v,h',v',σ',hv2,rfl,hle,q2,r2⟩
 cases o with
 |norm ts1 h1 =>
   simp only[Out.ex,aa,aq]at he;obtain⟨rfl,rfl,rfl⟩:=he;exact key (.inl ho)
 |ret ts1 h1 =>
   simp only[Out.ex,aa,aq]at he;obtain⟨rfl,rfl,rfl⟩:=he;exact key (.inr ho)
 |exit id ts1 h1=>exact absurd ho (hx _ _ _)
 |val v h1=>simp[Out.ex]at he
def wG{σ:Sg}:∀(ps:List Nat) (args:List AV) (vs:List Value) (ts:Tm) (tmps:Array Value),TR σ ts tmps->VRs σ args vs->(∀t∈ps,t<tmps.size) ->
 TR σ (mB ts ps args) ((ps.zip vs).foldl (λtmps (x:Nat×Value)=>tmps.setIfInBounds x.1 x.2) tmps)/\((ps.zip vs).foldl (λtmps (x:Nat×Value)=>tmps.setIfInBounds x.1 x.2) tmps).size=tmps.size
 |[],args,vs,ts,tmps,ht,hv,hp=>by cases args<;>simp[mB,ht]
 |p::ps,[],vs,ts,tmps,ht,hv,hp=>by
   simp only[VRs]at hv;subst hv;simp[mB,ht]
 |p::ps,v::args,vs,ts,tmps,ht,hv,hp=>by
   simp only[VRs]at hv;obtain⟨v',vs',rfl,h1,h2⟩:=hv;simp only[mB,List.zip_cons_cons,iH];have:=wG ps args vs' (qV ts p v) (tmps.setIfInBounds p v') (ht.put (hp p (by simp)) h1) h2 (λt ht=>by simpa using hp t (by simp[ht]));exact⟨this.1,by rw[this.2];simp⟩
def Rep.putLp(r:Rep K σ h w){b:Nat}{fn:FuncId}{st:LS}{pend:Option (Option Nat)}(hg:h.get b=some (.lp fn p ts ps st pend)){i:Pl}(hi:σ b=some i) :
 ∃L:Loop,w.heap[i.blk]?=some (.loop L)/\L.state=st.of/\L.pending=qw pend/\∀(st':LS) (pend':Option (Option Nat)),Rep K σ (h.put b (.lp fn p ts ps st' pend')) (w.putObj i.blk (.loop { L with state:=st'.of,pending:=qw pend'})):=by
 obtain⟨i',hi',L,func,c0,g,q1,q2,q3,q4,q5,q6,q7,q8,q9,q10⟩:=r.obj b _ hg rfl;rw[hi]at hi';simp only[aa]at hi';subst hi';refine⟨L,q1,q4,q5,λst' pend'=>?_⟩;have hlt:i.blk<w.heap.size:=(ct.1 q1).1;exact r.put hg hi rfl ⟨{ L with state:=st'.of,pending:=qw pend'},func,c0,g,by unfold World.putObj;rw[fX hlt,if_pos rfl],q2,q3,rfl,rfl,q6,q7,q8,q9,q10⟩ (λk hk=>by unfold World.putObj;rw[fX hlt,if_neg hk]) (oa q2 r.le r.below _) (by simpa using r.le)
def EJ{b:Nat}{fn:FuncId}{tl:Tm}{f:RO}{S2:Out->Prop}(hP:Has P RPm)(hg:h.get b=some (.lp fn p tl ps .ready none))(hal:args.length=ps.length)
 (hrf:RPm fn=some rf) (hnode:rf.body.node p=some (.rangeF fn p f ps asg body)) (h1:sf P asg (mB tl ps args) h S) (h2:∀o,S o->∃ts1 h1 f1 p1 tl1 ps1,o=.norm ts1 h1/\h1.get b=some (.lp f1 p1 tl1 ps1 .ready none))
 (h3:∀ts1 h1 f1 p1 tl1 ps1,S (.norm ts1 h1)->h1.get b=some (.lp f1 p1 tl1 ps1 .ready none)->sf P body ts1 (h1.put b (.lp f1 p1 tl1 ps1 .busy none)) S2) (h4:∀o,S2 o->BL b R o):vS P b args h R:=by
 intro K σ w args' i L ro hK r hv hi hL;obtain⟨i',hi',L',func,c0,g,q1,q2,q3,q4,q5,q6,q7,q8,q9,q10⟩:=r.obj b _ hg rfl;rw[hi]at hi';simp only[aa]at hi';subst hi';rw[q1]at hL;simp only[aa,Obj.loop.injEq]at hL;subst hL;rw[hK]at q6;have hcf:bZ P fn=some rf:=by
  rcases hP.fn fn rf hrf with⟨_,rfl⟩|h
  .exfalso;cases p<;>simp[RC.node]at hnode
  .exact h
 obtain⟨func',c0',g1,g2,g3,g4,g5⟩:=nW hcf;rw[q6]at g1;simp only[aa]at g1;subst g1;rw[q7]at g2;simp only[aa]at g2;subst g2;obtain⟨q',hcomp⟩:=kh p g4 q8 hnode;obtain⟨g',pa,x,y,e1,_,e2,_,e3,ca,cb,fa,fb,hps⟩:=xl hcomp;simp only[Code.rangeFunc.injEq]at e1;obtain⟨_,rfl,rfl,rfl⟩:=e1;have hset:=wG (σ:=σ) ps args args'.toList tl L'.tmps q10 hv (λt ht=>du (hps t ht) q9);have hfold:(L'.params.zip args').foldl (λtmps (t,a)=>tmps.setIfInBounds t a) L'.tmps=(ps.zip args'.toList).foldl (λtmps (x:Nat×Value)=>tmps.setIfInBounds x.1 x.2) L'.tmps:=by
  rw[<-q3,<-Array.foldl_toList,Array.toList_zip]
 rw[hfold];refine roundIn_of_wpIn trivial ?_;refine h1 K σ w _ func.ntmps _ (some i.blk) fn _ hK ca (.inl fa) r hset.1 (by rw[hset.2];exact q9) _ ?_;intro o e ts' h' ho he σ' a' w' ds hle r' ht' hn' hB hd;obtain⟨ts1,h1',fn1,p1,tl1,ps1,rfl,hg1⟩:=h2 o ho;simp only[Out.ex,aa,aq]at he;obtain⟨rfl,rfl,rfl⟩:=he;have hi2:=hle _ _ hi;obtain⟨L1,l1,l2,l3,l4⟩:=r'.putLp hg1 hi2;refine⟨_,run_beginRound l1 (by rw[l2];rfl),?_⟩;have r2:=l4 .busy none;have hLL:({ L1 with state:=LS.busy.of,pending:=qw none}:Loop)={ L1 with state:=.busy}:=by
  rw[show qw none=L1.pending from l3.symm];rfl
 rw[hLL]at r2;refine h3 ts1 h1' _ _ _ _ ho hg1 (K.dd ds) σ' _ a' func.ntmps _ (some i.blk) fn _ hK cb (.inl fb) r2 ht' hn' _ ?_;intro o e ts' h' ho he σ2 a2 w2 ds2 hle2 r3 ht2 hn2 hB2 hd2;have hi3:=hle2 _ _ hi2;have r4:Rep K σ2 h' w2:=r3.less.less;have hend:=h4 o ho;have hle3:=Sg.le_trans hle hle2;cases o with
 |norm ts2 h2' =>
   simp only[Out.ex,aa,aq]at he;obtain⟨rfl,rfl,rfl⟩:=he;obtain⟨_,_,_,_,hg2,hR⟩:=hend;obtain⟨L2,m1,m2,m3,m4⟩:=r4.putLp hg2 hi3;exact⟨_,_,run_endRound none m1,.bool true,_,.bool true,σ2,hR,rfl,hle3,by simp[VR],m4 .ready none⟩
 |ret ts2 h2' =>
   simp only[Out.ex,aa,aq]at he;obtain⟨rfl,rfl,rfl⟩:=he;obtain⟨_,_,_,_,hg2,hR⟩:=hend;obtain⟨L2,m1,m2,m3,m4⟩:=r4.putLp hg2 hi3;exact⟨_,_,run_endRound (some .ret) m1,.bool false,_,.bool false,σ2,hR,rfl,hle3,by simp[VR],m4 .done (some none)⟩
 |exit id ts2 h2' =>
   simp only[Out.ex,aa,aq]at he;obtain⟨rfl,rfl,rfl⟩:=he;obtain⟨_,_,_,_,hg2,hR⟩:=hend;obtain⟨L2,m1,m2,m3,m4⟩:=r4.putLp hg2 hi3;exact⟨_,_,run_endRound (some (.exit id)) m1,.bool false,_,.bool false,σ2,hR,rfl,hle3,by simp[VR],m4 .done (some (some id))⟩
 |val v h2'=>simp[Out.ex]at he
def FS{q:List Bool}{nt:Nat}{fn:FuncId}{ro:Option Nat}{x y:Code}(h:(RC.seq a b).flatR=true\/(ro=none/\Loc P fn nt q (.seq x y))):(a.flatR=true\/(ro=none/\Loc P fn nt (false::q) x))/\(b.flatR=true\/(ro=none/\Loc P fn nt (true::q) y)):=by
 rcases h with h|⟨h,hl⟩
 .simp only[RC.flatR,aU]at h;exact⟨.inl h.1,.inl h.2⟩
 .exact⟨.inr ⟨h,hl.sub (by simp[cG])⟩,.inr ⟨h,hl.sub (by simp[cG])⟩⟩
def EK{fn0:FuncId}{f:RO}{g:FuncId}{caps:List AV}(hf:RO.ev ts f=.fn g caps)(hfex:∃rf,bZ P g=some rf)
 (h1:lu P g (.yld h.next::caps) (h.new (.lp fn0 p ts ps .ready none)) S) (h2:∀v h',S (.val v h')->BM h.next ts R h'):sf P (.rangeF fn0 p f ps asg body) ts h R:=by
 intro K σ w a nt cc ro fn q hK hcc hfl r ht hn Q hQ;obtain⟨go,pa,x,y,rfl,rfl,rfl,hgo,rfl,ca,cb,fa,fb,hps⟩:=xl hcc;rcases hfl with hfl|⟨rfl,hloc⟩
 .simp[RC.flatR]at hfl
 obtain⟨func,c0,l1,l2,l3,l4⟩:=hloc;have hv:=cN (a:=a) ht hgo;rw[hf]at hv;simp only[VR]at hv;obtain⟨vs,hv1,hv2⟩:=hv;obtain⟨rf,hrf⟩:=hfex;obtain⟨fg,cg,g1,g2,g3,g4,g5⟩:=nW hrf;refine wpIn_rangeFunc λfn' _=>?_;have r1:=r.opened;let L:Loop:={ state:=.ready,pending:=none,fn:=fn',tmps:=a.tmps,params:=pa,assign:=x,body:=y,defers:=w.heap.size}
 let i:Pl:={ blk:=w.heap.size+1,d:=0,esz:=0,N:=0}
 have r2:Rep (K.dd [w.heap.size]) (σ.add h.next i) (h.new (.lp fn0 q.reverse ts pa.toList .ready none)) ((w.alloc (.deferred (some []))).alloc (.loop L)):=by
  refine r1.new _ _ i (by simp[i]) fun τ hτ=>?_;refine⟨L,func,c0,go,?_,?_,rfl,rfl,rfl,?_,l2,l4,by rw[<-l3];exact hn,ht.mono hτ⟩
  .have:=World.alloc_heap_new (w.alloc (.deferred (some []))) (.loop L);rwa [World.size_alloc]at this
  .have:=r.le;show K.B<=w.heap.size+1;omega
  .show K.P.funcs[fn0]?=some func;rw[hK];exact l1
 refine⟨w.heap.size+1,[xg w.heap.size],(w.alloc (.deferred (some []))).alloc (.loop L),{ target:=.fn (.func g) vs.toArray,args:=#[]++#[.func (.yield (w.heap.size+1)) #[] #[]]},(w.alloc (.deferred (some []))).alloc (.loop L),g,#[.func (.yield (w.heap.size+1)) #[] #[]]++vs.toArray,(w.alloc (.deferred (some []))).alloc (.loop L),run_enterLoop_outer fn' a.tmps pa x y,?_,λ_ _=>trivial,?_,λq=>by simp[Fw,Fence.wide]at q,?_⟩
 .have hcst:∀v,a.eval (.const v)=v:=λ_=>rfl;simp[resolve,rangeCall,hv1,Deferred.ofValue,hcst]
 .have hb':¬fg.body=none:=by rw[g2];simp
  simp[invoke,callFunc,g1,g3,hb']
 .have hle:σ.le (σ.add h.next i):=Sg.le_add r.fresh;refine(h1 (K.dd [w.heap.size]) (σ.add h.next i) _ _ hK r2 (ht.2.mono hle) ?_).mono ?_
  .simp only[VRs,VR];exact⟨_,_,by simp;rfl,⟨i,Sg.add_at _ _ _,rfl⟩,VRs.mono hle _ _ hv2⟩
  .rintro e w' ⟨v,h',v',σ',hS,rfl,hle',hv',r'⟩;obtain⟨fn1,p1,tl1,ps1,st,pend,hg,hst,hm⟩:=h2 v h' hS;have hi':σ' h.next=some i:=hle' _ _ (Sg.add_at _ _ _);obtain⟨L',m1,m2,m3,m4⟩:=r'.putLp hg hi';have hnb:L'.state≠.busy:=by
    rw[m2];cases st<;>simp[LS.of]at hst |-
   have hend:=run_endLoop (P:=P) m1 hnb;refine⟨_,_,hend,?_⟩;have r3:=m4 .over pend
   have hland:∀e' o',R o'->o'.ex=some (e',ts,h'.put h.next (.lp fn1 p1 tl1 ps1 .over pend))->Q e' { a with defers:=[xg w.heap.size]++a.defers} (w'.putObj i.blk (.loop { L' with state:=.exhausted,pending:=qw pend})):=λe' o' hR he =>
    hQ o' e' _ _ hR he σ' _ _ [w.heap.size] (Sg.le_trans hle hle') r3 (ht.mono (Sg.le_trans hle hle')) hn (λk hk=>by simp only[eC]at hk;subst hk;exact r.le) rfl
   rw[m3];cases pend with
   |none=>exact hland _ _ hm rfl
   |some z =>
     cases z with
     |none=>exact wpIn_ret (hland _ _ hm rfl)
     |some id=>exact wpIn_exit (hland _ _ hm rfl)
def Mj{b:Nat}{ev:RO->AV}{p:AV×AH}(he:evN b ev h o=some p):o.op≠.bad:=by
 intro q;unfold evN at he;split at he
 .rw[q]at he;simp[aL]at he
 .unfold iV at he;rw[q]at he;split at he
  .simp[lay]at he
  .cases he
def KW(hK:K.P=P){b:Nat}{a:Act}(ht:TR σ ts a.tmps){oo:Oper}(hc:cOp P oo.op=some o.op)(r:Rep K σ h w){h':AH}(he:evN b (RO.ev ts) h o=some (v,h')) :
 Yields P K σ (execOp a.eval oo) w v h':=by
 unfold evN at he;split at he
 .exact No hK ht hc r he
 .rename_i j _
  unfold iV at he;split at he
  .rename_i hg
   split at he
   .rename_i f ob tg hl
    simp only[aa,aq]at he;obtain⟨rfl,rfl⟩:=he;exact(KT ht hc r hl).at hg
   .cases he
  .cases he
def zg(hP:Has P RPm)(hc:BS RPm (.call f args) ts h S):∃rf,bZ P f=some rf:=by
 cases hc with
 |func a b c d =>
   rcases hP.fn _ _ a with⟨k,rfl⟩|h
   .have b':BS RPm (.code (.exit k)) _ _ _:=b;cases b' with
    |exit hx=>exact absurd hx (c _ _ _)
   .exact⟨_,h⟩
 |srt a _ _ _ _=>exact(hP.srt _ a).1
 |srf a _ _ _ _ _=>exact(hP.srf _ _ a).1
def snd(hP:Has P RPm){t:Task}(hb:BS RPm t ts h R):Snd P t ts h R:=by
 induction hb with
 |nil hr =>
   intro K σ w a nt ops idx ro hK hcl r ht hn Q hQ;cases idx with
   |nil=>exact hQ _ _ _ _ hr rfl σ a w [] (Sg.le_refl σ) r ht hn (by simp) rfl
   |cons i is=>exact hcl.elim
 |skipped hw _ ih=>exact zR hw ih
 |@op b o l ts h v h' R hw hev _ _ ih=>exact ux (Mj hev) hw λK σ w a oo hK ht hc r=>⟨_,_,KW hK ht hc r hev,ih⟩
 |@any b o l ts h x as R hw ho hn _ _ ih =>
   refine ux (by rw[ho];simp) hw λK σ w a oo hK ht hc r=>?_;rw[ho]at hc;obtain⟨y,hy,hcy⟩:=IJ hc;obtain⟨v,h1,hm,hyl⟩:=KL (P:=P) (ty:=oo.type) (cN (a:=a) ht hcy) r hn;exact⟨v,h1,by simpa[execOp,hy]using hyl,ih v h1 hm⟩
 |@call b o l ts h f args S R hw ho hc _ _ ihc ih =>
   have hfex:=zg hP hc;have ihc':lu P f (args.map (RO.ev ts)) h S:=ihc;refine to (caps:=[]) (by rw[ho];simp) hfex hw ?_ (by simpa using ihc') ih;intro σ a oo ht hcop;rw[ho]at hcop;obtain⟨c,q1,q2,q3⟩:=IL hcop;exact⟨c,.func f,#[],q1,q2,rfl,rfl,by simpa using qK (a:=a) ht q3⟩
 |@callv b o l ts h x args f caps S R hw ho hx hc _ _ ihc ih =>
   have hfex:=zg hP hc;refine to (caps:=caps) (by rw[ho];simp) hfex hw ?_ ihc ih;intro σ a oo ht hcop;rw[ho]at hcop;obtain⟨c,t,q1,q2,q3,q4⟩:=xp hcop;subst q3;have hv:=ht.1 t;simp only[RO.ev]at hx;rw[hx]at hv;simp only[VR]at hv;obtain⟨vs,hv1,hv2⟩:=hv;exact⟨c,.tmp t,vs.toArray,q1,q2,hv1,by simpa using hv2,by simpa using qK (a:=a) ht q4⟩
 |@yield b0 o l ts h x args b S R hw ho hx hc _ _ ihc ih =>
   cases hc with
   |round hg hal _ _ _ _ _ _ =>
     refine EI (by rw[ho];simp) hw ?_ hg hal ihc ih;intro σ a oo ht hcop;rw[ho]at hcop;obtain⟨c,t,q1,q2,q3,q4⟩:=xp hcop;subst q3;have hv:=ht.1 t;simp only[RO.ev]at hx;rw[hx]at hv;simp only[VR]at hv;obtain⟨i,hi,hv1⟩:=hv;exact⟨c,.tmp t,i,q1,q2,hi,hv1,by simpa using qK (a:=a) ht q4⟩
 |skip hr =>
   refine⟨?_,λb hb=>by cases hb⟩;intro K σ w a nt cc ro fn q hK hcc _ r ht hn Q hQ;have:=IG hcc;subst this;exact wpIn_skip (hQ _ _ _ _ hr rfl σ a w [] (Sg.le_refl σ) r ht hn (by simp) rfl)
 |reg _ ih =>
   refine⟨?_,λb hb=>by cases hb⟩;intro K σ w a nt cc ro fn q hK hcc _ r ht hn Q hQ;obtain⟨id,ops,rfl,ho⟩:=LV hcc;exact wpIn_region (ih K σ w a nt ops _ ro hK (NY ho) r ht hn Q hQ)
 |regK _ ih =>
   refine⟨?_,λb hb=>by cases hb⟩;intro K σ w a nt cc ro fn q hK hcc _ r ht hn Q hQ;exact(IH hcc).elim
 |@regD kn ops es ts h R _ _ ih =>
   refine⟨?_,λb hb=>by cases hb⟩;intro K σ w a nt cc ro fn q hK hcc _ r ht hn Q hQ;obtain⟨id,opsA,l',rfl,ho,rfl,rfl,rfl,hk⟩:=II hcc;refine wpIn_region_draw λt=>?_;have hsch:Region.schedule (P.follows .mixedOrders) opsA t=Region.linearise .any opsA t:=by simp[Region.schedule,hP.mixed]
   rw[hsch];have hlin:=wh hk t;have hlen:(qM l').2.length=opsA.size:=by rw[<-(tC l').1];simpa using(nS ho).1
   exact ih (Region.linearise .any opsA t) (by rw[hlen];exact hlin) K σ w.drew a nt opsA _ ro hK (Km ho (tC l') _ λj hj=>(hlin.2.1 j).1 hj) (r.drew.kept _) ht hn Q hQ
 |@seq ca cb ts h S R _ _ hx hr iha ihb =>
   refine⟨?_,λb hb=>by cases hb⟩;intro K σ w a nt cc ro fn q hK hcc hfl r ht hn Q hQ;obtain⟨x,y,rfl,hx',hy'⟩:=DZ hcc;obtain⟨f1,f2⟩:=FS hfl;refine wpIn_seq (iha.1 K σ w a nt x ro fn _ hK hx' f1 r ht hn _ ?_);intro o e ts' h' ho he σ' a' w' ds hle r' ht' hn' hB hd;cases o with
   |norm ts1 h1 =>
     simp only[Out.ex,aa,aq]at he;obtain⟨rfl,rfl,rfl⟩:=he;exact(ihb ts1 h1 ho).1 (K.dd ds) σ' w' a' nt y ro fn _ hK hy' f2 r' ht' hn' Q (hQ.later hle hB hd λ_ q=>q)
   |exit id ts1 h1 =>
     simp only[Out.ex,aa,aq]at he;obtain⟨rfl,rfl,rfl⟩:=he;exact hQ _ _ _ _ (hx _ _ _ ho) rfl σ' a' w' ds hle r' ht' hn' hB hd
   |ret ts1 h1 =>
     simp only[Out.ex,aa,aq]at he;obtain⟨rfl,rfl,rfl⟩:=he;exact hQ _ _ _ _ (hr _ _ ho) rfl σ' a' w' ds hle r' ht' hn' hB hd
   |val v h1=>simp[Out.ex]at he
 |@cond c ca cb ts h t R hc _ ih =>
   refine⟨?_,λb hb=>by cases hb⟩;intro K σ w a nt cc ro fn q hK hcc hfl r ht hn Q hQ;obtain⟨z,x,y,rfl,hz,hx,hy⟩:=AQ hcc;have hv:=cN (a:=a) ht hz;rw[hc]at hv;simp only[VR]at hv;refine wpIn_cond hv ?_;have hfl2:(ca.flatR=true\/(ro=none/\Loc P fn nt (false::q) x))/\(cb.flatR=true\/(ro=none/\Loc P fn nt (true::q) y)):=by
    rcases hfl with hfl|⟨hro,hl⟩
    .simp only[RC.flatR,aU]at hfl;exact⟨.inl hfl.1,.inl hfl.2⟩
    .exact⟨.inr ⟨hro,hl.sub (by simp[cG])⟩,.inr ⟨hro,hl.sub (by simp[cG])⟩⟩
   cases t
   .exact ih.1 K σ w a nt y ro fn _ hK hy hfl2.2 r ht hn Q hQ
   .exact ih.1 K σ w a nt x ro fn _ hK hx hfl2.1 r ht hn Q hQ
 |@block id c ts h S R _ hs ih =>
   refine⟨?_,λb hb=>by cases hb⟩;intro K σ w a nt cc ro fn q hK hcc hfl r ht hn Q hQ;obtain⟨x,rfl,hx⟩:=xq hcc;have hfl2:(c.flatR=true\/(ro=none/\Loc P fn nt (false::q) x)):=by
    rcases hfl with hfl|⟨hro,hl⟩
    .exact .inl hfl
    .exact .inr ⟨hro,hl.sub (by simp[cG])⟩
   exact wpIn_block (ih.1 K σ w a nt x ro fn _ hK hx hfl2 r ht hn _ (hQ.block hs))
 |@loop c ts h S R _ _ hx hr iha ihb =>
   have hl:Eu P (.loop c) ts h R:=by
    intro b hb K σ w a nt cc ro fn q hK hcc hfl r ht hn Q hQ;simp only[RC.loop.injEq]at hb;subst hb;refine RoundsX.step (iha.1 K σ w a nt cc ro fn q hK hcc hfl r ht hn _ ?_);intro o e ts' h' ho he σ' a' w' ds hle r' ht' hn' hB hd;cases o with
    |norm ts1 h1 =>
      simp only[Out.ex,aa,aq]at he;obtain⟨rfl,rfl,rfl⟩:=he;exact(ihb ts1 h1 ho).2 c rfl (K.dd ds) σ' w' a' nt cc ro fn q hK hcc hfl r' ht' hn' Q (hQ.later hle hB hd λ_ q=>q)
    |exit id ts1 h1 =>
      simp only[Out.ex,aa,aq]at he;obtain⟨rfl,rfl,rfl⟩:=he;exact hQ _ _ _ _ (hx _ _ _ ho) rfl σ' a' w' ds hle r' ht' hn' hB hd
    |ret ts1 h1 =>
      simp only[Out.ex,aa,aq]at he;obtain⟨rfl,rfl,rfl⟩:=he;exact hQ _ _ _ _ (hr _ _ ho) rfl σ' a' w' ds hle r' ht' hn' hB hd
    |val v h1=>simp[Out.ex]at he
   refine⟨?_,hl⟩;intro K σ w a nt cc ro fn q hK hcc hfl r ht hn Q hQ;obtain⟨x,rfl,hx⟩:=AP hcc;have hfl2:(c.flatR=true\/(ro=none/\Loc P fn nt (false::q) x)):=by
    rcases hfl with hfl|⟨hro,hl⟩
    .exact .inl hfl
    .exact .inr ⟨hro,hl.sub (by simp[cG])⟩
   exact(hl c rfl K σ w a nt x ro fn _ hK hx hfl2 r ht hn Q hQ).loop
 |@rangeF fn p f ps asg body ts h g caps S R hf hc he ih =>
   exact⟨EK hf (zg hP hc) ih he,λb hb=>by cases hb⟩
 |exit hr =>
   refine⟨?_,λb hb=>by cases hb⟩;intro K σ w a nt cc ro fn q hK hcc _ r ht hn Q hQ;have:=IK hcc;subst this;exact wpIn_exit (hQ _ _ _ _ hr rfl σ a w [] (Sg.le_refl σ) r ht hn (by simp) rfl)
 |ret hr =>
   refine⟨?_,λb hb=>by cases hb⟩;intro K σ w a nt cc ro fn q hK hcc _ r ht hn Q hQ;have:=LU hcc;subst this;exact wpIn_ret (hQ _ _ _ _ hr rfl σ a w [] (Sg.le_refl σ) r ht hn (by simp) rfl)
 |func hf hb hx hr ih =>
   rcases hP.fn _ _ hf with⟨k,rfl⟩|h
   .have b':BS RPm (.code (.exit k)) _ _ _:=hb;cases b' with
    |exit hx'=>exact absurd hx' (hx _ _ _)
   .exact GW h ih.1 hx hr
 |srt a b c d e =>
   intro K σ w args' hK r hgl hv;exact((hP.srt _ a).2 b c d K σ w args' hK r hgl hv).mono λe' w' ⟨v,h',v',σ',q1,q2⟩=>by
    cases q1;exact⟨_,_,v',σ',e,q2⟩
 |srf a b c d e k=>exact(hP.srf _ _ a).2 b c d e k
 |round hg hal hrf hnode _ h2 _ h4 i1 i2=>exact EJ hP hg hal hrf hnode i1.1 h2 (λts1 h1 f1 p1 t1 q1 hs hg=>(i2 ts1 h1 f1 p1 t1 q1 hs hg).1) h4
end
end
end Go.Am
