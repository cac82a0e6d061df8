/- From a run of the clean machine to a call of the model; slic -/
import Derived.Test.YtklpoimdclflmaaGreatDoorTAmRun
import Derived.Test.YtklpoimdclflmaaGreatDoorTAmW
import Derived.WideShapes
set_option linter.all false
namespace Go.Am
open Go.RowKit
variable {D:List Nat}{K:Bs}{P:Program}{RPm:RP}{args:List AV}{args':Array Value}{cap len:Nat}{f:FuncId}{h:AH}{ms t:List (Nat×RF)}{ts:Tm}{w:World}{x:Addr}{σ:Sg}
def Bx(hP:Has P RPm){R:Out->Prop}(hb:BS RPm (.call f args) ts h R)(hK:K.P=P) 
 (r:Rep K σ h w) (hgl:GL σ) (hv:VRs σ args args'.toList):Calls P f args' w (Ev K σ R) :=
 callsIn_wide.1 (snd hP hb K σ w args' hK r hgl hv)
noncomputable def lkp(t:List (Nat×RF))(f:Nat)(d:Option RF):Option RF:=List.rec d (λp _ ih=>bif Nat.beq f p.1 then some p.2 else ih) t
def AB{p:Nat×RF}{f:Nat}{d:Option RF}:lkp (p::t) f d=bif Nat.beq f p.1 then some p.2 else lkp t f d:=rfl
def uf{f:Nat}{r:RF}:∀{t:List (Nat×RF)},lkp t f none=some r->(f,r)∈t
 |[],h=>by cases h
 |p::t,h=>by
   rw[AB]at h;cases q:Nat.beq f p.1 with
   |true=>rw[q]at h;cases h;rw[jV q];exact aM ..
   |false=>rw[q]at h;exact aN _ (uf h)
noncomputable def yw(P:Program)(ms:List (Nat×RF)):RP:=λf=>bif Nat.blt f oC then bZ P f else lkp ms (f-oC) none
noncomputable def Cj(P:Program)(ms:List (Nat×RF)):RP:=λf=>bif Nat.blt f oC then(bZ P f).bind cY else lkp ms (f-oC) none
def Kg(P:Program)(ms:List (Nat×RF)):Prop:=∀m∈ms,(m.2=uq/\Srts P m.1)\/∃g,m.2=tj g/\Srfs P m.1 g
def NK(h:P.follows .mixedOrders=true)(hs:Kg P ms):Has P (yw P ms):=by
 have up:∀f r,yw P ms (f+oC)=some r->(f,r)∈ms:=λf r hf=>by
  unfold yw at hf;have q:Nat.blt (f+oC) oC=false:=by
   cases e:Nat.blt (f+oC) oC with
   |false=>rfl
   |true=>have:=ng e;omega
  rw[q,Nat.add_sub_cancel]at hf;exact uf hf
 refine⟨λf rf hf=>?_,λf g hf=>?_,λf hf=>?_,h⟩
 .unfold yw at hf;cases q:Nat.blt f oC with
  |true=>rw[q]at hf;exact .inr hf
  |false =>
    rw[q]at hf;rcases hs _ (uf hf)with⟨e,_⟩|⟨g,e,_⟩<;>exact .inl ⟨_,e⟩
 .rcases hs _ (up _ _ hf)with⟨e,_⟩|⟨g',e,q⟩
  .simp only[tj,uq,RF.mk.injEq,RC.exit.injEq,true_and]at e;omega
  .simp only[tj,RF.mk.injEq,RC.exit.injEq,true_and,Nat.add_left_cancel_iff]at e;rw[e];exact q
 .rcases hs _ (up _ _ hf)with⟨e,q⟩|⟨g',e,_⟩
  .exact q
  .simp only[tj,uq,RF.mk.injEq,RC.exit.injEq,true_and]at e;omega
def AllD(P:Program):List (Nat×RF)->Prop
 |[]=>True
 |p::t=>(bZ P p.1).bind cY=some p.2/\AllD P t
def allD_of{P:Program}:∀{t:List (Nat×RF)},(t.map λp=>(bZ P p.1).bind cY)=(t.map λp=>some p.2)->AllD P t
 |[],_=>trivial
 |_::_,h=>by
   simp only[bO,cy]at h;exact⟨h.1,allD_of h.2⟩
def allD_at{P:Program}:∀{t:List (Nat×RF)}{k:Nat}{r:RF},AllD P t->(k,r)∈t->∃rf,bZ P k=some rf
 |p::t,k,r,h,hm=>by
   rcases aF.1 hm with e|hm
   .obtain⟨rf,q,_⟩:=lZ.1 h.1;rw[<-e]at q;exact⟨rf,q⟩
   .exact allD_at h.2 hm
def Mm(hs:∀m∈ms,cY m.2=some m.2)(hb:t.all (λp=>Nat.blt p.1 oC)=true)(ht:AllD P t):Det (yw P ms) λf=>lkp t f (Cj P ms f):=by
 have hd:Det (yw P ms) (Cj P ms):=λf r h=>by
  unfold Cj at h;unfold yw;cases q:Nat.blt f oC with
  |true=>rw[q]at h;exact lZ.1 h
  |false =>
    rw[q]at h;exact⟨r,h,hs _ (uf h)⟩
 intro f r h;refine hd f r (Eq.trans (Eq.symm ?_) h);clear h;show lkp t f (Cj P ms f)=Cj P ms f;induction t with
 |nil=>rfl
 |cons p t ih =>
   simp only[gQ,aU]at hb;rw[AB];cases q:Nat.beq f p.1 with
   |false=>exact ih hb.2 ht.2
   |true =>
     have e:=jV q;subst e;unfold Cj;rw[hb.1];exact ht.1.symm
def FF(hP:Has P RPm)(hb:BS RPm (.call f args) ts h λo=>∃v h',o=.val v h'/\v=.bool true) 
 (r:Rep ⟨w.heap.size,w,P,D⟩ σ h w) (hgl:GL σ) (hv:VRs σ args args'.toList):Calls P f args' w λe w'=>e=.returned (.bool true)/\Below w.heap.size w w' :=
 (Bx hP hb rfl r hgl hv).mono λe w' ⟨v,h',v',σ',⟨_,_,e1,e2⟩,he,_,hv',r'⟩=>by
  cases e1;subst e2;simp only[VR]at hv';subst hv';exact⟨he,r'.below⟩
def law_of_C(hP:P.follows .mixedOrders=true)(hs:Kg P ms)(hd:Det (yw P ms) RPm)(hc:C RPm f args h λr _=>r=.bool true) 
 (r:Rep ⟨w.heap.size,w,P,D⟩ σ h w) (hgl:GL σ) (hv:VRs σ args args'.toList):Calls P f args' w λe w'=>e=.returned (.bool true)/\Below w.heap.size w w' :=
 FF (NK hP hs) (NO hd hc) r hgl hv
def IsRowE(k:IntKind)(e:Nat)(w:World)(a:Option Addr)(len cap:Nat)(zs:List Int):Prop :=
 (a=none/\len=0/\cap=0/\zs=[]) \/
 ∃x,a=some x/\len<=cap/\cap<=maxLen/\zs.length=cap*e/\(∀i,i<zs.length->w.cell? (x.add i)=some (.int k (zs.getD i 0)))/\∀n∈zs,(Lit.int k n).wf=true
structure St0(K:Bs)(σ:Sg)(h:AH)(w:World):Prop where
 rep:Rep K σ h w
 gl:GL σ
 nx:h.next=NG
 iR:∀b o,h.get b=some o->∃(k:IntKind) (zs:List Int),o=.cells (zs.map (AV.int k)) 1 true
 ty:∀b,h.tyOf b=none
def St0.zero(P:Program)(w:World):St0 ⟨w.heap.size,w,P,[]⟩ Sg.zero AH.zero w :=
 ⟨Rep.zero P w,GL.zero,rfl,(λb o h=>by rw[AH.get_zero]at h;cases h),(λb=>by unfold AH.tyOf AH.zero;simp[T.get])⟩
def Rep.dummy(r:Rep K σ h w):∃σ',σ.le σ'/\Rep K σ' (h.new (.cells [] 1 true)) w :=
 ⟨σ.add h.next ⟨0,0,1,0,0⟩,Sg.le_add r.fresh,r.came [] 1 ⟨0,0,1,0,0⟩ rfl (.inl rfl)⟩
def Rep.outer(r:Rep K σ h w)(hB:K.B=w.heap.size){vs:List AV}{Y:Nat->Value}(hsp:x.spot=none)(h1:len<=cap)(hl:vs.length=len)
 (hc:∀i,i<cap->w.cell? (x.add i)=some (Y i)) (hv:∀i v,vs[i]?=some v->VR σ v (Y i)) :
 ∃σ',σ.le σ'/\Rep K σ' (h.new (.cells vs 1 true)) w/\VR σ' (.sl h.next 0 len len) (.slice (some x) len cap):=by
 have hadd:∀j,x.add j=⟨x.block,x.off+j,none⟩:=by
  intro j;obtain⟨xb,xo,xs⟩:=x;simp only at hsp;subst hsp;exact Addr.add_lit _ _ _
 have hx:x=⟨x.block,x.off,none⟩:=by
  obtain⟨xb,xo,xs⟩:=x;simp only at hsp;subst hsp;rfl
 by_cases hz:cap=0
 .have hl0:len=0:=om;subst hz;subst hl0;have hvs:vs=[]:=aW.1 hl;subst hvs;refine⟨σ.add h.next ⟨x.block,x.off,1,0,0⟩,Sg.le_add r.fresh,r.came [] 1 _ rfl (.inl rfl),?_⟩;simp only[VR];exact⟨_,x.off,0,Sg.add_at _ _ _,by rw[<-hx],.inl trivial,ab _,ab _,.inl rfl⟩
 .have h40:=hc 0 om;rw[hadd]at h40;unfold World.cell? at h40;simp only at h40;split at h40
  .rename_i C t fr hC
   have hall:∀i,i<cap->C[x.off+i]?=some (Y i):=by
    intro i hi;have:=hc i hi;rw[hadd]at this;simpa[World.cell?,hC]using this
   have hN:x.off+cap<=C.size:=by
    have hlt:=(ct.1 (hall (cap-1) om)).1;omega
   have hblk:x.block<w.heap.size:=(ct.1 hC).1;refine⟨σ.add h.next ⟨x.block,x.off,1,C.size,t⟩,Sg.le_add r.fresh,r.came vs 1 _ rfl (.inr ⟨by rw[hB];exact hblk,fun τ hτ=>?_⟩),?_⟩
   .refine⟨C,t,fr,hC,rfl,rfl,?_,λj y hy=>?_,λq=>(by cases q),rfl⟩
    .show x.off+_<=C.size;omega
    .have hj:=(au.1 hy).1;exact⟨Y j,hall j om,VR.mono hτ _ _ (hv j y hy)⟩
   .simp only[VR];refine⟨_,x.off,cap,Sg.add_at _ _ _,by rw[<-hx],.inr (by simp),h1,ab _,.inr ⟨ab _,?_⟩⟩;show x.off+cap*1<=C.size;omega
  .cases h40
def Rep.outer0(r:Rep K σ h w)(hsp:x.spot=none)(h1:len<=cap) :
 ∃σ',σ.le σ'/\Rep K σ' (h.new (.cells [] 1 true)) w/\VR σ' (.sl h.next 0 len len) (.slice (some x) len cap):=by
 have hx:x=⟨x.block,x.off,none⟩:=by
  obtain⟨xb,xo,xs⟩:=x;simp only at hsp;subst hsp;rfl
 refine⟨σ.add h.next ⟨x.block,x.off,1,x.off+cap,0⟩,Sg.le_add r.fresh,r.came [] 1 _ rfl (.inl rfl),?_⟩;simp only[VR];refine⟨_,x.off,cap,Sg.add_at _ _ _,by rw[<-hx],.inr (by simp),h1,ab _,.inr ⟨ab _,?_⟩⟩;show x.off+cap*1<=x.off+cap;omega
def Rep.rowB(r:Rep K σ h w)(hB:K.B=w.heap.size){k:IntKind}{a:Option Addr}{zs:List Int}(h1:len<=cap)(h3:zs.length=cap)(hn:a=none->cap=0)
 (hc:∀x,a=some x->∀i,i<cap->w.cell? (x.add i)=some (.int k (zs.getD i 0))) :
 ∃σ' o v,σ.le σ'/\Rep K σ' (h.new o) w/\VR σ' v (.slice a len cap)/\(((v=.nils\/v=.emp)/\len=0)\/(v=.sl h.next 0 len len/\o=.cells ((zs.take len).map (AV.int k)) 1 true)):=by
 cases a with
 |none =>
   have hz:=hn rfl;have hl0:len=0:=om;subst hz;subst hl0;obtain⟨σ',q1,q2⟩:=r.dummy;exact⟨σ',_,.nils,q1,q2,by simp[VR],.inl ⟨.inl rfl,rfl⟩⟩
 |some x =>
   by_cases hz:cap=0
   .have hl0:len=0:=om;subst hz;subst hl0;obtain⟨σ',q1,q2⟩:=r.dummy;exact⟨σ',_,.emp,q1,q2,by simp[VR],.inl ⟨.inr rfl,rfl⟩⟩
   .have hsp:x.spot=none:=by
     have:=hc x rfl 0 om;have e:x.add 0=x:=rfl;rw[e]at this;unfold World.cell? at this;split at this
     .split at this
      .cases this
      .rename_i hs
       cases hq:x.spot with
       |none=>rfl
       |some s=>rw[hq]at hs;simp at hs
     .cases this
    obtain⟨σ',q1,q2,q3⟩:=r.outer hB (vs:=(zs.take len).map (AV.int k)) (Y:=λi=>.int k (zs.getD i 0)) hsp h1 (by rw[ah,aS];omega) (hc x rfl) (λi v hv=>by
     rw[aV]at hv;cases hq:(zs.take len)[i]? with
     |none=>rw[hq]at hv;cases hv
     |some u =>
       rw[hq]at hv;simp only[aQ,aa]at hv;subst hv;rw[cS]at hq;split at hq
       .rw[aA,hq];simp[VR]
       .cases hq)
    exact⟨σ',_,_,q1,q2,q3,.inr ⟨rfl,rfl⟩⟩
def news:List AO->AH->AH
 |[],h=>h
 |o::r,h=>news r (h.new o)
def wX:∀(os:List AO) (h:AH),(news os h).next=h.next+os.length
 |[],h=>rfl
 |o::r,h=>by rw[news,wX r,AH.next_new,bd];omega
def oV:∀(os:List AO) (h:AH) (b:Nat),b<h.next->(news os h).get b=h.get b
 |[],_,_,_=>rfl
 |o::r,h,b,hb=>by rw[news,oV r _ b (by simp;omega),AH.get_new,if_neg om]
structure NRow where
 a:Option Addr
 len:Nat
 cap:Nat
 zs:List Int
def NRow.ok(w:World)(k:IntKind)(r:NRow):Prop:=r.len<=r.cap/\r.zs.length=r.cap/\(r.a=none->r.cap=0)/\∀x,r.a=some x->∀i,i<r.cap->w.cell? (x.add i)=some (.int k (r.zs.getD i 0))
def NRow.at(h:AH)(k:IntKind)(v:AV)(r:NRow):Prop:=((v=.nils\/v=.emp)/\r.len=0)\/∃b,v=.sl b 0 r.len r.len/\h.get b=some (.cells ((r.zs.take r.len).map (AV.int k)) 1 true)
def Rep.rows{K:Bs}{w:World}{k:IntKind}(hB:K.B=w.heap.size):∀(n:Nat) (rows:List NRow) {σ:Sg}{h:AH},Rep K σ h w->rows.length<=n->(∀r∈rows,r.ok w k) ->
 ∃(σ':Sg) (os:List AO) (vs:List AV),os.length=n/\vs.length=rows.length/\σ.le σ'/\Rep K σ' (news os h) w/\∀(i:Nat) (v:AV) (r:NRow),vs[i]?=some v->rows[i]?=some r->VR σ' v (.slice r.a r.len r.cap)/\r.at (news os h) k v
 |0,[],σ,h,r,_,_=>⟨σ,[],[],rfl,rfl,Sg.le_refl σ,r,λi v r hv=>by simp at hv⟩
 |0,_::_,_,_,_,hl,_=>by simp at hl
 |n+1,[],σ,h,r,_,_=>by
   obtain⟨σ1,q1,q2⟩:=r.dummy;obtain⟨σ2,os,vs,a1,a2,a3,a4,a5⟩:=Rep.rows (k:=k) hB n [] q2 (dv _) (λr hr=>by cases hr);exact⟨σ2,.cells [] 1 true::os,vs,by simp[a1],a2,Sg.le_trans q1 a3,a4,λi v r hv hr=>by simp at hr⟩
 |n+1,row::rows,σ,h,r,hl,hok=>by
   obtain⟨k1,k2,k3,k4⟩:=hok row (by simp);obtain⟨σ1,o,v,q1,q2,q3,q4⟩:=r.rowB hB k1 k2 k3 k4;obtain⟨σ2,os,vs,a1,a2,a3,a4,a5⟩:=Rep.rows hB n rows q2 (by simp at hl;omega) (λr hr=>hok r (by simp[hr]));refine⟨σ2,o::os,v::vs,by simp[a1],by simp[a2],Sg.le_trans q1 a3,a4,λi x row' hx hr=>?_⟩;cases i with
   |zero =>
     simp only[bD,aa]at hx hr;subst hx hr;refine⟨VR.mono a3 _ _ q3,?_⟩;rcases q4 with q4|⟨q4,q5⟩
     .exact .inl q4
     .refine .inr ⟨_,q4,?_⟩;rw[news,oV os _ _ (by simp),AH.get_new,if_pos rfl,q5]
   |succ i =>
     simp only[cJ]at hx hr;exact a5 i x row' hx hr
end Go.Am
