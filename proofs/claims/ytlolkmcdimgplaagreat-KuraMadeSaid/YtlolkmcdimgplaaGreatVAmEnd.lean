/- From a run of the clean machine to a call of the model; slic -/
import Derived.Test.YtlolkmcdimgplaaGreatVAmRun
import Derived.Test.YtlolkmcdimgplaaGreatVAmW
import Derived.WideShapes
set_option linter.all false
namespace Go.Am
open Go.RowKit
variable {D:List Nat}{K:Bs}{P:Program}{RPm:RP}{args:List AV}{args':Array Value}{cap len:Nat}{f:FuncId}{h:AH}{ms t:List (Nat×RF)}{ts:Tm}{w:World}{σ:Sg}
theorem AA(hP:Has P RPm){R:Out->Prop}(hb:BS RPm (.call f args) ts h R)(hK:K.P=P) 
 (r:Rep K σ h w) (hgl:GL σ) (hv:VRs σ args args'.toList):Calls P f args' w (DK K σ R) :=
 callsIn_wide.1 (snd hP hb K σ w args' hK r hgl hv)
noncomputable def lkp(t:List (Nat×RF))(f:Nat)(d:Option RF):Option RF:=List.rec d (λp _ ih=>bif Nat.beq f p.1 then some p.2 else ih) t
theorem zN{p:Nat×RF}{f:Nat}{d:Option RF}:lkp (p::t) f d=bif Nat.beq f p.1 then some p.2 else lkp t f d:=rfl
theorem tf{f:Nat}{r:RF}:∀{t:List (Nat×RF)},lkp t f none=some r->(f,r)∈t
 |[],h=>by cases h
 |p::t,h=>by
   rw[zN]at h;cases q:Nat.beq f p.1 with
   |true=>rw[q]at h;cases h;rw[Nat.eq_of_beq_eq_true q];exact aM ..
   |false=>rw[q]at h;exact aQ _ (tf h)
noncomputable def xF(P:Program)(ms:List (Nat×RF)):RP:=λf=>bif Nat.blt f nM then cx P f else lkp ms (f-nM) none
noncomputable def Bj(P:Program)(ms:List (Nat×RF)):RP:=λf=>bif Nat.blt f nM then(cx P f).bind dQ else lkp ms (f-nM) none
def Jm(P:Program)(ms:List (Nat×RF)):Prop:=∀m∈ms,(m.2=tF/\Srts P m.1)\/∃g,m.2=rZ g/\Srfs P m.1 g
theorem MV(h:P.follows .mixedOrders=true)(hs:Jm P ms):Has P (xF P ms):=by
 have up:∀f r,xF P ms (f+nM)=some r->(f,r)∈ms:=λf r hf=>by
  unfold xF at hf;have q:Nat.blt (f+nM) nM=false:=by
   cases e:Nat.blt (f+nM) nM with
   |false=>rfl
   |true=>have:=Nat.le_of_ble_eq_true e;omega
  rw[q,Nat.add_sub_cancel]at hf;exact tf hf
 refine⟨λf rf hf=>?_,λf g hf=>?_,λf hf=>?_,h⟩
 .unfold xF at hf;cases q:Nat.blt f nM with
  |true=>rw[q]at hf;exact .inr hf
  |false =>
    rw[q]at hf;rcases hs _ (tf hf)with⟨e,_⟩|⟨g,e,_⟩<;>exact .inl ⟨_,e⟩
 .rcases hs _ (up _ _ hf)with⟨e,_⟩|⟨g',e,q⟩
  .simp only[rZ,tF,RF.mk.injEq,RC.exit.injEq,true_and]at e;omega
  .simp only[rZ,RF.mk.injEq,RC.exit.injEq,true_and,Nat.add_left_cancel_iff]at e;rw[e];exact q
 .rcases hs _ (up _ _ hf)with⟨e,q⟩|⟨g',e,_⟩
  .exact q
  .simp only[rZ,tF,RF.mk.injEq,RC.exit.injEq,true_and]at e;omega
def AllD(P:Program):List (Nat×RF)->Prop
 |[]=>True
 |p::t=>(cx P p.1).bind dQ=some p.2/\AllD P t
theorem Lp(hs:∀m∈ms,dQ m.2=some m.2)(hb:t.all (λp=>Nat.blt p.1 nM)=true)(ht:AllD P t):Det (xF P ms) λf=>lkp t f (Bj P ms f):=by
 have hd:Det (xF P ms) (Bj P ms):=λf r h=>by
  unfold Bj at h;unfold xF;cases q:Nat.blt f nM with
  |true=>rw[q]at h;exact iM.1 h
  |false =>
    rw[q]at h;exact⟨r,h,hs _ (tf h)⟩
 intro f r h;refine hd f r (Eq.trans (Eq.symm ?_) h);clear h;show lkp t f (Bj P ms f)=Bj P ms f;induction t with
 |nil=>rfl
 |cons p t ih =>
   simp only[rY,aL]at hb;rw[zN];cases q:Nat.beq f p.1 with
   |false=>exact ih hb.2 ht.2
   |true =>
     have e:=Nat.eq_of_beq_eq_true q;subst e;unfold Bj;rw[hb.1];exact ht.1.symm
theorem EP(hP:Has P RPm)(hb:BS RPm (.call f args) ts h λo=>∃v h',o=.val v h'/\v=.bool true) 
 (r:Rep ⟨w.heap.size,w,P,D⟩ σ h w) (hgl:GL σ) (hv:VRs σ args args'.toList):Calls P f args' w λe w'=>e=.returned (.bool true)/\Below w.heap.size w w' :=
 (AA hP hb rfl r hgl hv).mono λe w' ⟨v,h',v',σ',⟨_,_,e1,e2⟩,he,_,hv',r'⟩=>by
  cases e1;subst e2;simp only[VR]at hv';subst hv';exact⟨he,r'.below⟩
theorem law_of_C(hP:P.follows .mixedOrders=true)(hs:Jm P ms)(hd:Det (xF P ms) RPm)(hc:C RPm f args h λr _=>r=.bool true) 
 (r:Rep ⟨w.heap.size,w,P,D⟩ σ h w) (hgl:GL σ) (hv:VRs σ args args'.toList):Calls P f args' w λe w'=>e=.returned (.bool true)/\Below w.heap.size w w' :=
 EP (MV hP hs) (Nb hd hc) r hgl hv
def IsRowE(k:IntKind)(e:Nat)(w:World)(a:Option Addr)(len cap:Nat)(zs:List Int):Prop :=
 (a=none/\len=0/\cap=0/\zs=[]) \/
 ∃x,a=some x/\len<=cap/\cap<=maxLen/\zs.length=cap*e/\(∀i,i<zs.length->w.cell? (x.add i)=some (.int k (zs.getD i 0)))/\∀n∈zs,(Lit.int k n).wf=true
structure St0(K:Bs)(σ:Sg)(h:AH)(w:World):Prop where
 rep:Rep K σ h w
 gl:GL σ
 nx:h.next=NG
 iJ:∀b o,h.get b=some o->∃(k:IntKind) (zs:List Int),o=.cells (zs.map (AV.int k)) 1 true
 ty:∀b,h.tyOf b=none
theorem St0.zero(P:Program)(w:World):St0 ⟨w.heap.size,w,P,[]⟩ Sg.zero AH.zero w :=
 ⟨Rep.zero P w,GL.zero,rfl,(λb o h=>by rw[AH.get_zero]at h;cases h),(λb=>by unfold AH.tyOf AH.zero;simp[T.get])⟩
theorem Rep.dummy(r:Rep K σ h w):∃σ',σ.le σ'/\Rep K σ' (h.new (.cells [] 1 true)) w :=
 ⟨σ.add h.next ⟨0,0,1,0,0⟩,Sg.le_add r.fresh,r.came [] 1 ⟨0,0,1,0,0⟩ rfl (.inl rfl)⟩
theorem Rep.outer(r:Rep K σ h w)(hB:K.B=w.heap.size){x:Addr}{vs:List AV}{Y:Nat->Value}(hsp:x.spot=none)(h1:len<=cap)(hl:vs.length=len)
 (hc:∀i,i<cap->w.cell? (x.add i)=some (Y i)) (hv:∀i v,vs[i]?=some v->VR σ v (Y i)) :
 ∃σ',σ.le σ'/\Rep K σ' (h.new (.cells vs 1 true)) w/\VR σ' (.sl h.next 0 len len) (.slice (some x) len cap):=by
 have hadd:∀j,x.add j=⟨x.block,x.off+j,none⟩:=by
  intro j;obtain⟨xb,xo,xs⟩:=x;simp only at hsp;subst hsp;exact Addr.add_lit _ _ _
 have hx:x=⟨x.block,x.off,none⟩:=by
  obtain⟨xb,xo,xs⟩:=x;simp only at hsp;subst hsp;rfl
 by_cases hz:cap=0
 .have hl0:len=0:=om;subst hz;subst hl0;have hvs:vs=[]:=bF.1 hl;subst hvs;refine⟨σ.add h.next ⟨x.block,x.off,1,0,0⟩,Sg.le_add r.fresh,r.came [] 1 _ rfl (.inl rfl),?_⟩;simp only[VR];exact⟨_,x.off,0,Sg.add_at _ _ _,by rw[<-hx],.inl trivial,ab _,ab _,.inl rfl⟩
 .have h40:=hc 0 om;rw[hadd]at h40;unfold World.cell? at h40;simp only at h40;split at h40
  .rename_i C t fr hC
   have hall:∀i,i<cap->C[x.off+i]?=some (Y i):=by
    intro i hi;have:=hc i hi;rw[hadd]at this;simpa[World.cell?,hC]using this
   have hN:x.off+cap<=C.size:=by
    have hlt:=(cY.1 (hall (cap-1) om)).1;omega
   have hblk:x.block<w.heap.size:=(cY.1 hC).1;refine⟨σ.add h.next ⟨x.block,x.off,1,C.size,t⟩,Sg.le_add r.fresh,r.came vs 1 _ rfl (.inr ⟨by rw[hB];exact hblk,fun τ hτ=>?_⟩),?_⟩
   .refine⟨C,t,fr,hC,rfl,rfl,?_,λj y hy=>?_,λq=>(by cases q),rfl⟩
    .show x.off+_<=C.size;omega
    .have hj:=(aF.1 hy).1;exact⟨Y j,hall j om,VR.mono hτ _ _ (hv j y hy)⟩
   .simp only[VR];refine⟨_,x.off,cap,Sg.add_at _ _ _,by rw[<-hx],.inr (by simp),h1,ab _,.inr ⟨ab _,?_⟩⟩;show x.off+cap*1<=C.size;omega
  .cases h40
theorem Rep.rowB(r:Rep K σ h w)(hB:K.B=w.heap.size){k:IntKind}{a:Option Addr}{zs:List Int}(h1:len<=cap)(h3:zs.length=cap)(hn:a=none->cap=0)
 (hc:∀x,a=some x->∀i,i<cap->w.cell? (x.add i)=some (.int k (zs.getD i 0))) :
 ∃σ' o v,σ.le σ'/\Rep K σ' (h.new o) w/\VR σ' v (.slice a len cap)/\(((v=.nils\/v=.emp)/\len=0)\/(v=.sl h.next 0 len len/\o=.cells ((zs.take len).map (AV.int k)) 1 true)):=by
 cases a with
 |none =>
   have hz:=hn rfl;have hl0:len=0:=om;subst hz;subst hl0;obtain⟨σ',q1,q2⟩:=r.dummy;exact⟨σ',_,.nils,q1,q2,by simp[VR],.inl ⟨.inl rfl,rfl⟩⟩
 |some x =>
   by_cases hz:cap=0
   .have hl0:len=0:=om;subst hz;subst hl0;obtain⟨σ',q1,q2⟩:=r.dummy;exact⟨σ',_,.emp,q1,q2,by simp[VR],.inl ⟨.inr rfl,rfl⟩⟩
   .have hsp:x.spot=none:=by
     have:=hc x rfl 0 om;have e:x.add 0=x:=rfl;rw[e]at this;unfold World.cell? at this;split at this
     .split at this
      .cases this
      .rename_i hs
       cases hq:x.spot with
       |none=>rfl
       |some s=>rw[hq]at hs;simp at hs
     .cases this
    obtain⟨σ',q1,q2,q3⟩:=r.outer hB (vs:=(zs.take len).map (AV.int k)) (Y:=λi=>.int k (zs.getD i 0)) hsp h1 (by rw[ah,bK];omega) (hc x rfl) (λi v hv=>by
     rw[aG]at hv;cases hq:(zs.take len)[i]? with
     |none=>rw[hq]at hv;cases hv
     |some u =>
       rw[hq]at hv;simp only[aC,aa]at hv;subst hv;rw[cM]at hq;split at hq
       .rw[aj,hq];simp[VR]
       .cases hq)
    exact⟨σ',_,_,q1,q2,q3,.inr ⟨rfl,rfl⟩⟩
structure NRow where
 a:Option Addr
 len:Nat
 cap:Nat
 zs:List Int
end Go.Am
