/- Each operation of the clean machine is the model's -/
import Derived.Test.YtklpoimdclflmaaGreatDoorTAmRel
import Derived.Test.YtklpoimdclflmaaGreatDoorTAmComp
import Derived.Laws.Tables
import Derived.Laws.Append
import Derived.Laws.Slices
import Derived.Laws.Strings
import Derived.Laws.Concat
import Derived.Laws.IdiomStrings
import Derived.Laws.MakeOwn
import Derived.Laws.StructEq
import Derived.LaidEql
import Derived.ChangeKeysEq
set_option linter.all false
namespace Go.Am
open Go.RowKit
def DR{σ:Sg}{v:Value}{a:AV}(h:LC v=some a):VR σ a v:=by
 unfold LC at h;split at h<;>first|(cases h;done)|(simp only[aa]at h;subst h;simp[VR])
def Aw{σ:Sg}:∀{vs:List Value}{as:List AV},Fy vs=some as->VRs σ as vs
 |[],as,h=>by simp only[Fy,aa]at h;subst h;rfl
 |v::r,as,h=>by
   unfold Fy at h;split at h
   .rename_i a as' h1 h2
    simp only[aa]at h;subst h;simp only[VRs];exact⟨v,r,rfl,DR h1,Aw h2⟩
   .cases h
def Cs{σ:Sg}{v:Value}{a:AV}(h:ofV v=some a):VR σ a v:=by
 unfold ofV at h;split at h
 .rename_i cs
  cases h1:Fy cs.toList with
  |none=>simp[h1]at h
  |some as =>
    simp only[h1,aQ,aa]at h;subst h;simp only[VR];exact⟨cs.toList,by simp,Aw h1⟩
 .rename_i vs
  split at h
  .rename_i he
   simp only[aa]at h;subst h;simp only[AV.un,VR,VRs];refine⟨[],?_,rfl⟩;simp at he;simp[he]
  .cases h
 .exact DR h
def VR.un{σ:Sg}:VR σ AV.un undef:=by simp[AV.un,VR,VRs,undef]
def TR.put{σ:Sg}{ts:Tm}{tmps:Array Value}(h:TR σ ts tmps){d:Nat}(hd:d<tmps.size){v:AV}{v':Value}(hv:VR σ v v'):TR σ (qV ts d v) (tmps.setIfInBounds d v'):=⟨λn=>by
 rw[fD];by_cases e:d=n
 .subst e;simp[hd,hv]
 .have:=h.1 n;simp only[e,if_false];rw[dU]at this |-;rw[Array.getElem?_setIfInBounds_ne e];exact this,h.2⟩
def cN{σ:Sg}{ts:Tm}{a:Act}(ht:TR σ ts a.tmps){x:Operand}{rx:RO}(h:cO x=some rx):VR σ (rx.ev ts) (a.eval x):=by
 cases x with
 |tmp t=>simp only[cO,aa]at h;subst h;exact ht.1 t
 |const v =>
   simp only[cO]at h;cases h1:ofV v with
   |none=>simp[h1]at h
   |some av=>simp only[h1,aQ,aa]at h;subst h;exact Cs h1
 |global g =>
   simp only[cO]at h;split at h
   .rename_i hg
    simp only[aa]at h;subst h;obtain⟨i,h1,h2,h3⟩:=ht.2 g hg;simp only[RO.ev,Act.eval,VR];exact⟨i,h1,by rw[h2,h3]⟩
   .cases h
 |func f=>simp only[cO,aa]at h;subst h;simp[RO.ev,Act.eval,VR,VRs]
def qK{σ:Sg}{ts:Tm}{a:Act}(ht:TR σ ts a.tmps):∀{xs:List Operand}{rs:List RO},cOs xs=some rs->VRs σ (rs.map (RO.ev ts)) (xs.map a.eval)
 |[],rs,h=>by simp only[cOs,aa]at h;subst h;rfl
 |x::r,rs,h=>by
   unfold cOs at h;split at h
   .rename_i y ys h1 h2
    simp only[aa]at h;subst h;simp only[bO,VRs];exact⟨_,_,rfl,cN ht h1,qK ht h2⟩
   .cases h
def Yields(P:Program)(K:Bs)(σ:Sg)(s:Sem Next)(w:World)(v:AV)(h':AH):Prop :=
 ∃nx v' w' σ',s.run P w=.ok nx w'/\(nx=.value v'\/(nx=.skip/\v'=undef))/\σ.le σ'/\VR σ' v v'/\Rep K σ' h' w'
section
variable {a:Act}{a' i' v':Value}{cs xs:List AV}{fd:Field}{fs:Array Field}{g:Bool}{h':AH}{hi lo mx:Option Operand}{j:Nat}{k:IntKind}{ks:List IntKind}{op:BinOp}{ps:Array (Nat×Operand)}{rhi rlo rmx:Option RO}{s:Sem Next}{ts:Tm}{v x:AV}{vs:List Value}{y:Int}
variable {P:Program}{K:Bs}{σ:Sg}{h:AH}{w:World}
def Yields.same(r:Rep K σ h w)(hr:s.run P w=.ok (.value v') w)(hv:VR σ v v'):Yields P K σ s w v h :=
 ⟨_,v',w,σ,hr,.inl rfl,Sg.le_refl σ,hv,r⟩
def Yields.newCells(r:Rep K σ h w)(cs:List AV)(e:Nat)(C:Array Value)(t:TypeId)(fr:Nat×Nat)(v':Value)(w1:World)(hw:w1=w\/w1=w.drew)
 (hr:s.run P w=.ok (.value v') (w1.alloc (.cells C t fr))) (hle:cs.length<=C.size) (hc:∀(j:Nat) (x:AV),cs[j]?=some x->∃y:Value,C[j]?=some y/\VR σ x y)
 (hf0:fr.1<=fr.2) (hf:∀k,k<C.size->¬(fr.1<=k/\k<fr.2))
 (hv:∀τ:Sg,τ h.next=some { blk:=w.heap.size,d:=0,esz:=e,N:=C.size,ty:=t}->VR τ v v'):Yields P K σ s w v (h.new (.cells cs e false)):=by
 have r1:Rep K σ h w1:=by
  rcases hw with rfl|rfl
  .exact r
  .exact r.drew
 have hs:w1.heap.size=w.heap.size:=by
  rcases hw with rfl|rfl<;>rfl
 refine⟨_,v',_,_,hr,.inl rfl,Sg.le_add r.fresh,hv _ (Sg.add_at _ _ _),r1.new (.cells cs e false) _ { blk:=w.heap.size,d:=0,esz:=e,N:=C.size,ty:=t} hs.symm ?_⟩;intro τ hτ;refine⟨C,t,fr,?_,rfl,rfl,by simpa using hle,λj x hx=>?_,λ_=>⟨⟨r.le,hf0⟩,λk hk=>hf k hk⟩,rfl⟩
 .rw[<-hs];show(w1.heap.push _)[w1.heap.size]?=_;simp
 .obtain⟨y,hy,ry⟩:=hc j x hx;exact⟨y,by simpa using hy,VR.mono hτ _ _ ry⟩
def Yields.newCellsX(cs:List AV)(e:Nat)(C:Array Value)(t:TypeId)(fr:Nat×Nat)(v':Value)(w1:World)(r1:Rep K σ h w1)(hs:w1.heap.size=w.heap.size)
 (hr:s.run P w=.ok (.value v') (w1.alloc (.cells C t fr))) (hle:cs.length<=C.size) (hc:∀(j:Nat) (x:AV),cs[j]?=some x->∃y:Value,C[j]?=some y/\VR σ x y)
 (hf0:fr.1<=fr.2) (hf:∀k,k<C.size->¬(fr.1<=k/\k<fr.2))
 (hv:∀τ:Sg,τ h.next=some { blk:=w.heap.size,d:=0,esz:=e,N:=C.size,ty:=t}->VR τ v v') (tg:Option Nat) (htg:∀u,tg=some u->u=t):Yields P K σ s w v (h.newG (.cells cs e false) tg):=by
 have r2:Rep K (σ.add h.next { blk:=w.heap.size,d:=0,esz:=e,N:=C.size,ty:=t}) (h.new (.cells cs e false)) (w1.alloc (.cells C t fr)):=by
  refine r1.new (.cells cs e false) _ { blk:=w.heap.size,d:=0,esz:=e,N:=C.size,ty:=t} hs.symm ?_;intro τ hτ;refine⟨C,t,fr,?_,rfl,rfl,by simpa using hle,λj x hx=>?_,λ_=>⟨⟨by have:=r1.le;show K.B<=w.heap.size;omega,hf0⟩,λk hk=>hf k hk⟩,rfl⟩
  .rw[<-hs];show(w1.heap.push _)[w1.heap.size]?=_;simp
  .obtain⟨y,hy,ry⟩:=hc j x hx;exact⟨y,by simpa using hy,VR.mono hτ _ _ ry⟩
 refine⟨_,v',_,_,hr,.inl rfl,Sg.le_add r1.fresh,hv _ (Sg.add_at _ _ _),?_⟩;cases tg with
 |none=>exact r2
 |some u =>
   have:=htg u rfl;subst this;exact r2.typed rfl (.inr rfl)
def Yields.newCellsG(r:Rep K σ h w)(cs:List AV)(e:Nat)(C:Array Value)(t:TypeId)(fr:Nat×Nat)(v':Value)(w1:World)(hw:w1=w\/w1=w.drew)
 (hr:s.run P w=.ok (.value v') (w1.alloc (.cells C t fr))) (hle:cs.length<=C.size) (hc:∀(j:Nat) (x:AV),cs[j]?=some x->∃y:Value,C[j]?=some y/\VR σ x y)
 (hf0:fr.1<=fr.2) (hf:∀k,k<C.size->¬(fr.1<=k/\k<fr.2))
 (hv:∀τ:Sg,τ h.next=some { blk:=w.heap.size,d:=0,esz:=e,N:=C.size,ty:=t}->VR τ v v') (tg:Option Nat) (htg:∀u,tg=some u->u=t):Yields P K σ s w v (h.newG (.cells cs e false) tg):=by
 have r1:Rep K σ h w1:=by
  rcases hw with rfl|rfl
  .exact r
  .exact r.drew
 have hs:w1.heap.size=w.heap.size:=by
  rcases hw with rfl|rfl<;>rfl
 exact newCellsX cs e C t fr v' w1 r1 hs hr hle hc hf0 hf hv tg htg
def YL(P:Program)(K:Bs)(σ:Sg)(h:AH)(s:Sem Next)(w:World)(f:Nat->AV)(o:AO)(tg:Option Nat):Prop :=
 ∃(v':Value) (w1:World) (x:Obj) (i:Pl),s.run P w=.ok (.value v') (w1.alloc x)/\Rep K σ h w1/\i.blk=w1.heap.size/\(∀τ,σ.le τ->ObjR K τ (w1.alloc x) i o)/\(∀τ n,σ.le τ->τ n=some i->VR τ (f n) v')/\∀t,tg=some t->i.ty=t/\i.d=0
def YL.at{f:Nat->AV}{o:AO}{tg:Option Nat}{n:Nat}(hn:h.get n=some .resv)(hy:YL P K σ h s w f o tg):Yields P K σ s w (f n) (h.putG n o tg):=by
 obtain⟨v',w1,x,i,h1,r1,h2,h3,h4,h5⟩:=hy;have hle:σ.le (σ.add n i):=Sg.le_add (r1.freshAt hn);exact⟨_,v',_,_,h1,.inl rfl,hle,h4 _ _ hle (Sg.add_at _ _ _),r1.newAt hn o x i h2 h3 tg h5⟩
def YL.cells{s:Sem Next}{f:Nat->AV}(r:Rep K σ h w)(cs:List AV)(e:Nat)(C:Array Value)(t:TypeId)(fr:Nat×Nat)(v':Value)(w1:World)(hw:w1=w\/w1=w.drew)
 (hr:s.run P w=.ok (.value v') (w1.alloc (.cells C t fr))) (hle:cs.length<=C.size) (hc:∀(j:Nat) (x:AV),cs[j]?=some x->∃y:Value,C[j]?=some y/\VR σ x y)
 (hf0:fr.1<=fr.2) (hf:∀k,k<C.size->¬(fr.1<=k/\k<fr.2))
 (hv:∀(τ:Sg) (n:Nat),τ n=some { blk:=w.heap.size,d:=0,esz:=e,N:=C.size,ty:=t}->VR τ (f n) v') (tg:Option Nat) (htg:∀u,tg=some u->t=u):YL P K σ h s w f (.cells cs e false) tg:=by
 have r1:Rep K σ h w1:=by
  rcases hw with rfl|rfl
  .exact r
  .exact r.drew
 have hs:w1.heap.size=w.heap.size:=by
  rcases hw with rfl|rfl<;>rfl
 refine⟨v',w1,_,{ blk:=w.heap.size,d:=0,esz:=e,N:=C.size,ty:=t},hr,r1,hs.symm,?_,fun τ n _ hn=>hv τ n hn,λu hu=>⟨htg u hu,rfl⟩⟩;intro τ hτ;refine⟨C,t,fr,?_,rfl,rfl,by simpa using hle,λj x hx=>?_,λ_=>⟨⟨by have:=r1.le;show K.B<=w.heap.size;omega,hf0⟩,λk hk=>hf k hk⟩,rfl⟩
 .rw[<-hs];show(w1.heap.push _)[w1.heap.size]?=_;simp
 .obtain⟨y,hy,ry⟩:=hc j x hx;exact⟨y,by simpa using hy,VR.mono hτ _ _ ry⟩
def Yields.congrRun{s':Sem Next}(he:s.run P w=s'.run P w)(hy:Yields P K σ s' w v h'):Yields P K σ s w v h':=by
 obtain⟨nx,v',w',σ',h1,h2⟩:=hy;exact⟨nx,v',w',σ',by rw[he];exact h1,h2⟩
def dA{t:TypeId}{n:Nat}(hs:eU P t=some n)(w:World):(sizeOf t).run P w=.ok n w:=by
 unfold eU at hs;cases hi:P.info? t with
 |none=>simp[hi]at hs
 |some i=>simp[hi]at hs;simp[sizeOf,typeInfo,hi,hs]
def fh{t:TypeId}{z:List AV}(hz:gu P t=some z):∃i zv,P.info? t=some i/\i.zero=some zv/\∀σ,VRs σ z zv.cells.toList:=by
 unfold gu at hz;cases hi:P.info? t with
 |none=>simp[hi]at hz
 |some i =>
   cases hzv:i.zero with
   |none=>simp[hi,hzv]at hz
   |some zv =>
     simp only[hi,hzv,tV]at hz;cases ho:ofV zv with
     |none=>simp[ho]at hz
     |some av =>
       simp only[ho,aQ,aa]at hz;subst hz;exact⟨i,zv,rfl,hzv,fun σ=>(Cs ho).cells⟩
def ke{t:TypeId}(ha:qi P t=some g)(w:World):(isAgg t).run P w=.ok g w:=by
 unfold qi at ha;cases hu:P.underlying t with
 |none=>simp[hu]at ha
 |some d=>simp only[hu,aQ,aa]at ha;cases d<;>simp_all[isAgg,run_underlying hu]
def sK{t:TypeId}{n:Nat}(hl:uX P t=some (g,n)):qi P t=some g/\eU P t=some n/\(g=false->n=1):=by
 unfold uX at hl;split at hl<;>simp_all
def tr{t:TypeId}{n:Nat}(hl:uX P t=some (g,n))(r:Rep K σ h w){b o:Nat}(hr:ai h b o n=some cs){i:Pl}(hi:σ b=some i) 
 (hp:qb g cs=some v):∃v',(loadVar t ⟨i.blk,i.d+o,none⟩).run P w=.ok v' w/\VR σ v v':=by
 obtain⟨ha,hs,h1⟩:=sK hl;obtain⟨vs,hvs,hlen,hc⟩:=r.rd hr hi;have hadd:∀j,(⟨i.blk,i.d+o,none⟩:Addr).add j=⟨i.blk,i.d+o+j,none⟩:=λj=>by unfold Addr.add;split<;>simp_all
 have hld:(loadCells ⟨i.blk,i.d+o,none⟩ n).run P w=.ok vs.toArray w:=by
  rw[<-hlen];exact run_loadCells_list w _ vs (λj v hv=>by rw[hadd];exact hc j v hv)
 cases g with
 |true =>
   simp only[qb,if_true,aa]at hp;subst hp;exact⟨.agg vs.toArray,by simp[loadVar,ke ha,dA hs,hld],by simp only[VR];exact⟨vs,rfl,hvs⟩⟩
 |false =>
   have h1':=h1 rfl;subst h1';simp only[qb,bT,if_false]at hp;cases cs with
   |nil=>cases hp
   |cons c r' =>
     cases r' with
     |cons _ _=>cases hp
     |nil =>
       simp only[aa]at hp;subst hp;simp only[VRs]at hvs;obtain⟨x,xs,rfl,hx,rfl⟩:=hvs;have h0:=hc 0 x (by simp);simp only[eB]at h0;exact⟨x,by simp[loadVar,ke ha,h0],hx⟩
def Hd{t:TypeId}{n:Nat}(hl:uX P t=some (g,n))(r:Rep K σ h w){a:AV}(ha:VR σ a a') 
 (he:qf h g n a=some (v,h')):Yields P K σ (do pure (.value (<-Instr.loadAt t a'))) w v h':=by
 cases a<;>simp only[qf,reduceCtorEq]at he
 case ptr b o =>
  simp only[VR]at ha;obtain⟨i,hi,rfl⟩:=ha;cases hr:ai h b o n with
  |none=>simp[hr]at he
  |some cs =>
    cases hp:qb g cs with
    |none=>simp[hr,hp]at he
    |some x =>
      simp only[hr,hp,aQ,aa,aq]at he;obtain⟨rfl,rfl⟩:=he;obtain⟨v',hv',rv⟩:=tr hl r hr hi hp;exact Yields.same r (by simp[Instr.loadAt,Instr.sureAddr,hv']) rv
def VRs.all_one{σ:Sg}:∀{a:List AV}{v:List Value},VRs σ a v->a.all AV.one=true->∀x∈v,x.oneCell'=true
 |[],v,e,_=>by simp only[VRs]at e;subst e;simp
 |c::cs,v,e,h=>by
   simp only[VRs]at e;obtain⟨x,xs,rfl,h1,h2⟩:=e;simp only[gQ,aU]at h;intro y hy;simp only[aF]at hy;rcases hy with rfl|hy
   .exact h1.one h.1
   .exact VRs.all_one h2 h.2 y hy
def EL{t:TypeId}{n:Nat}(hs:eU P t=some n)(r:Rep K σ h w){a:AV}{x':Value}(ha:VR σ a a')(hx:VR σ x x') 
 (he:my h n a x=some (v,h')) :
 Yields P K σ (do Instr.storeAt t a' x';pure .skip) w v h':=by
 cases a<;>simp only[my,reduceCtorEq]at he
 case ptr b o =>
  simp only[VR]at ha;obtain⟨i,hi,rfl⟩:=ha;split at he
  .rename_i hc
   cases hw:bP h b o x.cells with
   |none=>simp[hw]at he
   |some h2 =>
     simp only[hw,aQ,aa,aq]at he;obtain⟨rfl,rfl⟩:=he;obtain⟨i',hi',h1,h2,h3⟩:=r.wr hw hx.cells;rw[hi]at hi';simp only[aa]at hi';subst hi';have hst:=run_storeCells_cells (P:=P) i.blk (i.d+o) x'.cells.toList 0 w (by simpa using h1) (by simpa using h2) (VRs.all_one hx.cells hc.2);have hl:x'.cells.size=n:=by have:=hx.cells.length;simp at this;omega
     refine⟨.skip,undef,_,σ,?_,.inr ⟨rfl,rfl⟩,Sg.le_refl σ,VR.un,h3⟩;simp[Instr.storeAt,Instr.sureAddr,storeVar,dA hs,hl,hst]
  .cases he
def EQ{t:TypeId}{z:List AV}{e:Nat}(hz:gu P t=some z)(r:Rep K σ h w):Yields P K σ (do pure (.value (<-Instr.alloc t true (.tuple #[])))) w (.ptr h.next 0) (h.new (.cells z e false)):=by
 obtain⟨i,zv,hi,hzv,hrel⟩:=fh hz;refine Yields.newCells r z e zv.cells t (0,0) (.pointer (some ⟨w.heap.size,0,none⟩)) w (.inl rfl) ?_ ?_ ?_ (by simp) ?_ ?_
 .simp[Instr.alloc,zeroValue,typeInfo,hi,hzv,newVar,newRow]
 .have:=(hrel σ).length;simp at this;omega
 .intro j x hx;obtain⟨y,hy,ry⟩:=(hrel σ).get hx;exact⟨y,by simpa using hy,ry⟩
 .intro k _;simp
 .intro τ hτ;simp only[VR];exact⟨_,hτ,by simp⟩
def BX{t:TypeId}{z:List AV}{e:Nat}(hz:gu P t=some z)(r:Rep K σ h w):Yields P K σ (do pure (.value (<-Instr.alloc t true (.tuple #[])))) w (.ptr h.next 0) (h.newT (.cells z e false) t):=by
 obtain⟨i,zv,hi,hzv,hrel⟩:=fh hz;refine Yields.newCellsG r z e zv.cells t (0,0) (.pointer (some ⟨w.heap.size,0,none⟩)) w (.inl rfl) ?_ ?_ ?_ (by simp) ?_ ?_ (some t) (λu hu=>(Option.some.inj hu).symm)
 .simp[Instr.alloc,zeroValue,typeInfo,hi,hzv,newVar,newRow]
 .have:=(hrel σ).length;simp at this;omega
 .intro j x hx;obtain⟨y,hy,ry⟩:=(hrel σ).get hx;exact⟨y,by simpa using hy,ry⟩
 .intro k _;simp
 .intro τ hτ;simp only[VR];exact⟨_,hτ,by simp⟩
def Lc{t:TypeId}{e n:Nat}(r:Rep K σ h w){x':Value}(hx:VR σ x x') 
 (he:Gy h e n x=some (v,h')):Yields P K σ (do pure (.value (<-Instr.box t x'))) w v h':=by
 unfold Gy at he;split at he
 .simp only[aa,aq]at he;obtain⟨rfl,rfl⟩:=he;refine Yields.newCells r x.cells e x'.cells t (0,0) (.pointer (some ⟨w.heap.size,0,none⟩)) w (.inl rfl) ?_ ?_ ?_ (by simp) ?_ ?_
  .simp[Instr.box,newVar,newRow]
  .have:=hx.cells.length;simp at this;omega
  .intro j y hy;obtain⟨z,hz,rz⟩:=hx.cells.get hy;exact⟨z,by simpa using hz,rz⟩
  .intro k _;simp
  .intro τ hτ;simp only[VR];exact⟨_,hτ,by simp⟩
 .cases he
def FP:∀(l:List Value) (k:Nat) (off:Nat) (acc:Array Value),off+k+l.length<=acc.size ->
 ((l.zipIdx k).foldl (λcs (x:Value×Nat)=>cs.setIfInBounds (off+x.2) x.1) acc).size=acc.size /\
 ∀j:Nat,((l.zipIdx k).foldl (λcs (x:Value×Nat)=>cs.setIfInBounds (off+x.2) x.1) acc)[j]?=if off+k<=j/\j<off+k+l.length then l[j-(off+k)]? else acc[j]?:=by
 intro l;induction l with
 |nil=>intro k off acc h;refine⟨rfl,λj=>?_⟩;simp;intro h1 h2;omega
 |cons v r ih =>
   intro k off acc h;simp only[bd]at h;simp only[List.zipIdx_cons,iH];obtain⟨h1,h2⟩:=ih (k+1) off (acc.setIfInBounds (off+k) v) (by simp;omega);refine⟨by simpa using h1,λj=>?_⟩;rw[h2 j,fw];simp only[bd];by_cases hj:off+k=j
   .subst hj;rw[if_neg om,if_pos rfl,if_pos om,if_pos om];simp
   .by_cases hr:off+k<=j/\j<off+k+(r.length+1)
    .rw[if_pos om,if_pos hr,show j-(off+k)=(j-(off+(k+1)))+1 from by omega];simp
    .rw[if_neg om,if_neg hj,if_neg hr]
def Lh{a:List AV}{va vcs:Array Value}(ha:VRs σ a va.toList)(hc:VRs σ cs vcs.toList)(o:Nat)(hle:o+cs.length<=a.length) :
 VRs σ (dG a o cs) (vcs.zipIdx.foldl (λcs (y:Value×Nat)=>cs.setIfInBounds (o+y.2) y.1) va).toList:=by
 have l1:=ha.length;have l2:=hc.length;simp only[bU]at l1 l2;rw[<-Array.foldl_toList,Array.toList_zipIdx];obtain⟨h1,h2⟩:=FP vcs.toList 0 o va (by simp;omega);refine VRs.of_get (by rw[pX _ _ _ hle];simpa[l1]using h1) λj x hx=>?_;rw[uw _ _ _ hle]at hx;rw[eJ,h2 j];simp only[bU,eB];by_cases hj:o<=j/\j<o+cs.length
 .rw[if_pos hj]at hx;rw[if_pos om];exact hc.get hx
 .rw[if_neg hj]at hx;rw[if_neg om];obtain⟨y,hy,ry⟩:=ha.get hx;exact⟨y,by simpa using hy,ry⟩
def lS{ts:Tm}{a:Act}(ht:TR σ ts a.tmps)(place:Nat->Option (Nat×Nat)):∀(ps:List (Nat×Operand)) (rs:List (Nat×Nat×RO)) (cs:List AV) (vs:Array Value) (out:List AV),
 kC place ps=some rs->VRs σ cs vs.toList->fill (RO.ev ts) cs rs=some out ->
 ∃vo:Array Value,Instr.fill place vs (ps.map λ(i,x)=>(i,a.eval x))=some vo/\VRs σ out vo.toList
 |[],rs,cs,vs,out,hp,hv,hf=>by
   simp only[kC,aa]at hp;subst hp;simp only[fill,aa]at hf;subst hf;exact⟨vs,by simp[Instr.fill],hv⟩
 |(i,x)::r,rs,cs,vs,out,hp,hv,hf=>by
   unfold kC at hp;split at hp
   .rename_i o n rx rr h1 h2 h3
    simp only[aa]at hp;subst hp;simp only[fill]at hf;split at hf
    .rename_i hc
     have hx:=(cN (a:=a) ht h2).cells;have hl:=hx.length;have hl2:=hv.length;have hl3:(a.eval x).cells.size=n:=by simp at hl;omega
     have hl4:o+n<=vs.size:=by simp at hl2;omega
     obtain⟨vo,h4,h5⟩:=lS ht place r rr _ (((a.eval x).cells.zipIdx.foldl (λcs (y:Value×Nat)=>cs.setIfInBounds (o+y.2) y.1) vs)) out h3 (Lh hv hx o om) hf;refine⟨vo,?_,h5⟩;simp only[bO,Instr.fill,h1];rw[if_neg]
     .exact h4
     .simp[hl3];omega
    .cases hf
   .cases hp
def Dd{fs:List Field}:ui P fs=fs.mapM (λf=>(P.info? f.type).map λi=>(f.offset,i.size)):=by
 unfold ui eU;congr 1;funext f;cases P.info? f.type<;>rfl
def EP(ht:TR σ ts a.tmps){t:TypeId}{z:List AV}{rs:List (Nat×Nat×RO)}
 (hc:(match P.underlying t,gu P t with
  |some (.struct fs),some z=>match ui P fs.toList with
    |some pl=>(kC (pl[·]?) ps.toList).map (ROp.build z)
    |none=>none
  |some (.array _ e),some z=>match eU P e with
    |some n=>(kC (λi=>some (i*n,n)) ps.toList).map (ROp.build z)
    |none=>none
  |_,_=>none)=some (.build z rs)) (r:Rep K σ h w) {out:List AV} (he:fill (RO.ev ts) z rs=some out) :
 Yields P K σ (do pure (.value (<-Instr.build t (ps.map λ(i,x)=>(i,a.eval x))))) w (.agg out) h:=by
 have key:∃vo:Array Value,P.built t ((ps.map λ(i,x)=>(i,a.eval x)).toList)=some vo/\VRs σ out vo.toList:=by
  split at hc
  .rename_i fs z' hu hz
   obtain⟨i,zv,hi,hzv,hrel⟩:=fh hz;split at hc
   .rename_i pl hpl
    cases hp:kC (pl[·]?) ps.toList with
    |none=>simp[hp]at hc
    |some rs' =>
      simp only[hp,aQ,aa,ROp.build.injEq]at hc;obtain⟨rfl,rfl⟩:=hc;rw[Dd]at hpl;obtain⟨vo,h1,h2⟩:=lS ht (pl[·]?) ps.toList _ _ zv.cells out hp (hrel σ) he;refine⟨vo,?_,h2⟩;unfold Program.built;simp only[hi,hu,hzv,hpl];simpa using h1
   .cases hc
  .rename_i n e z' hu hz
   obtain⟨i,zv,hi,hzv,hrel⟩:=fh hz;split at hc
   .rename_i m hm
    cases hp:kC (λi=>some (i*m,m)) ps.toList with
    |none=>simp[hp]at hc
    |some rs' =>
      simp only[hp,aQ,aa,ROp.build.injEq]at hc;obtain⟨rfl,rfl⟩:=hc;unfold eU at hm;cases hie:P.info? e with
      |none=>simp[hie]at hm
      |some ie =>
        simp only[hie,aQ,aa]at hm;subst hm;obtain⟨vo,h1,h2⟩:=lS ht (λi=>some (i*ie.size,ie.size)) ps.toList _ _ zv.cells out hp (hrel σ) he;refine⟨vo,?_,h2⟩;unfold Program.built;simp only[hi,hu,hzv,hie];simpa using h1
   .cases hc
  .cases hc
 obtain⟨vo,hb,hv⟩:=key;exact Yields.same (v':=.agg vo) r (by simp[run_build w t _ _ hb]) (by simp only[VR];exact⟨vo.toList,by simp,hv⟩)
def iL(z:List AV):∀n,(cq z n).length=n*z.length
 |0=>by simp[cq]
 |n+1=>by simp[cq,iL z n,dF];omega
def Ai(z:List AV)(hz:0<z.length):∀(n j:Nat),j<n*z.length->(cq z n)[j]?=z[j%z.length]?
 |0,j,h=>by omega
 |n+1,j,h=>by
   unfold cq;rcases eW j z.length with h1|h1
   .rw[bC h1,Nat.mod_eq_of_lt h1]
   .rw[bw h1,Ai z hz n (j-z.length) (by rw[dF]at h;omega)];congr 1;exact(Nat.mod_eq_sub_mod h1).symm
def oZ{z:List AV}{zv:Array Value}(hz:VRs σ z zv.toList)(n:Nat)(hn:z.length≠0\/n=0):VRs σ (cq z n) (((Array.range (n*z.length)).map (zv[· % zv.size]!)).toList):=by
 refine VRs.of_get (by simp[iL]) λj x hx=>?_;have hj:j<n*z.length:=by
  rcases eW j (n*z.length)with h'|h'
  .exact h'
  .rw[bJ (by rw[iL];exact h')]at hx;cases hx
 have h0:0<z.length:=by
  rcases hn with hn|hn
  .omega
  .subst hn;omega
 rw[Ai z h0 n j hj]at hx;obtain⟨y,hy,ry⟩:=hz.get hx;refine⟨y,?_,ry⟩;have hl:zv.size=z.length:=by have:=hz.length;simpa using this
 have hm:j%zv.size<zv.size:=NU _ om;simp only[Array.toList_map,Array.toList_range,aV,da hj,aQ,aa];rw[getElem!_pos zv (j%zv.size) hm];rw[<-hl,eJ,eZ hm]at hy;simpa using hy
def uy(ht:TR σ ts a.tmps){t e:TypeId}{len n:Nat}{z:List AV}{rs:List (Nat×Nat×RO)}
 (hu:P.underlying t=some (.slice e)) (hs:eU P e=some n) (hz:gu P e=some z) (hzl:z.length=n) (hm:len*n<=2^24) (hp:kC (λi=>some (i*n,n)) ps.toList=some rs)
 (r:Rep K σ h w) {out:List AV} (he:fill (RO.ev ts) (cq z len) rs=some out) :
 Yields P K σ (do pure (.value (<-Instr.buildSlice t len (ps.map λ(i,x)=>(i,a.eval x))))) w (.sl h.next 0 len len) (h.new (.cells out n false)):=by
 obtain⟨i,zv,hi,hzv,hrel⟩:=fh hz;have hszv:zv.cells.size=z.length:=by have:=(hrel σ).length;simpa using this
 have hin:i.size=n:=by unfold eU at hs;simp[hi]at hs;exact hs
 have key:∃vo:Array Value,Instr.fill (λi=>some (i*n,n)) ((Array.range (len*n)).map λx=>(if len*n=0 then #[]else zv.cells)[x%(if len*n=0 then #[]else zv.cells).size]!) (ps.map λ(i,x)=>(i,a.eval x)).toList=some vo/\VRs σ out vo.toList:=by
  by_cases h0:len*n=0
  .have hr0:cq z len=[]:=by
    have:=iL z len;rw[hzl,h0]at this;exact aW.1 this
   rw[hr0]at he;obtain⟨vo,h1,h2⟩:=lS ht (λi=>some (i*n,n)) ps.toList rs [] #[] out hp rfl he;refine⟨vo,?_,h2⟩;simp only[h0,if_true,Array.range_zero'];simpa using h1
  .have hmv:=oZ (hrel σ) len (.inl (by intro h1;rw[hzl]at h1;subst h1;exact h0 (by simp)));obtain⟨vo,h1,h2⟩:=lS ht (λi=>some (i*n,n)) ps.toList rs _ _ out hp hmv he;refine⟨vo,?_,h2⟩;simp only[h0,if_false];rw[hzl]at h1;simpa using h1
 obtain⟨vo,hf,hv⟩:=key;refine Yields.newCells r out n vo e (0,0) (.slice (some ⟨w.heap.size,0,none⟩) len len) w (.inl rfl) ?_ ?_ ?_ (by simp) ?_ ?_
 .have h24:¬len*n>2^24:=om;by_cases h0:len*n=0
  .simp only[h0,if_true]at hf;have h24':¬(0:Nat)>2^24:=om;simp only[Instr.buildSlice,Sem.run_bind,run_underlying hu,Result.andThen_ok,dA hs,h0,h24',if_true,if_false,Sem.run_ite,Sem.run_pure];rw[hf];simp[newRow]
  .simp only[h0,if_false]at hf;simp only[Instr.buildSlice,Sem.run_bind,run_underlying hu,Result.andThen_ok,dA hs,h0,h24,if_false,Sem.run_ite,Sem.run_pure,zeroValue,typeInfo,run_program,hi,hzv];rw[hf];simp[newRow]
 .have:=hv.length;simp at this;omega
 .intro j x hx;obtain⟨y,hy,ry⟩:=hv.get hx;exact⟨y,by simpa using hy,ry⟩
 .intro k _;simp
 .intro τ hτ;simp only[VR];exact⟨_,0,len,hτ,rfl,.inr (by simp),ab _,ab _,.inl rfl⟩
def EM(ht:TR σ ts a.tmps){x:Operand}{rx:RO}(hx:cO x=some rx)(o:Oper)(ho:o.op=.nilCheck x)(r:Rep K σ h w)(he:uP (rx.ev ts)=some v) :
 Yields P K σ (execOp a.eval o) w v h:=by
 have hv:=cN (a:=a) ht hx;generalize rx.ev ts=av at *
 cases av<;>simp only[uP,reduceCtorEq,aa]at he<;>subst he<;>have hv':=hv<;>simp only[VR]at hv
 .obtain⟨i,hi,e⟩:=hv;exact Yields.same (v':=.pointer (some _)) r (by simp[execOp,ho,e]) (e▸hv')
 .obtain⟨vs,e,hs⟩:=hv;exact Yields.same (v':=.func _ _ _) r (by simp[execOp,ho,e]) (e▸hv')
 .obtain⟨i,hi,e⟩:=hv;exact Yields.same (v':=.func _ _ _) r (by simp[execOp,ho,e]) (e▸hv')
def Nn{op:UnOp}{x':Value}(hx:VR σ x x')(r:Rep K σ h w)(he:unA op x=some v):Yields P K σ (do pure (.value (<-Op.unary op x'))) w v h:=by
 cases op<;>cases x<;>simp only[unA,reduceCtorEq,aa,aG]at he<;>simp only[VR]at hx<;>subst hx
 .rename_i k n
  subst he;exact Yields.same (v':=.int k (k.wrap (0-n))) r rfl (by simp[VR])
 .rename_i k n
  obtain⟨m,hm,rfl⟩:=he;unfold bits at hm;simp only[aa]at hm;subst hm;exact Yields.same (v':=.int k _) r rfl (by simp only[VR])
 .rename_i b
  subst he;exact Yields.same (v':=.bool (!b)) r rfl (by simp[VR])
def La{s d:TypeId}{k':IntKind}(hs:P.underlying s=some (.int k'))(hd:P.underlying d=some (.int k)){x':Value}(hx:VR σ x x')(r:Rep K σ h w)(he:Jv k x=some v) :
 Yields P K σ (do pure (.value (<-convert s d x'))) w v h:=by
 cases x<;>simp only[Jv,reduceCtorEq,aa]at he
 rename_i k1 n
 subst he;simp only[VR]at hx;subst hx;exact Yields.same (v':=.int k (k.wrap n)) r (by simp[convert,run_underlying hs,run_underlying hd,Conv.intToInt]) (by simp[VR])
def nY:∀{cs:List AV}{s:List UInt8}{vs:List Value},ll cs=some s->VRs σ cs vs->∃ns:List Int,vs=ns.map (Value.int .u8)/\s=ns.map λn=>UInt8.ofNat n.toNat
 |[],s,vs,h,hv=>by
   simp only[ll,aa]at h;simp only[VRs]at hv;subst h hv;exact⟨[],rfl,rfl⟩
 |c::cs,s,vs,h,hv=>by
   simp only[VRs]at hv;obtain⟨x,xs,rfl,h1,h2⟩:=hv;unfold ll at h;split at h
   .rename_i heq;cases heq
   .rename_i n r' heq
    simp only[cy]at heq;obtain⟨rfl,rfl⟩:=heq;simp only[VR]at h1;subst h1;cases hb:ll cs with
    |none=>simp[hb]at h
    |some s' =>
      simp only[hb,aQ,aa]at h;subst h;obtain⟨ns,rfl,rfl⟩:=nY hb h2;exact⟨n::ns,rfl,rfl⟩
   .cases h
def ky:∀(ns:List Int) (s:ByteArray),(ns.foldl (λr n=>r.push (UInt8.ofNat n.toNat)) s).data.toList=s.data.toList++ns.map λn=>UInt8.ofNat n.toNat
 |[],s=>by simp
 |n::ns,s=>by rw[iH,ky ns];simp[ByteArray.push]
def Hn{s d e:TypeId}(hs:P.underlying s=some (.slice e))(hd:P.underlying d=some .string)(hue:P.underlying e=some (.int .u8)){x':Value}(hx:VR σ x x')(r:Rep K σ h w) 
 (he:vJ h x=some v):Yields P K σ (do pure (.value (<-convert s d x'))) w v h:=by
 cases x<;>simp only[vJ,reduceCtorEq,aa]at he
 case nils =>
  subst he;simp only[VR]at hx;subst hx;exact Yields.same (v':=.string .empty) r (by simp[run_convert_bytes_string w s d e none 0 0 hs hue hd,Conv.bytesToString]) (by simp[VR])
 case sl b o n c =>
  simp only[VR]at hx;obtain⟨i,o',c',hi,rfl,hoff,hcc,hnc,_⟩:=hx;cases hr:ai h b o n with
  |none=>simp[hr]at he
  |some cs =>
    cases hb:ll cs with
    |none=>simp[hr,hb]at he
    |some bs =>
      simp only[hr,hb,aQ,aa]at he;subst he;obtain⟨vs,hvs,hlen,hc⟩:=r.rd hr hi;obtain⟨ns,rfl,rfl⟩:=nY hb hvs;have hadd:∀j,(⟨i.blk,i.d+o,none⟩:Addr).add j=⟨i.blk,i.d+o+j,none⟩:=λj=>by unfold Addr.add;split<;>simp_all
      have hld:(loadCells ⟨i.blk,o',none⟩ n).run P w=.ok (ns.map (Value.int .u8)).toArray w:=by
       rcases hoff with h0|h0
       .have:n=0:=om;subst this;have:ns=[]:=by
         have:ns.length=0:=by simpa using hlen
         exact aW.1 this
        subst this;simpa using run_loadCells_list (P:=P) w ⟨i.blk,o',none⟩ [] (by simp)
       .subst h0;rw[<-hlen];exact run_loadCells_list w _ _ (λj v hv=>by rw[hadd];exact hc j v hv)
      refine Yields.same (v':=.string (ns.foldl (λr n=>r.push (UInt8.ofNat n.toNat)) ByteArray.empty)) r ?_ ?_
      .have:=run_bytesToString (P:=P) w ⟨i.blk,o',none⟩ n c' ns hld;simp only[Sem.run_bind,run_convert_bytes_string w s d e (some ⟨i.blk,o',none⟩) n c' hs hue hd,this,Result.andThen_ok,Sem.run_pure]
      .simp only[VR];exact⟨_,rfl,by rw[ky];rfl⟩
def kN(w:World)(n old:Nat)(e:TypeId):n<=grownCap w n old e:=by
 unfold grownCap Question.cut;exact Nat.le_add_right _ _
def qz{s:List UInt8}(h:(jK s)[j]?=some x):∃b:UInt8,s[j]?=some b/\x=.int .u8 b.toNat:=by
 unfold jK at h;rw[aV]at h;cases hs:s[j]? with
 |none=>simp[hs]at h
 |some b=>simp only[hs,aQ,aa]at h;exact⟨b,rfl,h.symm⟩
def Hm{s d e:TypeId}(hs:P.underlying s=some .string)(hd:P.underlying d=some (.slice e))(hue:P.underlying e=some (.int .u8)){x':Value}(hx:VR σ x x')(r:Rep K σ h w) 
 (he:Bq h x=some (v,h')):Yields P K σ (do pure (.value (<-convert s d x'))) w v h':=by
 cases x<;>simp only[Bq,reduceCtorEq,aa,aq]at he;obtain⟨rfl,rfl⟩:=he;simp only[VR]at hx;obtain⟨ba,rfl,rfl⟩:=hx;have hrun:=run_bytes_of_string (P:=P) w s d e ba hs hd hue;have hsz:ba.size=ba.data.toList.length:=by simp
 have hcap:=kN w ba.size 0 e;have hsize:(bytesRow ba (grownCap w ba.size 0 e)).size=grownCap w ba.size 0 e:=by
  have h1:ba.data.size=ba.size:=rfl;simp only[bytesRow,mL,Array.size_map,Array.size_replicate];omega
 refine Yields.newCells r (jK ba.data.toList) 1 (bytesRow ba (grownCap w ba.size 0 e)) e ((bytesRow ba (grownCap w ba.size 0 e)).size,(bytesRow ba (grownCap w ba.size 0 e)).size+1)
  (.slice (some ⟨w.heap.size,0,none⟩) ba.size (grownCap w ba.size 0 e)) w.drew (.inr rfl) ?_ ?_ ?_ (by simp) ?_ ?_
 .simp[hrun]
 .rw[hsize];simp[jK];exact hcap
 .intro j y hy;obtain⟨b,hb,rfl⟩:=qz hy;refine⟨.int .u8 b.toNat,?_,by simp[VR]⟩;have hj:j<ba.data.size:=by have:=(au.1 hb).1;simpa using this
  unfold bytesRow;rw[fJ (by simpa using hj)];rw[eJ]at hb;simp[Array.getElem?_map,hb]
 .intro k hk;simp;omega
 .intro τ hτ;simp only[VR];refine⟨_,0,grownCap w ba.size 0 e,hτ,by rw[hsz],.inr (by simp),by rw[<-hsz];exact hcap,ab _,.inr ⟨by simp,?_⟩⟩;show 0+grownCap w ba.size 0 e*1<=(bytesRow ba (grownCap w ba.size 0 e)).size;omega
def Hl{s e:TypeId}(hs:P.underlying s=some (.slice e))(hue:P.underlying e=some (.int .u8)){x':Value}(hx:VR σ x x')(r:Rep K σ h w) 
 (he:Bp h x=some v):Yields P K σ (do pure (.value (<-convert s s x'))) w v h:=by
 cases x<;>simp only[Bp,reduceCtorEq]at he
 rename_i b o n c
 split at he
 .rename_i cs e1 hg
  simp only[aa]at he;subst he;have hx0:=hx;simp only[VR]at hx;obtain⟨i,o',c',hi,rfl,hoff,hcc,hnc,_⟩:=hx;obtain⟨i2,hi2,C,tt,fr,g1,g2,g3,g4,g5,g6⟩:=r.obj b _ hg rfl;rw[hi]at hi2;simp only[aa]at hi2;subst hi2;obtain⟨⟨hB,hff⟩,hfr⟩:=g6.1 rfl;have hsh:w.shape? i.blk=some (tt,C.size):=by simp[World.shape?,g1]
  have hw1:(w.freeze ⟨i.blk,C.size,none⟩ 1).heap[i.blk]?=some (.cells C tt (if fr.1==fr.2 then(C.size,C.size+1)else(min fr.1 C.size,max fr.2 (C.size+1)))):=by
   simp[World.freeze,ij,g1]
  have hw2:∀k,k≠i.blk->(w.freeze ⟨i.blk,C.size,none⟩ 1).heap[k]?=w.heap[k]?:=by
   intro k hk;simp only[World.freeze,lC,if_false,ij];rw[if_neg (λq=>hk q.symm)]
  have hsz:(w.freeze ⟨i.blk,C.size,none⟩ 1).heap.size=w.heap.size:=by simp[World.freeze]
  refine⟨.value (.slice (some ⟨i.blk,o',none⟩) n c'),.slice (some ⟨i.blk,o',none⟩) n c',w.freeze ⟨i.blk,C.size,none⟩ 1,σ,?_,.inl rfl,Sg.le_refl σ,hx0,?_⟩
  .simp[convert,run_underlying hs,run_underlying hue,markStringish,hsh]
  .have hput:=r.put (w':=w.freeze ⟨i.blk,C.size,none⟩ 1) hg hi rfl (o:=.cells cs e1 false) ?_ hw2 ?_ (by rw[hsz];exact r.le)
   .have hsame:Rep K σ h (w.freeze ⟨i.blk,C.size,none⟩ 1):=by
     refine⟨r.dom,λb' ob hgb hl=>?_,r.own,hput.below,hput.le,r.esz,hput.dfr⟩;have hlt:=AH.lt_of_get hg;obtain⟨j,hj,hr⟩:=hput.obj b' ob (by
      rw[AH.get_put _ _ _ _ hlt];by_cases hbb:b=b'
      .subst hbb;simp only[if_true];rw[hg]at hgb;exact hgb
      .simp only[hbb,if_false];exact hgb) hl
     exact⟨j,hj,hr⟩
    exact hsame
   .have h1:i.N<=fr.1\/fr.1=fr.2:=by
     by_cases q:fr.1<i.N
     .have:=hfr fr.1 q;omega
     .omega
    refine⟨C,tt,_,hw1,g2,g3,g4,g5,λ_=>⟨⟨hB,?_⟩,λk hk=>?_⟩,g6.2⟩
    .by_cases hfe:fr.1=fr.2
     .simp[hfe]
     .have:(fr.1==fr.2)=false:=by simp[hfe]
      simp only[this,bT,if_false];omega
    .by_cases hfe:fr.1=fr.2
     .simp only[hfe,BEq.rfl,if_true];omega
     .have:(fr.1==fr.2)=false:=by simp[hfe]
      simp only[this,bT,if_false];omega
   .exact⟨r.below.os,r.below.tape,r.below.output,by rw[hsz];exact r.below.size,λk hk=>by rw[hw2 k om];exact r.below.block k hk⟩
 .cases he
def Hk{t:TypeId}{f:Nat}{n:Nat}(hu:P.underlying t=some (.struct fs))(hf:fs[f]?=some fd)(hn:eU P fd.type=some (n+1)){x':Value}(hx:VR σ x x')(r:Rep K σ h w) 
 (he:Bd fd.offset x=some v):Yields P K σ (do pure (.value (<-Instr.fieldAt t x' f))) w v h:=by
 cases x<;>simp only[Bd,reduceCtorEq,aa]at he;subst he;simp only[VR]at hx;obtain⟨i,hi,rfl⟩:=hx;refine Yields.same (v':=.pointer (some ⟨i.blk,i.d+_+fd.offset,none⟩)) r ?_ (by simp only[VR];exact⟨i,hi,by rw[fF]⟩);simp[Instr.fieldAt,run_underlying hu,hf,Instr.sureAddr,fieldPlace,dA hn,Addr.add_lit]
def zV{t:TypeId}{n:Nat}(hl:uX P t=some (g,n))(hv:VRs σ cs vs){off:Nat}(hp:wP g cs off n=some v)(w:World) :
 ∃v',(part t vs.toArray off).run P w=.ok v' w/\VR σ v v':=by
 obtain⟨ha,hs,h1⟩:=sK hl;cases g with
 |true =>
   simp only[wP,if_true,aa]at hp;subst hp;refine⟨.agg ((vs.drop off).take n).toArray,?_,by simp only[VR];exact⟨_,rfl,(hv.drop off).take n⟩⟩;simp only[part,Sem.run_bind,ke ha,Result.andThen_ok,if_true,dA hs,Sem.run_pure];congr 2;apply Array.ext';simp[sh]
 |false =>
   simp only[wP,bT,if_false]at hp;obtain⟨y,hy,ry⟩:=hv.get hp;exact⟨y,by simp[part,ke ha,hy],ry⟩
def KU{t:TypeId}{f:Nat}{n:Nat}(hu:P.underlying t=some (.struct fs))(hf:fs[f]?=some fd)(hn:uX P fd.type=some (g,n)){x':Value}(hx:VR σ x x')(r:Rep K σ h w) 
 (he:FQ g fd.offset n x=some v):Yields P K σ (do pure (.value (<-Instr.field t x' f))) w v h:=by
 cases x<;>simp only[FQ,reduceCtorEq]at he;simp only[VR]at hx;obtain⟨vs,rfl,hvs⟩:=hx;obtain⟨v',h1,h2⟩:=zV (P:=P) hn hvs he w;exact Yields.same (v':=v') r (by simp[Instr.field,run_underlying hu,hf,asAgg,h1]) h2
def sR{i:Int}{n:Nat}(h:fe i n=some j):0<=i/\i<n/\i.toNat=j/\j<n:=by
 unfold fe at h;split at h
 .simp only[aa]at h;omega
 .cases h
def Hj{t e:TypeId}{n:Nat}(hu:P.underlying t=some (.slice e))(hs:eU P e=some n){i:AV}{x':Value}(hx:VR σ x x')(hi:VR σ i i')(r:Rep K σ h w) 
 (he:jZ n x i=some v):Yields P K σ (do pure (.value (<-Instr.indexAt t x' i'))) w v h:=by
 cases x<;>cases i<;>simp only[jZ,reduceCtorEq]at he
 rename_i b o len cap k q
 cases hq:fe q len with
 |none=>simp[hq]at he
 |some j =>
   simp only[hq,aQ,aa]at he;subst he;obtain⟨a1,a2,a3,a4⟩:=sR hq;simp only[VR]at hx hi;subst hi;obtain⟨p,o',c',hp,rfl,hoff,hcc,hnc,_⟩:=hx;have ho:o'=p.d+o:=by rcases hoff with h0|h0<;>omega
   subst ho;refine Yields.same (v':=.pointer (some ⟨p.blk,p.d+o+j*n,none⟩)) r ?_ (by simp only[VR];exact⟨p,hp,by rw[fF]⟩);simp[Instr.indexAt,run_underlying hu,asIntOf,a1,a2,dA hs,Addr.add_lit,a3]
def EO{t e:TypeId}{m n:Nat}(hu:P.underlying t=some (.array m e))(hs:eU P e=some n){i:AV}{x':Value}(hx:VR σ x x')(hi:VR σ i i')(r:Rep K σ h w) 
 (he:Ed m n x i=some v):Yields P K σ (do pure (.value (<-Instr.indexAt t x' i'))) w v h:=by
 cases x<;>cases i<;>simp only[Ed,reduceCtorEq]at he
 rename_i b o k q
 cases hq:fe q m with
 |none=>simp[hq]at he
 |some j =>
   simp only[hq,aQ,aa]at he;subst he;obtain⟨a1,a2,a3,a4⟩:=sR hq;simp only[VR]at hx hi;subst hi;obtain⟨p,hp,rfl⟩:=hx;refine Yields.same (v':=.pointer (some ⟨p.blk,p.d+o+j*n,none⟩)) r ?_ (by simp only[VR];exact⟨p,hp,by rw[fF]⟩);simp[Instr.indexAt,run_underlying hu,asIntOf,a1,a2,dA hs,Addr.add_lit,a3,Instr.sureAddr]
def Hh{t:TypeId}(hu:P.underlying t=some .string){i:AV}{x':Value}(hx:VR σ x x')(hi:VR σ i i')(r:Rep K σ h w) 
 (he:xt x i=some v):Yields P K σ (do pure (.value (<-Instr.index t x' i'))) w v h:=by
 cases x<;>cases i<;>simp only[xt,reduceCtorEq]at he
 rename_i s k q
 split at he
 .rename_i h0
  cases hq:s[q.toNat]? with
  |none=>simp[hq]at he
  |some c =>
    simp only[hq,aQ,aa]at he;subst he;simp only[VR]at hx hi;subst hi;obtain⟨ba,rfl,rfl⟩:=hx;have hlt:q.toNat<ba.data.toList.length:=(au.1 hq).1;have hlt':q.toNat<ba.size:=by simpa using hlt
    have hb:ba[q.toNat]=c:=by
     have:=(au.1 hq).2;rw[<-this];rfl
    refine Yields.same (v':=.int .u8 c.toNat) r ?_ (by simp[VR]);have hc:0<=q/\q<ba.size:=om;simp[run_index_string w t ba k q hu,hc,hb]
 .cases he
def Hi{t e:TypeId}{m n:Nat}(hu:P.underlying t=some (.array m e))(hl:uX P e=some (g,n)){i:AV}{x':Value}(hx:VR σ x x')(hi:VR σ i i')(r:Rep K σ h w) 
 (he:Ec g m n x i=some v):Yields P K σ (do pure (.value (<-Instr.index t x' i'))) w v h:=by
 cases x<;>cases i<;>simp only[Ec,reduceCtorEq]at he
 rename_i cs k q
 cases hq:fe q m with
 |none=>simp[hq]at he
 |some j =>
   simp only[hq]at he;obtain⟨a1,a2,a3,a4⟩:=sR hq;simp only[VR]at hx hi;subst hi;obtain⟨vs,rfl,hvs⟩:=hx;obtain⟨v',h1,h2⟩:=zV (P:=P) hl hvs he w;exact Yields.same (v':=v') r (by simp[Instr.index,run_underlying hu,asIntOf,a1,a2,dA (sK hl).2.1,a3,h1]) h2
def KV{x':Value}(hx:VR σ x x'){i:Nat}(r:Rep K σ h w)(he:Jj x i=some v):Yields P K σ (do pure (.value (<-Instr.extract x' i))) w v h:=by
 cases x<;>simp only[Jj,reduceCtorEq]at he;simp only[VR]at hx;obtain⟨vs,rfl,hvs⟩:=hx;obtain⟨y,hy,ry⟩:=hvs.get he;exact Yields.same (v':=y) r (by simp[Instr.extract,hy]) ry
def Hg{t e ty:TypeId}{ts:List TypeId}(hu:P.underlying t=some (.slice e)){x':Value}(hx:VR σ x x')(r:Rep K σ h w)(he:fP x=some v) :
 Yields P K σ (do pure (.value (<-Builtin.len_ (t::ts).toArray ty #[x']))) w v h:=by
 cases x<;>simp only[fP,reduceCtorEq,aa]at he<;>subst he<;>simp only[VR]at hx
 .rename_i n _
  obtain⟨i,o',c',hi,rfl,_⟩:=hx;exact Yields.same (v':=.int .i64 n) r (by simp[Builtin.len_,run_underlying hu,goInt]) (by simp[VR])
 .subst hx;exact Yields.same (v':=.int .i64 0) r (by simp[Builtin.len_,run_underlying hu,goInt]) (by simp[VR])
 .obtain⟨a,rfl⟩:=hx;exact Yields.same (v':=.int .i64 0) r (by simp[Builtin.len_,run_underlying hu,goInt]) (by simp[VR])
def He{t ty:TypeId}{ts:List TypeId}(hu:P.underlying t=some .string){x':Value}(hx:VR σ x x')(r:Rep K σ h w)(he:AE x=some v) :
 Yields P K σ (do pure (.value (<-Builtin.len_ (t::ts).toArray ty #[x']))) w v h:=by
 cases x<;>simp only[AE,reduceCtorEq,aa]at he;subst he;simp only[VR]at hx;obtain⟨ba,rfl,rfl⟩:=hx;have hsz:ba.data.toList.length=ba.size:=by simp
 rw[hsz];exact Yields.same (v':=.int .i64 ba.size) r (by simp[Builtin.len_,run_underlying hu,goInt]) (by simp[VR])
def Hf{t k e ty:TypeId}{ts:List TypeId}(hu:P.underlying t=some (.map k e)){x':Value}(hx:VR σ x x')(r:Rep K σ h w)(he:AF h x=some v) :
 Yields P K σ (do pure (.value (<-Builtin.len_ (t::ts).toArray ty #[x']))) w v h:=by
 cases x<;>simp only[AF,reduceCtorEq,aa]at he
 case nilm =>
  subst he;simp only[VR]at hx;subst hx;exact Yields.same (v':=.int .i64 0) r (by simp[Builtin.len_,run_underlying hu,goInt]) (by simp[VR])
 case mp b =>
  split at he
  .rename_i es c hg
   simp only[aa]at he;subst he;simp only[VR]at hx;obtain⟨i,hi,rfl⟩:=hx;obtain⟨i',hi',es',h1,h2,h3,h4⟩:=r.obj b _ hg rfl;rw[hi]at hi';simp only[aa]at hi';subst hi';refine Yields.same (v':=.int .i64 es.length) r ?_ (by simp[VR]);simp[Builtin.len_,run_underlying hu,goInt,getObj,Sem.run,h1,h3]
  .cases he
def EN{t:TypeId}(r:Rep K σ h w):Yields P K σ (do pure (.value (<-Instr.makeMap t none))) w (.mp h.next) (h.new (.mapo [] 0)):=by
 refine⟨.value (.map (some w.heap.size)),.map (some w.heap.size),w.alloc (.map #[] 0),_,by simp[Instr.makeMap],.inl rfl,Sg.le_add (i:={ blk:=w.heap.size,d:=0,esz:=0,N:=0}) r.fresh,?_,
  r.new (.mapo [] 0) _ { blk:=w.heap.size,d:=0,esz:=0,N:=0} rfl ?_⟩
 .simp only[VR];exact⟨_,Sg.add_at _ _ _,rfl⟩
 .intro τ _;refine⟨[],?_,r.le,rfl,λj k v n hx=>by simp at hx⟩;show(w.heap.push _)[w.heap.size]?=_;simp
def HY:∀{xs:List AV}{x v:AV}{x':Value}{vs:List Value},VR σ x x'->VRs σ xs vs->mxA x xs=some v->∃v',(vs.foldlM Builtin.max2 x').run P w=.ok v' w/\VR σ v v'
 |[],x,v,x',vs,hx,hv,he=>by
   simp only[VRs]at hv;subst hv;simp only[mxA,aa]at he;subst he;exact⟨x',by simp,hx⟩
 |y::ys,x,v,x',vs,hx,hv,he=>by
   simp only[VRs]at hv;obtain⟨z,zs,rfl,h1,h2⟩:=hv;cases x<;>cases y<;>simp only[mxA,reduceCtorEq]at he
   rename_i k a k' b
   split at he
   .simp only[VR]at hx h1;subst hx h1;obtain⟨v',h3,h4⟩:=HY (x:=.int k (if b>a then b else a)) (x':=.int k (if b>a then b else a)) (by simp[VR]) h2 he;exact⟨v',by simpa[Builtin.max2]using h3,h4⟩
   .cases he
def Ia:∀{xs:List AV}{x v:AV}{x':Value}{vs:List Value},VR σ x x'->VRs σ xs vs->mnA x xs=some v->∃v',(vs.foldlM Builtin.min2 x').run P w=.ok v' w/\VR σ v v'
 |[],x,v,x',vs,hx,hv,he=>by
   simp only[VRs]at hv;subst hv;simp only[mnA,aa]at he;subst he;exact⟨x',by simp,hx⟩
 |y::ys,x,v,x',vs,hx,hv,he=>by
   simp only[VRs]at hv;obtain⟨z,zs,rfl,h1,h2⟩:=hv;cases x<;>cases y<;>simp only[mnA,reduceCtorEq]at he
   rename_i k a k' b
   split at he
   .simp only[VR]at hx h1;subst hx h1;obtain⟨v',h3,h4⟩:=Ia (x:=.int k (if b<a then b else a)) (x':=.int k (if b<a then b else a)) (by simp[VR]) h2 he;exact⟨v',by simpa[Builtin.min2]using h3,h4⟩
   .cases he
def Np{ats:Array TypeId}{ty:TypeId}(hx:VRs σ xs vs)(r:Rep K σ h w)(he:lR mxA xs=some v) :
 Yields P K σ (do pure (.value (<-Builtin.max_ ats ty vs.toArray))) w v h:=by
 cases xs with
 |nil=>cases he
 |cons x xs =>
   simp only[VRs]at hx;obtain⟨y,ys,rfl,h1,h2⟩:=hx;obtain⟨v',h3,h4⟩:=HY (P:=P) (w:=w) h1 h2 he;exact Yields.same (v':=v') r (by simp[Builtin.max_,h3]) h4
def Nq{ats:Array TypeId}{ty:TypeId}(hx:VRs σ xs vs)(r:Rep K σ h w)(he:lR mnA xs=some v) :
 Yields P K σ (do pure (.value (<-Builtin.min_ ats ty vs.toArray))) w v h:=by
 cases xs with
 |nil=>cases he
 |cons x xs =>
   simp only[VRs]at hx;obtain⟨y,ys,rfl,h1,h2⟩:=hx;obtain⟨v',h3,h4⟩:=Ia (P:=P) (w:=w) h1 h2 he;exact Yields.same (v':=v') r (by simp[Builtin.min_,h3]) h4
def ly(hv:VR σ v v'){y y':Nat}(hy:y<=y')(hb:bnd v y=some j)(code:BoundsCode)(w:World):(Instr.sliceBound v' y' code).run P w=.ok j w/\j<=y:=by
 cases v<;>simp only[bnd,reduceCtorEq]at hb
 rename_i k i
 split at hb
 .rename_i hc
  simp only[aa]at hb;subst hb;simp only[VR]at hv;subst hv;refine⟨?_,om⟩;rw[run_sliceBound w k i y' code hc.1 om]
 .cases hb
def sZ(ht:TR σ ts a.tmps){x:Operand}{rx:Option RO}(hx:cOo (some x)=some rx):∃y,rx=some y/\VR σ (y.ev ts) (a.eval x):=by
 simp only[cOo]at hx;cases hc:cO x with
 |none=>simp[hc]at hx
 |some y=>simp only[hc,aQ,aa]at hx;exact⟨y,hx.symm,cN ht hc⟩
def lH(ht:TR σ ts a.tmps)(h1:cOo lo=some rlo)(h2:cOo hi=some rhi)(h3:cOo mx=some rmx)
 {len cap cap' l hh m:Nat} (hcap:cap<=cap') (hb:bounds (RO.ev ts) rlo rhi rmx len cap=some (l,hh,m)) (isS:Bool) (hlen:len<=cap) (w:World) :
 ∃m',(Instr.sliceBounds isS len cap' (lo.map a.eval) (hi.map a.eval) (mx.map a.eval)).run P w=.ok (l,hh,m') w/\m<=m'/\l<=hh/\hh<=m/\m<=cap/\((rmx=none/\m=cap/\m'=cap')\/m'=m):=by
 unfold bounds at hb;cases mx with
 |none =>
   simp only[cOo,aa]at h3;subst h3;simp only at hb;cases hi with
   |none =>
     simp only[cOo,aa]at h2;subst h2;simp only[jC,bT,if_false]at hb;cases lo with
     |none =>
       simp only[cOo,aa]at h1;subst h1;simp only[aa,aq]at hb;obtain⟨rfl,rfl,rfl⟩:=hb;exact⟨cap',by simp[Instr.sliceBounds],om,om,om,om,.inl ⟨rfl,rfl,rfl⟩⟩
     |some lo =>
       obtain⟨y,rfl,hy⟩:=sZ (a:=a) ht h1;simp only at hb;split at hb
       .rename_i l' hl
        simp only[aa,aq]at hb;obtain⟨rfl,rfl,rfl⟩:=hb;obtain⟨r1,r2⟩:=ly (P:=P) hy (ab len) hl .sliceB w;exact⟨cap',by simp[Instr.sliceBounds,r1],om,om,om,om,.inl ⟨rfl,rfl,rfl⟩⟩
       .cases hb
   |some hi =>
     obtain⟨z,rfl,hz⟩:=sZ (a:=a) ht h2;simp only at hb;split at hb
     .rename_i h' hh'
      obtain⟨q1,q2⟩:=ly (P:=P) hz hcap hh' (if isS then .sliceAcap else .sliceAlen) w;cases lo with
      |none =>
        simp only[cOo,aa]at h1;subst h1;simp only[aa,aq]at hb;obtain⟨rfl,rfl,rfl⟩:=hb;exact⟨cap',by simp[Instr.sliceBounds,q1],om,om,om,om,.inl ⟨rfl,rfl,rfl⟩⟩
      |some lo =>
        obtain⟨y,rfl,hy⟩:=sZ (a:=a) ht h1;simp only at hb;split at hb
        .rename_i l' hl
         simp only[aa,aq]at hb;obtain⟨rfl,rfl,rfl⟩:=hb;obtain⟨r1,r2⟩:=ly (P:=P) hy (ab h') hl .sliceB w;exact⟨cap',by simp[Instr.sliceBounds,q1,r1],om,om,om,om,.inl ⟨rfl,rfl,rfl⟩⟩
        .cases hb
     .cases hb
 |some mx =>
   obtain⟨u,rfl,hu⟩:=sZ (a:=a) ht h3;simp only at hb;split at hb
   .rename_i m0 hm0
    obtain⟨p1,p2⟩:=ly (P:=P) hu hcap hm0 (if isS then .slice3Acap else .slice3Alen) w;cases hi with
    |none =>
      simp only[cOo,aa]at h2;subst h2;simp at hb
    |some hi =>
      obtain⟨z,rfl,hz⟩:=sZ (a:=a) ht h2;simp only at hb;split at hb
      .rename_i h' hh'
       obtain⟨q1,q2⟩:=ly (P:=P) hz (ab m0) hh' .slice3B w;cases lo with
       |none =>
         simp only[cOo,aa]at h1;subst h1;simp only[aa,aq]at hb;obtain⟨rfl,rfl,rfl⟩:=hb;exact⟨m0,by simp[Instr.sliceBounds,p1,q1],om,om,om,om,.inr rfl⟩
       |some lo =>
         obtain⟨y,rfl,hy⟩:=sZ (a:=a) ht h1;simp only at hb;split at hb
         .rename_i l' hl
          simp only[aa,aq]at hb;obtain⟨rfl,rfl,rfl⟩:=hb;obtain⟨r1,r2⟩:=ly (P:=P) hy (ab h') hl .slice3C w;exact⟨m0,by simp[Instr.sliceBounds,p1,q1,r1],om,om,om,om,.inr rfl⟩
         .cases hb
      .cases hb
   .cases hb
def KF(ht:TR σ ts a.tmps){t:TypeId}(hu:P.underlying t=some .string)(h1:cOo lo=some rlo)(h2:cOo hi=some rhi)
 {x:AV}{x':Value} (hx:VR σ x x') (r:Rep K σ h w) {v:AV} (he:GZ (RO.ev ts) x rlo rhi=some v):Yields P K σ (do pure (.value (<-Instr.sliceAt t x' (lo.map a.eval) (hi.map a.eval) none))) w v h:=by
 cases x<;>simp only[GZ,reduceCtorEq]at he;simp only[VR]at hx;obtain⟨ba,rfl,rfl⟩:=hx;have hsz:ba.data.toList.length=ba.size:=by simp
 rw[hsz]at he;cases hb:bounds (RO.ev ts) rlo rhi none ba.size ba.size with
 |none=>simp[hb]at he
 |some q =>
   obtain⟨l,hh,m⟩:=q;simp only[hb,aQ,aa]at he;subst he;obtain⟨m',p1,p2,p3,p4,p5,p6⟩:=lH (P:=P) (a:=a) ht h1 h2 (mx:=none) (rmx:=none) rfl (ab _) hb false (ab _) w;simp only[bW]at p1;refine Yields.same (v':=.string (ba.extract l hh)) r ?_ ?_
   .simp[Instr.sliceAt,Instr.slice,run_underlying hu,p1]
   .simp only[VR];refine⟨_,rfl,?_⟩;rw[ByteArray.data_extract];simp[sh,List.drop_take]
def KG(ht:TR σ ts a.tmps){t e:TypeId}{n:Nat}(hu:P.underlying t=some (.slice e))(hs:eU P e=some n)(h1:cOo lo=some rlo)(h2:cOo hi=some rhi)(h3:cOo mx=some rmx)
 {x:AV}{x':Value} (hx:VR σ x x') (r:Rep K σ h w) {v:AV} (he:BW (RO.ev ts) h n x rlo rhi rmx=some v):Yields P K σ (do pure (.value (<-Instr.sliceAt t x' (lo.map a.eval) (hi.map a.eval) (mx.map a.eval)))) w v h:=by
 cases x<;>simp only[BW,reduceCtorEq]at he
 case nils =>
  simp only[VR]at hx;subst hx;cases hb:bounds (RO.ev ts) rlo rhi rmx 0 0 with
  |none=>simp[hb]at he
  |some q =>
    obtain⟨l,hh,m⟩:=q;simp only[hb,aQ,aa]at he;subst he;obtain⟨m',p1,p2,p3,p4,p5,p6⟩:=lH (P:=P) (a:=a) ht h1 h2 h3 (ab _) hb true (ab _) w;have e1:m'=0:=by rcases p6 with⟨_,_,rfl⟩|rfl<;>omega
    have e2:l=0:=om;have e3:hh=0:=om;subst e1 e2 e3;refine Yields.same (v':=.slice none 0 0) r ?_ (by simp[VR]);simp[Instr.sliceAt,Instr.slice,run_underlying hu,p1,dA hs]
 case emp =>
  simp only[VR]at hx;obtain⟨ad,rfl⟩:=hx;cases hb:bounds (RO.ev ts) rlo rhi rmx 0 0 with
  |none=>simp[hb]at he
  |some q =>
    obtain⟨l,hh,m⟩:=q;simp only[hb,aQ,aa]at he;subst he;obtain⟨m',p1,p2,p3,p4,p5,p6⟩:=lH (P:=P) (a:=a) ht h1 h2 h3 (ab _) hb true (ab _) w;have e1:m'=0:=by rcases p6 with⟨_,_,rfl⟩|rfl<;>omega
    have e2:l=0:=om;have e3:hh=0:=om;subst e1 e2 e3;refine Yields.same (v':=.slice (some ad) 0 0) r ?_ (by simp[VR]);simp[Instr.sliceAt,Instr.slice,run_underlying hu,p1,dA hs]
 case sl b o ln c =>
  split at he
  .rename_i cs e' ro hg
   split at he
   .rename_i hee
    subst hee;cases hb:bounds (RO.ev ts) rlo rhi rmx ln c with
    |none=>simp[hb]at he
    |some q =>
      obtain⟨l,hh,m⟩:=q;simp only[hb,aQ,aa]at he;subst he;simp only[VR]at hx;obtain⟨i,o',c',hi',rfl,hoff,hcc,hnc,hsp⟩:=hx;obtain⟨m',p1,p2,p3,p4,p5,p6⟩:=lH (P:=P) (a:=a) ht h1 h2 h3 hcc hb true hnc w;have g3:=r.esz b _ _ _ i hg hi';refine Yields.same (v':=.slice (some ⟨i.blk,if m'=l then o' else o'+l*e',none⟩) (hh-l) (m'-l)) r ?_ ?_
      .simp only[Instr.sliceAt,Instr.slice,Sem.run_bind,run_underlying hu,Result.andThen_ok,p1,dA hs,Sem.run_pure];congr 3;by_cases hm:m'=l
       .simp[hm]
       .simp[hm,Addr.add_lit]
      .simp only[VR];refine⟨i,_,_,hi',rfl,?_,om,om,?_⟩
       .by_cases hm:m=l
        .exact .inl om
        .right;have hm':¬m'=l:=om;simp only[hm,hm',if_false];rcases hoff with h0|h0<;>omega
       .rcases p6 with⟨_,q2,q3⟩|q2
        .rcases hsp with hsp|⟨s1,s2⟩
         .left;omega
         .by_cases hm:m'=l
          .left;omega
          .right;simp only[hm,if_false];subst q3;refine⟨om,?_⟩;rw[g3]at s2 |-;have:l*e'+(m'-l)*e'=m'*e':=by rw[<-dF];congr 1;omega
           omega
        .left;omega
   .cases he
  .cases he
def KH(ht:TR σ ts a.tmps){t e:TypeId}{k n:Nat}(hu:P.underlying t=some (.array k e))(hs:eU P e=some n)(h1:cOo lo=some rlo)(h2:cOo hi=some rhi)(h3:cOo mx=some rmx)
 {x:AV}{x':Value} (hx:VR σ x x') (r:Rep K σ h w) {v:AV} (he:Ha (RO.ev ts) k n x rlo rhi rmx=some v):Yields P K σ (do pure (.value (<-Instr.sliceAt t x' (lo.map a.eval) (hi.map a.eval) (mx.map a.eval)))) w v h:=by
 cases x<;>simp only[Ha,reduceCtorEq]at he
 rename_i b o
 cases hb:bounds (RO.ev ts) rlo rhi rmx k k with
 |none=>simp[hb]at he
 |some q =>
   obtain⟨l,hh,m⟩:=q;simp only[hb,aQ,aa]at he;subst he;simp only[VR]at hx;obtain⟨i,hi',rfl⟩:=hx;obtain⟨m',p1,p2,p3,p4,p5,p6⟩:=lH (P:=P) (a:=a) ht h1 h2 h3 (ab k) hb false (ab k) w;have e1:m'=m:=by rcases p6 with⟨_,q2,q3⟩|rfl<;>omega
   subst e1;refine Yields.same (v':=.slice (some ⟨i.blk,i.d+(if m'=l then o else o+l*n),none⟩) (hh-l) (m'-l)) r ?_ ?_
   .simp only[Instr.sliceAt,Sem.run_bind,run_underlying hu,Result.andThen_ok,Instr.sureAddr,Sem.run_pure,p1,dA hs];congr 4;by_cases hm:m'=l
    .simp[hm]
    .simp[hm,Addr.add_lit,fF]
   .simp only[VR];exact⟨i,_,_,hi',rfl,.inr rfl,ab _,om,.inl rfl⟩
def KP{t e:TypeId}{n bts:Nat}{z:List AV}(hu:P.underlying t=some (.slice e))(hs:eU P e=some n)(hb:tU P e=some bts)(hz:gu P e=some z)(hzl:z.length=n)
 {l c:AV}{l' c':Value} (hl:VR σ l l') (hc:VR σ c c') (r:Rep K σ h w) {v:AV}{h':AH} (he:wg h z n bts l c=some (v,h')):Yields P K σ (do pure (.value (<-Instr.makeSlice t l' c'))) w v h':=by
 cases l<;>cases c<;>simp only[wg,reduceCtorEq]at he
 rename_i kl l kc c
 split at he
 .rename_i hcond
  obtain⟨c1,c2,c3,c4⟩:=hcond;simp only[aa,aq]at he;obtain⟨rfl,rfl⟩:=he;simp only[VR]at hl hc;subst hl hc;obtain⟨i,zv,hi,hzv,hrel⟩:=fh hz;have hin:i.size=n:=by unfold eU at hs;simp[hi]at hs;exact hs
  have hib:i.bytes=bts:=by unfold tU at hb;simp[hi]at hb;exact hb
  unfold bf at c3 c4;have hrun:=run_make (P:=P) w t e i zv hu hi hzv kl kc l c c1 c2 (by rw[hib,Int.mul_comm];omega) om;have hsz:zv.cells.size=n:=by have:=(hrel σ).length;simp at this;omega
  have hm:VRs σ (cq z c.toNat) (madeCells zv.cells (c.toNat*i.size)).toList:=by
   by_cases h0:z.length=0
   .have e1:cq z c.toNat=[]:=aW.1 (by rw[iL,h0];simp);have e2:c.toNat*i.size=0:=by rw[hin,<-hzl,h0];simp
    rw[e1,e2];simp[madeCells,VRs]
   .have:=oZ (hrel σ) c.toNat (.inl h0);rw[hzl,<-hin]at this;exact this
  refine Yields.newCells r (cq z c.toNat) n (madeCells zv.cells (c.toNat*i.size)) e (0,0) (.slice (some ⟨w.heap.size,0,none⟩) l.toNat c.toNat) w (.inl rfl) ?_ ?_ ?_ (by simp) ?_ ?_
  .simp[hrun]
  .have:=hm.length;simp at this;omega
  .intro j x hx;obtain⟨y,hy,ry⟩:=hm.get hx;exact⟨y,by simpa using hy,ry⟩
  .intro k _;simp
  .intro τ hτ;simp only[VR];exact⟨_,0,c.toNat,hτ,rfl,.inr (by simp),ab _,om,.inl rfl⟩
 .cases he
def DY:∀(x y:List UInt8),less x y=Op.bytesLess x y
 |[],[]=>by simp[less,Op.bytesLess]
 |_::_,[]=>by simp[less,Op.bytesLess]
 |[],_::_=>by simp[less,Op.bytesLess]
 |a::x,b::y=>by simp[less,Op.bytesLess,DY x y]
def Dl{x:Int}(hns:op≠.shl/\op≠.shr)(he:fL op k x y=some v)(t:TypeId)(w:World):∃v',(binOp op t (.int k x) (.int k y)).run P w=.ok v' w/\VR σ v v':=by
 cases op<;>simp only[fL,reduceCtorEq,aa]at he
 case add=>subst he;exact⟨.int k _,by rw[binOp_add];rfl,by simp[VR]⟩
 case sub=>subst he;exact⟨.int k _,by rw[binOp_sub];rfl,by simp[VR]⟩
 case mul=>subst he;exact⟨.int k _,by rw[binOp_mul];rfl,by simp[VR]⟩
 case quo =>
  split at he
  .cases he
  .rename_i h0
   simp only[aa]at he;subst he;exact⟨.int k _,by rw[binOp_quo];simp only[Op.intDiv,h0,if_false];rfl,by simp[VR]⟩
 case rem =>
  split at he
  .cases he
  .rename_i h0
   simp only[aa]at he;subst he;exact⟨.int k _,by rw[binOp_rem];simp only[Op.intDiv,h0,if_false];rfl,by simp[VR]⟩
 case and=>simp only[bits,aQ,aa]at he;subst he;exact⟨.int k _,by rw[binOp_and];rfl,by simp only[VR]⟩
 case or=>simp only[bits,aQ,aa]at he;subst he;exact⟨.int k _,by rw[binOp_or];rfl,by simp only[VR]⟩
 case xor=>simp only[bits,aQ,aa]at he;subst he;exact⟨.int k _,by rw[binOp_xor];rfl,by simp only[VR]⟩
 case andNot=>simp only[bits,aQ,aa]at he;subst he;exact⟨.int k _,by rw[binOp_andNot];rfl,by simp only[VR]⟩
 case eql=>subst he;exact⟨.bool _,by rw[binOp_eql];rfl,by simp[VR]⟩
 case neq=>subst he;exact⟨.bool _,by rw[binOp_neq];rfl,by simp[VR]⟩
 case lss=>subst he;exact⟨.bool _,by rw[binOp_lss];rfl,by simp[VR]⟩
 case leq=>subst he;exact⟨.bool _,by rw[binOp_leq];rfl,by simp[VR]⟩
 case gtr=>subst he;exact⟨.bool _,by rw[binOp_gtr];rfl,by simp[VR]⟩
 case geq=>subst he;exact⟨.bool _,by rw[binOp_geq];rfl,by simp[VR]⟩
def Hq{yk:IntKind}{x:Int}(hs:op=.shl\/op=.shr)(he:Hr op k x y=some v)(t:TypeId)(w:World):∃v',(binOp op t (.int k x) (.int yk y)).run P w=.ok v' w/\VR σ v v':=by
 unfold Hr at he;split at he
 .cases he
 .rename_i h0
  rcases hs with rfl|rfl
  .simp only[aa]at he;subst he;exact⟨.int k _,by rw[binOp_shl];simp only[Op.shift,h0,if_false];rfl,by simp only[VR]⟩
  .simp only[aa]at he;subst he;exact⟨.int k _,by rw[binOp_shr];simp only[Op.shift,h0,if_false];rfl,by simp only[VR]⟩
def Dj{x y:ByteArray}(he:Dk op x.data.toList y.data.toList=some v)(t:TypeId)(w:World):∃v',(binOp op t (.string x) (.string y)).run P w=.ok v' w/\VR σ v v':=by
 have hb:binOp op t (.string x) (.string y)=Op.stringOp op x y:=by cases op<;>simp[binOp]
 rw[hb];unfold Dk at he;split at he
 .split at he
  .rename_i hlt
   simp only[aa]at he;subst he;refine⟨.string (x++y),?_,by simp only[VR];exact⟨_,rfl,by simp⟩⟩;have h1:x.data.toList.length=x.size:=by simp
   have h2:y.data.toList.length=y.size:=by simp
   rw[h1,h2]at hlt;have:¬(((x.size+y.size:Nat):Int)>IntKind.i64.max):=by rw[IntKind.max_i64];omega
   simp only[Op.stringOp,this,if_false];rfl
  .cases he
 all_goals first
  |(cases he;done)
  |(simp only[aa]at he;subst he;exact⟨.bool _,by simp only[Op.stringOp,ByteArray.toList_eq];rfl,by simp only[VR,DY]⟩)
def Bb{d:Nat}:∀(fs:List Field) (n:Nat) (ks:List IntKind) (xs ys:List AV) (vx vy:List Value) (b:Bool),mG P fs n=some ks->fV ks (xs.drop n) (ys.drop n)=some b->VRs σ xs vx->VRs σ ys vy->(w:World) ->
 (Op.eqFields (d+1) vx.toArray vy.toArray fs).run P w=.ok b w
 |[],n,ks,xs,ys,vx,vy,b,hk,he,hx,hy,w=>by
   simp only[mG,aa]at hk;subst hk;unfold fV at he;split at he
   .simp only[aa]at he;subst he;simp[Op.eqFields]
   .rename_i heq _ _;cases heq
   .cases he
 |f::r,n,ks,xs,ys,vx,vy,b,hk,he,hx,hy,w=>by
   unfold mG at hk;split at hk
   .rename_i k ks' hu hks
    split at hk
    .rename_i hc
     obtain⟨ho,hnm⟩:=hc;simp only[aa]at hk;subst hk;cases hxd:xs.drop n with
     |nil=>rw[hxd]at he;simp[fV]at he
     |cons x xs0 =>
       cases hyd:ys.drop n with
       |nil=>rw[hxd,hyd]at he;cases x<;>simp[fV]at he
       |cons y ys0 =>
         rw[hxd,hyd]at he;cases x<;>cases y<;>simp only[fV,reduceCtorEq]at he
         rename_i k1 p k2 q
         split at he
         .rename_i hkk
          obtain⟨e1,e2⟩:=hkk;subst e1;subst e2;have gx:xs[n]?=some (.int k2 p):=by
           have:=congrArg (·[0]?) hxd;simpa using this
          have gy:ys[n]?=some (.int k2 q):=by
           have:=congrArg (·[0]?) hyd;simpa using this
          obtain⟨zx,hzx,rx⟩:=hx.get gx;obtain⟨zy,hzy,ry⟩:=hy.get gy;simp only[VR]at rx ry;subst rx ry;have pa:∀{vs:List Value}{m:Int},vs[n]?=some (.int k2 m)->(part f.type vs.toArray f.offset).run P w=.ok (.int k2 m) w:=by
           intro vs m hq;have hagg:qi P f.type=some false:=by simp[qi,hu]
           simp[part,ke hagg,ho,hq]
          simp only[Op.eqFields,ne_eq,hnm,not_false_eq_true,if_true,Sem.run_bind,pa hzx,pa hzy,Result.andThen_ok,run_equalIn_int w d f.type k2 k2 p q hu];by_cases hac:(p==q)=true
          .simp only[hac,if_true]at he;simp only[hac,dp,bT,if_false];refine Bb r (n+1) ks' xs ys vx vy b hks ?_ hx hy w;have d1:xs.drop (n+1)=xs0:=by rw[<-qQ,hxd];rfl
           have d2:ys.drop (n+1)=ys0:=by rw[<-qQ,hyd];rfl
           rw[d1,d2];exact he
          .simp only[ow]at hac;simp only[hac,bT,if_false,aa]at he;subst he;simp[hac]
         .cases he
    .cases hk
   .cases hk
def Er{d:Nat}{k:IntKind}{e:TypeId}(hu:P.underlying e=some (.int k)):∀(n s:Nat) (xs ys:List AV) (vx vy:List Value) (b:Bool),fV (List.replicate n k) (xs.drop s) (ys.drop s)=some b->VRs σ xs vx->VRs σ ys vy->(w:World) ->
 (Op.eqItems (d+1) e 1 vx.toArray vy.toArray (List.range' s n)).run P w=.ok b w
 |0,s,xs,ys,vx,vy,b,he,hx,hy,w=>by
   simp only[List.replicate_zero]at he;unfold fV at he;split at he
   .simp only[aa]at he;subst he;simp[Op.eqItems]
   .rename_i heq _ _;cases heq
   .cases he
 |n+1,s,xs,ys,vx,vy,b,he,hx,hy,w=>by
   rw[List.replicate_succ]at he;cases hxd:xs.drop s with
   |nil=>rw[hxd]at he;simp[fV]at he
   |cons x xs0 =>
     cases hyd:ys.drop s with
     |nil=>rw[hxd,hyd]at he;cases x<;>simp[fV]at he
     |cons y ys0 =>
       rw[hxd,hyd]at he;cases x<;>cases y<;>simp only[fV,reduceCtorEq]at he
       rename_i k1 p k2 q
       split at he
       .rename_i hkk
        obtain⟨e1,e2⟩:=hkk;subst e1;subst e2;have gx:xs[s]?=some (.int k2 p):=by
         have:=congrArg (·[0]?) hxd;simpa using this
        have gy:ys[s]?=some (.int k2 q):=by
         have:=congrArg (·[0]?) hyd;simpa using this
        obtain⟨zx,hzx,rx⟩:=hx.get gx;obtain⟨zy,hzy,ry⟩:=hy.get gy;simp only[VR]at rx ry;subst rx ry;have pa:∀{vs:List Value}{m:Int},vs[s]?=some (.int k2 m)->(part e vs.toArray s).run P w=.ok (.int k2 m) w:=by
         intro vs m hq;have hagg:qi P e=some false:=by simp[qi,hu]
         simp[part,ke hagg,hq]
        simp only[List.range'_succ,Op.eqItems,aP,Sem.run_bind,pa hzx,pa hzy,Result.andThen_ok,run_equalIn_int w d e k2 k2 p q hu];by_cases hac:(p==q)=true
        .simp only[hac,if_true]at he;simp only[hac,dp,bT,if_false];refine Er hu n (s+1) xs ys vx vy b ?_ hx hy w;have d1:xs.drop (s+1)=xs0:=by rw[<-qQ,hxd];rfl
         have d2:ys.drop (s+1)=ys0:=by rw[<-qQ,hyd];rfl
         rw[d1,d2];exact he
        .simp only[ow]at hac;simp only[hac,bT,if_false,aa]at he;subst he;simp[hac]
       .cases he
def NQ{t:TypeId}(h0:cEq P t=some .bl):P.underlying t=some .bool:=by
 unfold cEq at h0;split at h0
 all_goals (try (split at h0))
 all_goals (try (split at h0))
 all_goals first|assumption|(simp at h0;done)
def Mx{t:TypeId}(h0:cEq P t=some .ptr):∃e n,P.underlying t=some (.pointer e)/\eU P e=some (n+1):=by
 unfold cEq at h0;split at h0
 all_goals (try (split at h0))
 all_goals (try (split at h0))
 all_goals first|exact⟨_,_,by assumption,by assumption⟩|(simp at h0;done)
def My{t:TypeId}(h0:cEq P t=some .nls):∃e,P.underlying t=some (.slice e):=by
 unfold cEq at h0;split at h0
 all_goals (try (split at h0))
 all_goals (try (split at h0))
 all_goals first|exact⟨_,by assumption⟩|(simp at h0;done)
def Mz{t:TypeId}(h0:cEq P t=some .nlm):∃k e,P.underlying t=some (.map k e):=by
 unfold cEq at h0;split at h0
 all_goals (try (split at h0))
 all_goals (try (split at h0))
 all_goals first|exact⟨_,_,by assumption⟩|(simp at h0;done)
def vO{t:TypeId}(h0:cEq P t=some (.flat ks)):(∃fs:Array Field,P.underlying t=some (.struct fs)/\P.stoodInHeld t=false/\P.eqGuardType P.depth t=false/\mG P fs.toList 0=some ks) \/
 ∃(n:Nat) (e:TypeId) (k:IntKind),P.underlying t=some (.array n e)/\P.underlying e=some (.int k)/\eU P e=some 1/\P.eqGuardType P.depth t=false/\ks=List.replicate n k:=by
 cases hu:P.underlying t with
 |none=>simp[cEq,hu]at h0
 |some d =>
   cases d
   case struct fs =>
    simp only[cEq,hu]at h0;split at h0
    .rename_i hc
     simp only[aG,RE.flat.injEq]at h0;obtain⟨ks',hk,rfl⟩:=h0;exact .inl ⟨fs,rfl,hc.1,hc.2,hk⟩
    .cases h0
   case array n e =>
    simp only[cEq,hu]at h0;split at h0
    .rename_i k he
     split at h0
     .rename_i hc
      simp only[aa,RE.flat.injEq]at h0;exact .inr ⟨n,e,k,rfl,he,hc.1,hc.2,h0.symm⟩
     .cases h0
    .cases h0
   case pointer e=>simp only[cEq,hu]at h0;split at h0<;>simp at h0
   all_goals simp[cEq,hu]at h0
def Gw{t:TypeId}(hu:P.underlying t=some (.struct fs))(h0:cEq P t=some (.flat ks)):P.stoodInHeld t=false/\P.eqGuardType P.depth t=false/\mG P fs.toList 0=some ks:=by
 rcases vO h0 with⟨fs',hu',h1,h2,h3⟩|⟨n,e,k,hu',_⟩
 .rw[hu]at hu';cases hu';exact⟨h1,h2,h3⟩
 .rw[hu]at hu';cases hu'
section
variable {t:TypeId} (d:Nat) (w:World)
def tL{e:TypeId}(hu:P.underlying t=some (.pointer e))(b:Option Addr):(Op.equalIn (d+1) t (.pointer none) (.pointer b)).run P w=.ok b.isNone w:=by simp[Op.equalIn,run_underlying hu]
def Bh{e:TypeId}(hu:P.underlying t=some (.pointer e))(a:Addr):(Op.equalIn (d+1) t (.pointer (some a)) (.pointer none)).run P w=.ok false w:=by simp[Op.equalIn,run_underlying hu]
def Bg{e:TypeId}{m:Nat}(hu:P.underlying t=some (.pointer e))(hz:(sizeOf e).run P w=.ok (m+1) w)(a:Addr):(Op.equalIn (d+1) t (.pointer (some a)) (.pointer (some a))).run P w=.ok true w:=by
 simp[Op.equalIn,run_underlying hu,hz,run_sameAddr_same]
def pj{e:TypeId}(hu:P.underlying t=some (.slice e))(b:Option Addr)(n c m k:Nat):(Op.equalIn (d+1) t (.slice none n c) (.slice b m k)).run P w=.ok b.isNone w:=by simp[Op.equalIn,run_underlying hu]
def tK{e:TypeId}(hu:P.underlying t=some (.slice e))(a:Addr)(n c m k:Nat):(Op.equalIn (d+1) t (.slice (some a) n c) (.slice none m k)).run P w=.ok false w:=by simp[Op.equalIn,run_underlying hu]
def tM{e f:TypeId}(hu:P.underlying t=some (.map e f))(b:Option Nat):(Op.equalIn (d+1) t (.map none) (.map b)).run P w=.ok b.isNone w:=by simp[Op.equalIn,run_underlying hu]
def Bi{e f:TypeId}(hu:P.underlying t=some (.map e f))(a:Nat):(Op.equalIn (d+1) t (.map (some a)) (.map none)).run P w=.ok false w:=by simp[Op.equalIn,run_underlying hu]
end
variable {a:Act}{ax ay:AV}{b:Bool}{op:BinOp}{vx vy:Value}{x y:Operand}
def CI{t:TypeId}{e:RE}(he0:cEq P t=some e)(hx:VR σ ax vx)(hy:VR σ ay vy)(he:jY e ax ay=some b)(w:World):(Op.equal t vx vy).run P w=.ok b w:=by
 unfold Op.equal Op.maxDepth;cases e with
 |no=>simp[jY]at he
 |ki=>simp[jY]at he
 |ks=>simp[jY]at he
 |bl =>
   have hu:=NQ he0;cases ax<;>cases ay<;>simp only[jY,eqB,reduceCtorEq,aa]at he;subst he;simp only[VR]at hx hy;subst hx hy;exact run_equalIn_bool w 9999 t _ _ hu
 |ptr =>
   obtain⟨el,nel,hu,hsz⟩:=Mx he0;have hsize:(sizeOf el).run P w=.ok (nel+1) w:=dA hsz w;cases ax<;>cases ay<;>simp only[jY,eqP,reduceCtorEq,aa]at he
   case ptr.ptr =>
    split at he
    .rename_i hbo
     obtain⟨rfl,rfl⟩:=hbo;simp only[aa]at he;subst he;simp only[VR]at hx hy;obtain⟨i,hi,rfl⟩:=hx;obtain⟨i2,hi2,rfl⟩:=hy;rw[hi]at hi2;simp only[aa]at hi2;subst hi2;exact Bg 9999 w hu hsize _
    .cases he
   all_goals subst he
   all_goals simp only[VR]at hx hy
   .obtain⟨i,_,rfl⟩:=hx;subst hy;exact Bh 9999 w hu _
   .obtain⟨i,_,rfl⟩:=hy;subst hx;exact tL 9999 w hu _
   .subst hx hy;exact tL 9999 w hu _
 |nls =>
   obtain⟨el,hu⟩:=My he0;cases ax<;>cases ay<;>simp only[jY,Mk,reduceCtorEq,aa]at he<;>subst he<;>simp only[VR]at hx hy
   .obtain⟨i,_,_,_,rfl,_⟩:=hx;subst hy;exact tK 9999 w hu _ _ _ _ _
   .obtain⟨i,_,_,_,rfl,_⟩:=hy;subst hx;exact pj 9999 w hu _ _ _ _ _
   .subst hx hy;exact pj 9999 w hu _ _ _ _ _
   .obtain⟨_,rfl⟩:=hy;subst hx;exact pj 9999 w hu _ _ _ _ _
   .obtain⟨_,rfl⟩:=hx;subst hy;exact tK 9999 w hu _ _ _ _ _
 |nlm =>
   obtain⟨kl,el,hu⟩:=Mz he0;cases ax<;>cases ay<;>simp only[jY,eqM,reduceCtorEq,aa]at he<;>subst he<;>simp only[VR]at hx hy
   .obtain⟨i,_,rfl⟩:=hx;subst hy;exact Bi 9999 w hu _
   .obtain⟨i,_,rfl⟩:=hy;subst hx;exact tM 9999 w hu _
   .subst hx hy;exact tM 9999 w hu _
 |flat ks =>
   cases ax<;>cases ay<;>simp only[jY,eqF,reduceCtorEq]at he;simp only[VR]at hx hy;obtain⟨vx,rfl,hx⟩:=hx;obtain⟨vy,rfl,hy⟩:=hy;rcases vO he0 with⟨fs,hu,hc1,hc2,hk⟩|⟨n,el,k,hu,hue,hsz,hg,rfl⟩
   rotate_left
   .obtain⟨i,hi,hsi⟩:=aG.1 hsz;have hcell:P.cellsOf el=1:=by simp[Program.cellsOf,hi,hsi]
    rw[run_equalIn_array w 9999 vx.toArray vy.toArray hu hi,hcell,List.range_eq_range'];exact Er hue n 0 _ _ vx vy b (by simpa using he) hx hy w
   have hf:P.underlying t=some (.struct (P.fieldsOf t)):=by simp[Program.fieldsOf,hu]
   have hfs:P.fieldsOf t=fs:=by simp[Program.fieldsOf,hu]
   rw[run_equalIn_struct w 9999 t vx.toArray vy.toArray hf hc1,hfs];exact Bb fs.toList 0 _ _ _ vx vy b hk (by simpa using he) hx hy w
def vB{t:TypeId}{e:RE}(he0:cEq P t=some e)(hx:VR σ ax (a.eval x))(hy:VR σ ay (a.eval y))(he:op=.eql\/op=.neq->∃b,jY e ax ay=some b)(w:World) :
 (eqGuard op t x y (a.eval x) (a.eval y)).run P w=.ok () w:=by
 by_cases hop:op=.eql\/op=.neq
 .obtain⟨b,hb⟩:=he hop;cases e with
  |no=>simp[jY]at hb
  |ki=>simp[jY]at hb
  |ks=>simp[jY]at hb
  |bl =>
    cases ax<;>cases ay<;>simp only[jY,eqB,reduceCtorEq,aa]at hb;simp only[VR]at hx hy;rw[hx,hy,eqGuard_at_bool];rfl
  |ptr =>
    cases ax<;>cases ay<;>simp only[jY,eqP,reduceCtorEq,aa]at hb<;>simp only[VR]at hx
    all_goals first
     |(obtain⟨i,_,hx⟩:=hx;rw[hx,eqGuard_at_pointer];rfl)
     |(rw[hx,eqGuard_at_pointer];rfl)
  |nls =>
    cases ax<;>cases ay<;>simp only[jY,Mk,reduceCtorEq,aa]at hb<;>simp only[VR]at hx
    .obtain⟨i,_,_,_,hx,_⟩:=hx;rw[hx,eqGuard_at_slice];rfl
    .rw[hx,eqGuard_at_slice];rfl
    .rw[hx,eqGuard_at_slice];rfl
    .rw[hx,eqGuard_at_slice];rfl
    .obtain⟨_,hx⟩:=hx;rw[hx,eqGuard_at_slice];rfl
  |nlm =>
    cases ax<;>cases ay<;>simp only[jY,eqM,reduceCtorEq,aa]at hb<;>simp only[VR]at hx
    .obtain⟨i,_,hx⟩:=hx;rw[hx,eqGuard_at_map];rfl
    .rw[hx,eqGuard_at_map];rfl
    .rw[hx,eqGuard_at_map];rfl
  |flat ks =>
    have hc2:P.eqGuardType P.depth t=false:=by
     rcases vO he0 with⟨fs,hu,hc1,hc2,hk⟩|⟨n,el,k,hu,hue,hsz,hg,_⟩
     .exact hc2
     .exact hg
    cases ax<;>cases ay<;>simp only[jY,eqF,reduceCtorEq]at hb;simp only[VR]at hx hy;obtain⟨vx,hx,_⟩:=hx;obtain⟨vy,hy,_⟩:=hy;rw[hx,hy];exact run_eqGuard_agg w op t x y _ _ hc2
 .cases op<;>first|rfl|(exfalso;exact hop (by simp))
def ya{e:RE}(hb:jY e ax ay=some b)(hx:VR σ ax vx)(hy:VR σ ay vy)(t:TypeId) :
 binOp .eql t vx vy=(do pure (.bool (<-Op.equal t vx vy)))/\binOp .neq t vx vy=(do pure (.bool (!(<-Op.equal t vx vy)))):=by
 cases e<;>cases ax<;>cases ay<;>simp only[jY,eqB,eqP,Mk,eqM,eqF,reduceCtorEq]at hb<;>simp only[VR]at hx hy <;>
  (first|subst hx|obtain⟨_,rfl⟩:=hx|obtain⟨_,rfl,_⟩:=hx|obtain⟨_,_,rfl⟩:=hx|obtain⟨_,_,_,_,rfl,_⟩:=hx) <;>
  (first|subst hy|obtain⟨_,rfl⟩:=hy|obtain⟨_,rfl,_⟩:=hy|obtain⟨_,_,rfl⟩:=hy|obtain⟨_,_,_,_,rfl,_⟩:=hy) <;>
  exact⟨rfl,rfl⟩
def Ld{t:TypeId}{e:RE}(he0:cEq P t=some e)(hx:VR σ ax (a.eval x))(hy:VR σ ay (a.eval y))(r:Rep K σ h w){v:AV}(he:fq op e ax ay=some v) :
 Yields P K σ (do pure (.value (<-(do eqGuard op t x y (a.eval x) (a.eval y);binOp op t (a.eval x) (a.eval y))))) w v h:=by
 unfold fq at he;split at he
 .rename_i k p k' q
  simp only[VR]at hx hy;rw[hx,hy,eqGuard_at_int];split at he
  .rename_i hop
   obtain⟨v',h1,h2⟩:=Hq (P:=P) (σ:=σ) (yk:=k') hop he t w;exact Yields.same (v':=v') r (by simp[h1]) h2
  .rename_i hop
   split at he
   .rename_i hk
    subst hk;obtain⟨v',h1,h2⟩:=Dl (P:=P) (σ:=σ) (by simpa using hop) he t w;exact Yields.same (v':=v') r (by simp[h1]) h2
   .cases he
 .rename_i p q
  simp only[VR]at hx hy;obtain⟨bx,hx,rfl⟩:=hx;obtain⟨by',hy,rfl⟩:=hy;rw[hx,hy,eqGuard_at_string];obtain⟨v',h1,h2⟩:=Dj (P:=P) (σ:=σ) he t w;exact Yields.same (v':=v') r (by simp[h1]) h2
 .rename_i hni hns
  split at he
  .cases hb:jY e ax ay with
   |none=>simp[hb]at he
   |some b =>
     simp only[hb,aQ,aa]at he;subst he;have hg:=vB (P:=P) (a:=a) (op:=.eql) he0 hx hy (λ_=>⟨b,hb⟩) w;have hq:=CI (P:=P) he0 hx hy hb w;refine Yields.same (v':=.bool b) r ?_ (by simp[VR]);rw[(ya hb hx hy t).1];simp[hg,hq]
  .cases hb:jY e ax ay with
   |none=>simp[hb]at he
   |some b =>
     simp only[hb,aQ,aa]at he;subst he;have hg:=vB (P:=P) (a:=a) (op:=.neq) he0 hx hy (λ_=>⟨b,hb⟩) w;have hq:=CI (P:=P) he0 hx hy hb w;refine Yields.same (v':=.bool (!b)) r ?_ (by simp[VR]);rw[(ya hb hx hy t).2];simp[hg,hq]
  .cases he
def Ex{len m cap bts:Nat}(hgt:cap<len+m)(hfit:(len+m)*bts<2^40):Builtin.nextslicecap (len+m) cap*bts<=281474976710656 :=
 growslice_fits hgt om
def KB{esz m:Nat}{x:AV}{x':Value}{new:List AV}(r:Rep K σ h w)(hx:VR σ x x')(he:fz h esz x=some (m,new)) :
 ∃vs:List Value,VRs σ new vs/\vs.length=m*esz/\(Builtin.lenOf x').run P w=.ok m w/\∀W,W=w\/W=w.drew->(Builtin.firstCells esz m x').run P W=.ok vs.toArray W:=by
 cases x<;>simp only[fz,reduceCtorEq]at he
 case nils =>
  simp only[aa,aq]at he;obtain⟨rfl,rfl⟩:=he;simp only[VR]at hx;subst hx;exact⟨[],rfl,by simp,by simp[Builtin.lenOf],λW _=>by simp[Builtin.firstCells]⟩
 case emp =>
  simp only[aa,aq]at he;obtain⟨rfl,rfl⟩:=he;simp only[VR]at hx;obtain⟨ad,rfl⟩:=hx;exact⟨[],rfl,by simp,by simp[Builtin.lenOf],λW _=>by
   have:=run_loadCells_list (P:=P) W ad [] (by simp);simpa[Builtin.firstCells]using this⟩
 case str s =>
  split at he
  .rename_i h1
   subst h1;simp only[aa,aq]at he;obtain⟨rfl,rfl⟩:=he;simp only[VR]at hx;obtain⟨ba,rfl,rfl⟩:=hx;have hsz:ba.data.toList.length=ba.size:=by simp
   refine⟨ba.data.toList.map λb=>.int .u8 b.toNat,?_,by simp,by simp[Builtin.lenOf],λW _=>?_⟩
   .refine VRs.of_get (by simp[jK]) λi x hx=>?_;obtain⟨b,hb,rfl⟩:=qz hx;refine⟨.int .u8 b.toNat,?_,by simp[VR]⟩;rw[aV,hb];rfl
   .rw[hsz];simp only[Builtin.firstCells,Sem.run_pure];congr 1;apply Array.ext';rw[ByteArray.data_extract];have hd:(ba.data.toList.map λb=>Value.int .u8 b.toNat).length=ba.size:=by simp
    simp only[Array.toList_map,Array.toList_extract,sh,gI,df,GE];rw[<-hd,bt]
  .cases he
 case sl b o n c =>
  cases hr:ai h b o (n*esz)with
  |none=>simp[hr]at he
  |some cs =>
    simp only[hr,aQ,aa,aq]at he;obtain⟨rfl,rfl⟩:=he;simp only[VR]at hx;obtain⟨i,o',c',hi,rfl,hoff,hcc,hnc,_⟩:=hx;obtain⟨vs,hvs,hlen,hc⟩:=r.rd hr hi;refine⟨vs,hvs,hlen,by simp[Builtin.lenOf],λW hW=>?_⟩;have hcell:∀p,W.cell? p=w.cell? p:=by
     rcases hW with rfl|rfl
     .exact λ_=>rfl
     .exact λ_=>rfl
    simp only[Builtin.firstCells];rw[<-hlen];refine run_loadCells_list W _ vs λj v hv=>?_;rcases hoff with h0|h0
    .have:vs.length=0:=by rw[hlen];have:n=0:=om
                          rw[this];simp
     rw[aW.1 this]at hv;simp at hv
    .subst h0;rw[Addr.add_lit,hcell];exact hc j v hv
section
variable {t t' e ty:TypeId}{u:TypeDesc}{n bts:Nat}{tl:List TypeId}{i:TypeInfo}{z:Value}{base:Option Addr}{len cap m:Nat}{x':Value}{news olds:List Value}
def lI(hu:P.underlying t=some (.slice e))(hu':P.underlying t'=some u)(hni:(∃e',u=.slice e')\/u=.string)(hs:eU P e=some n)
 (hlen:(Builtin.lenOf x').run P w=.ok m w) (hnew:(Builtin.firstCells n m x').run P w=.ok news.toArray w) (hle:len+m<=cap) :
 (Builtin.append_ (t::t'::tl).toArray ty #[.slice base len cap,x']).run P w =
  ((match base with|some a=>storeCells (a.add (len*n)) news|none=>pure ()).run P w).andThen λ_ w'=>.ok (.slice base (len+m) cap) w':=by
 rcases hni with⟨e',rfl⟩|rfl<;>cases base<;>simp[Builtin.append_,run_underlying hu,run_underlying hu',dA hs,hlen,hle,hnew]
def tu(hu:P.underlying t=some (.slice e))(hu':P.underlying t'=some u)(hni:(∃e',u=.slice e')\/u=.string)(hi:P.info? e=some i)(hz:i.zero=some z)
 (hlen:(Builtin.lenOf x').run P w=.ok m w) (hnew:(Builtin.firstCells i.size m x').run P w.drew=.ok news.toArray w.drew) (hold:(Builtin.firstCells i.size len (.slice base len cap)).run P w.drew=.ok olds.toArray w.drew)
 (hgt:cap<len+m) (hmax:len+m<bf) (hfit:(len+m)*i.bytes<bf) :
 (Builtin.append_ (t::t'::tl).toArray ty #[.slice base len cap,x']).run P w =
  .ok (.slice (some ⟨w.heap.size,0,none⟩) (len+m) (grownCap w (len+m) cap e))
   (w.drew.alloc (.cells (olds.toArray++news.toArray++Builtin.zeroCells z.cells (grownCap w (len+m) cap e-(len+m))) e)):=by
 have hn:¬(len+m<=cap):=om;unfold bf at hmax hfit;have h63':¬(9223372036854775807<((len:Int)+(m:Int))):=om;have hf:=Ex hgt hfit;have h48':¬(281474976710656<Builtin.nextslicecap (len+m) cap*i.bytes):=om;rcases hni with⟨e',rfl⟩|rfl<;>simp[Builtin.append_,run_underlying hu,run_underlying hu',sizeOf,typeInfo,zeroValue,hi,hz,hlen,hn,h63',h48',Question.forced,hnew,hold,newRow,grownCap]<;>(congr 2;apply Array.ext';simp[bL])
end
def lD(z:Array Value)(n:Nat):(Builtin.zeroCells z n).size=n*z.size:=by simp[Builtin.zeroCells]
def rj{t t' e ty:TypeId}{u:TypeDesc}{n bts:Nat}{z:List AV}{tl:List TypeId}(hu:P.underlying t=some (.slice e))(hu':P.underlying t'=some u)(hs:eU P e=some n)(hb:tU P e=some bts)(hz:gu P e=some z)
 (hni:(∃e',u=.slice e')\/u=.string) (hzl:z.length=n)
 {s x:AV}{s' x':Value} (hs':VR σ s s') (hx:VR σ x x') (r:Rep K σ h w) {v:AV}{h':AH}{tg:Option Nat} (htg:∀u,tg=some u->u=e/\(K.P.info? e).map (·.size)=some 1) (he:rZ h tg n bts s x=some (v,h')) :
 Yields P K σ (do pure (.value (<-Builtin.append_ (t::t'::tl).toArray ty #[s',x']))) w v h':=by
 obtain⟨i,zv,hi,hzv,hrel⟩:=fh hz;have hin:i.size=n:=by unfold eU at hs;simp[hi]at hs;exact hs
 have hib:i.bytes=bts:=by unfold tU at hb;simp[hi]at hb;exact hb
 have hzs:zv.cells.size=n:=by have:=(hrel σ).length;simp at this;omega
 unfold rZ at he;cases hsrc:fz h n x with
 |none=>simp[hsrc]at he
 |some q =>
   obtain⟨m,new⟩:=q;obtain⟨vs,hvs,hvl,hlen,hfc⟩:=KB (P:=P) r hx hsrc;have hnl:=hvs.length;simp only[hsrc]at he;split at he
   case isFalse=>cases he
   rename_i hall
   have hone:=VRs.all_one hvs hall;cases s<;>simp only[reduceCtorEq]at he
   case nils =>
    simp only[VR]at hs';subst hs';split at he
    .rename_i h0
     subst h0;simp only[aa,aq]at he;obtain⟨rfl,rfl⟩:=he;refine Yields.same (v':=.slice none 0 0) r ?_ (by simp[VR]);simp[lI (ty:=ty) (tl:=tl) (base:=none) (len:=0) (cap:=0) hu hu' hni hs hlen (hfc w (.inl rfl)) om]
    .split at he
     .rename_i h0 hc
      simp only[aa,aq]at he;obtain⟨rfl,rfl⟩:=he;have hrun:=tu (P:=P) (w:=w) (ty:=ty) (tl:=tl) (base:=none) (len:=0) (cap:=0) (olds:=[]) hu hu' hni hi hzv hlen (by rw[hin];exact hfc _ (.inr rfl)) (by simp[Builtin.firstCells]) om om (by rw[hib];simpa using hc.1);simp only[bN]at hrun;have hcap:=kN w m 0 e;refine Yields.newCellsG r new n (#[]++vs.toArray++Builtin.zeroCells zv.cells (grownCap w m 0 e-m)) e (0,0) (.slice (some ⟨w.heap.size,0,none⟩) m (grownCap w m 0 e)) w.drew (.inr rfl) ?_ ?_ ?_ (by simp) ?_ ?_ tg (λu hu=>(htg u hu).1)
      .simp[hrun]
      .simp;omega
      .intro j y hy;obtain⟨b,hb,rb⟩:=hvs.get hy;refine⟨b,?_,rb⟩;have hj:j<vs.length:=(au.1 hb).1;rw[fJ (by simpa using hj)];simpa using hb
      .intro k _;simp
      .intro τ hτ;simp only[VR];refine⟨_,0,grownCap w m 0 e,hτ,rfl,.inr (by simp),hcap,ab _,.inr ⟨by simp,?_⟩⟩;simp only[mL,lD,dg,hvl,hzs,bN,bm];rw[<-dF];exact fW _ om
     .cases he
   case emp =>
    simp only[VR]at hs';obtain⟨ad,rfl⟩:=hs';split at he
    .rename_i h0
     subst h0;simp only[aa,aq]at he;obtain⟨rfl,rfl⟩:=he;have hv0:vs=[]:=aW.1 (by rw[hvl];simp);subst hv0;refine Yields.same (v':=.slice (some ad) 0 0) r ?_ (by simp[VR]);simp[lI (ty:=ty) (tl:=tl) (base:=some ad) (len:=0) (cap:=0) hu hu' hni hs hlen (hfc w (.inl rfl)) om,storeCells]
    .cases he
   case sl b o len cap =>
    have hs0:=hs';simp only[VR]at hs';obtain⟨p,o',c',hp,rfl,hoff,hcc,hnc,hsp⟩:=hs';split at he
    .rename_i h0
     subst h0;simp only[aa,aq]at he;obtain⟨rfl,rfl⟩:=he;have hv0:vs=[]:=aW.1 (by rw[hvl];simp);subst hv0;refine Yields.same (v':=.slice (some ⟨p.blk,o',none⟩) len c') r ?_ hs0;simp[lI (ty:=ty) (tl:=tl) (base:=some ⟨p.blk,o',none⟩) (len:=len) (cap:=c') hu hu' hni hs hlen (hfc w (.inl rfl)) om,storeCells]
    .split at he
     .rename_i h0 hle
      cases hwr:bP h b (o+len*n) new with
      |none=>simp[hwr]at he
      |some h2 =>
        simp only[hwr,aQ,aa,aq]at he;obtain⟨rfl,rfl⟩:=he;have ho:o'=p.d+o:=by rcases hoff with q|q<;>omega
        subst ho;obtain⟨p',hp',g1,g2,g3⟩:=r.wr hwr hvs;rw[hp]at hp';simp only[aa]at hp';subst hp';have hst:=run_storeCells_cells (P:=P) p.blk (p.d+o+len*n) vs 0 w (by simpa[fF]using g1) (by simpa[fF]using g2) hone;refine⟨.value _,.slice (some ⟨p.blk,p.d+o,none⟩) (len+m) c',_,σ,?_,.inl rfl,Sg.le_refl σ,?_,g3⟩
        .simp only[Sem.run_bind,lI (ty:=ty) (tl:=tl) (base:=some ⟨p.blk,p.d+o,none⟩) (len:=len) (cap:=c') hu hu' hni hs hlen (hfc w (.inl rfl)) om,Addr.add_lit,hst,Result.andThen_ok,Sem.run_pure];simp[fF]
        .simp only[VR];exact⟨p,_,c',hp,rfl,.inr rfl,hcc,hle,hsp⟩
     .split at he
      .rename_i h0 hgt hsmall
       split at he
       .rename_i cs e' old hg hold
        split at he
        .rename_i hee
         subst hee;split at he
         case isFalse=>cases he
         rename_i htt
         simp only[aa,aq]at he;obtain⟨rfl,rfl⟩:=he;obtain⟨p2,hp2,C,tt,fr,g1,g2,g3,g4,g5,g6⟩:=r.obj b _ hg rfl;rw[hp]at hp2;simp only[aa]at hp2;subst hp2;obtain⟨⟨hB,hff⟩,hfr⟩:=g6.1 rfl;obtain⟨ovs,hovs,hovl,hoc⟩:=r.rd hold hp;have hoc':∀j v,ovs[j]?=some v->w.cell? ⟨p.blk,o'+j,none⟩=some v:=by
          intro j v hv;rcases hoff with q|q
          .have:ovs.length=0:=by rw[hovl];have:len=0:=om
                                 rw[this];simp
           rw[aW.1 this]at hv;simp at hv
          .subst q;exact hoc j v hv
         have rk:=r.kill (b:=b) hg;have hon:=hovs.length;by_cases hin2:len+m<=c'
         ·
          obtain⟨s1,s2⟩:p.d<=o'/\o'+c'*p.esz<=p.N:=by
           rcases hsp with q|q
           .exact absurd hin2 om
           .exact q
          rw[g3]at s2;have hspan:(len+m)*e'<=c'*e':=fW _ hin2;have hmul:(len+m)*e'=len*e'+m*e':=dF _ _ _;have hsz:o'+len*e'+vs.length<=C.size:=by rw[hvl,g2];omega
          have hcc2:∀j,j<vs.length->(w.cell? ⟨p.blk,o'+len*e'+j,none⟩).isSome=true:=by
           intro j hj;have:o'+len*e'+j<C.size:=om;simp[World.cell?,g1,this]
          have hff2:∀j,j<vs.length->w.frozen? ⟨p.blk,o'+len*e'+j,none⟩=false:=by
           intro j hj;have:=hfr (o'+len*e'+j) om;simp only[World.frozen?,g1,nj,ce];by_cases q:fr.1<=o'+len*e'+j
           .exact Or.inr λq2=>this ⟨q,q2⟩
           .exact Or.inl q
          have hst:=run_storeCells_cells (P:=P) p.blk (o'+len*e') vs 0 w (by simpa using hcc2) (by simpa using hff2) hone;obtain⟨C',a1,a2,a3⟩:=kw p.blk vs (o'+len*e') w C tt fr g1 hsz;have hno:∀b' ob j,(h.put b .dead).get b'=some ob->ob.live=true->σ b'=some j->j.blk≠p.blk:=by
           intro b' ob j hgb hlb hjb;rw[AH.get_put _ _ _ _ (AH.lt_of_get hg)]at hgb;by_cases hbb:b=b'
           .subst hbb;simp only[if_true,aa]at hgb;subst hgb;cases hlb
           .simp only[hbb,if_false]at hgb;exact λq=>r.own b b' _ ob p j hg hgb hbb rfl hlb hp hjb q.symm
          have rt:=rk.turn (w':=w.setCells p.blk (o'+len*e') vs) p.blk hno (λx q=>by rw[g1]at q;simp at q) (λk hk=>mF _ _ _ _ _ hk) (lX hB _ _ _ r.below) (by rw[mz];exact r.le);have rnew:Rep K (σ.add h.next { blk:=p.blk,d:=o',esz:=e',N:=p.N,ty:=p.ty}) ((h.put b .dead).new (.cells (old++new) e' false)) (w.setCells p.blk (o'+len*e') vs):=by
           refine rt.newIn _ { blk:=p.blk,d:=o',esz:=e',N:=p.N,ty:=p.ty} hno ?_;intro τ hτ;refine⟨C',tt,fr,a1,by rw[a2,g2],rfl,?_,λj y hy=>?_,λ_=>⟨⟨hB,hff⟩,λk hk2=>hfr k hk2⟩,g6.2⟩
           .show o'+(old++new).length<=p.N;rw[aJ,<-hon,<-hnl,hovl,hvl];omega
           .show ∃z:Value,C'[o'+j]?=some z/\VR τ y z;rw[a3];rcases eW j old.length with hj|hj
            .rw[bC hj]at hy;obtain⟨z,hz1,rz⟩:=hovs.get hy;refine⟨z,?_,VR.mono hτ _ _ rz⟩;rw[if_neg om];have:=hoc' j z hz1;simpa[World.cell?,g1]using this
            .rw[bw hj]at hy;obtain⟨z,hz1,rz⟩:=hvs.get hy;refine⟨z,?_,VR.mono hτ _ _ rz⟩;have hlt:=(au.1 hz1).1;rw[if_pos om,show o'+j-(o'+len*e')=j-old.length from by omega];exact hz1
          have rnew2:Rep K (σ.add h.next { blk:=p.blk,d:=o',esz:=e',N:=p.N,ty:=p.ty}) ((h.put b .dead).newG (.cells (old++new) e' false) tg) (w.setCells p.blk (o'+len*e') vs):=by
           cases htg0:tg with
           |none=>exact rnew
           |some u =>
             have h1:=htg u htg0;subst htg0;rcases htt with q|q
             .cases q
             .have h2:=((r.dom.2 b u q).2 p hp).1;refine Rep.typed (h:=h.put b .dead) (i:={ blk:=p.blk,d:=o',esz:=e',N:=p.N,ty:=p.ty}) rnew h2 (.inl ?_);rw[h1.1];exact h1.2
          refine⟨.value _,.slice (some ⟨p.blk,o',none⟩) (len+m) c',w.setCells p.blk (o'+len*e') vs,σ.add h.next { blk:=p.blk,d:=o',esz:=e',N:=p.N,ty:=p.ty},?_,.inl rfl,Sg.le_add r.fresh,?_,rnew2⟩
          .simp only[Sem.run_bind,lI (ty:=ty) (tl:=tl) (base:=some ⟨p.blk,o',none⟩) (len:=len) (cap:=c') hu hu' hni hs hlen (hfc w (.inl rfl)) hin2,Addr.add_lit,hst,Result.andThen_ok,Sem.run_pure];simp
          .simp only[VR];refine⟨_,o',c',Sg.add_at _ _ _,rfl,.inr (by simp),hin2,ab _,.inr ⟨ab _,s2⟩⟩
         ·
          have hold2:(Builtin.firstCells i.size len (.slice (some ⟨p.blk,o',none⟩) len c')).run P w.drew=.ok ovs.toArray w.drew:=by
           rw[hin];simp only[Builtin.firstCells];rw[<-hovl];exact run_loadCells_list w.drew _ ovs λj v hv=>by rw[Addr.add_lit];exact hoc' j v hv
          have hrun:=tu (P:=P) (w:=w) (ty:=ty) (tl:=tl) (base:=some ⟨p.blk,o',none⟩) (len:=len) (cap:=c') (olds:=ovs) hu hu' hni hi hzv hlen (by rw[hin];exact hfc _ (.inr rfl)) hold2 om hsmall.2 (by rw[hib];exact hsmall.1);have hcap:=kN w (len+m) c' e;refine Yields.newCellsG rk (old++new) e' (ovs.toArray++vs.toArray++Builtin.zeroCells zv.cells (grownCap w (len+m) c' e-(len+m))) e (0,0) (.slice (some ⟨w.heap.size,0,none⟩) (len+m) (grownCap w (len+m) c' e)) w.drew (.inr rfl) ?_ ?_ ?_ (by simp) ?_ ?_ tg (λu hu=>(htg u hu).1)
          .simp[hrun]
          .simp;omega
          .intro j y hy;obtain⟨b2,hb2,rb2⟩:=(hovs.append hvs).get hy;refine⟨b2,?_,rb2⟩;have hj:j<(ovs++vs).length:=(au.1 hb2).1;rw[fJ (by simpa using hj)];simpa using hb2
          .intro k _;simp
          .intro τ hτ;simp only[VR];refine⟨_,0,grownCap w (len+m) c' e,hτ,rfl,.inr (by simp),hcap,ab _,.inr ⟨by simp,?_⟩⟩;simp only[mL,lD,dg,hvl,hovl,hzs,bN];rw[<-dF,<-dF];exact fW _ om
        .cases he
       .cases he
      .cases he
def Lf{t t' e ty:TypeId}{u:TypeDesc}{n bts:Nat}{z:List AV}{tl:List TypeId}(hu:P.underlying t=some (.slice e))(hu':P.underlying t'=some u)(hs:eU P e=some n)(hb:tU P e=some bts)(hz:gu P e=some z)
 (hni:(∃e',u=.slice e')\/u=.string) (hzl:z.length=n)
 {s x:AV}{s' x':Value} (hs':VR σ s s') (hx:VR σ x x') (r:Rep K σ h w) {v:AV}{h':AH} (he:gh h n bts s x=some (v,h')) :
 Yields P K σ (do pure (.value (<-Builtin.append_ (t::t'::tl).toArray ty #[s',x']))) w v h' :=
 rj hu hu' hs hb hz hni hzl hs' hx r (tg:=none) (λu hu=>by cases hu) (by rw[yh];exact he)
end
end Go.Am
