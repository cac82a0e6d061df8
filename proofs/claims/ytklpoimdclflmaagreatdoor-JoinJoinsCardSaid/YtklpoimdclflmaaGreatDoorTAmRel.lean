/- How the clean machine's values and memory lie in the model's -/
import Derived.Test.YtklpoimdclflmaaGreatDoorTAmDefs
import Derived.Below
import Derived.Laws.Cells
import Derived.Laws.IdiomCopy
set_option linter.all false
namespace Go.Am
open Go.RowKit
structure Pl where
 blk:Nat
 d:Nat
 esz:Nat
 N:Nat
 ty:TypeId:=0
abbrev Sg:=Nat->Option Pl
def Sg.le(σ τ:Sg):Prop:=∀b i,σ b=some i->τ b=some i
def Sg.le_refl(σ:Sg):σ.le σ:=λ_ _ h=>h
def Sg.le_trans{σ τ υ:Sg}(h:σ.le τ)(k:τ.le υ):σ.le υ:=λb i e=>k b i (h b i e)
def Sg.add(σ:Sg)(n:Nat)(i:Pl):Sg:=λb=>if b=n then some i else σ b
def Sg.le_add{σ:Sg}{n:Nat}{i:Pl}(h:σ n=none):σ.le (σ.add n i):=λb j e=>by
 unfold Sg.add;by_cases hb:b=n
 .subst hb;rw[h]at e;cases e
 .simp[hb,e]
def Sg.add_at(σ:Sg)(n:Nat)(i:Pl):σ.add n i n=some i:=by simp[Sg.add]
mutual
def VR(σ:Sg):AV->Value->Prop
 |.bool b,v=>v=.bool b
 |.int k n,v=>v=.int k n
 |.str s,v=>∃ba:ByteArray,v=.string ba/\ba.data.toList=s
 |.ptr b o,v=>∃i,σ b=some i/\v=.pointer (some ⟨i.blk,i.d+o,none⟩)
 |.nilp,v=>v=.pointer none
 |.sl b o n c,v=>∃i o' c',σ b=some i/\v=.slice (some ⟨i.blk,o',none⟩) n c'/\(c=0\/o'=i.d+o)/\c<=c'/\n<=c/\(c'=c\/(i.d<=o'/\o'+c'*i.esz<=i.N))
 |.nils,v=>v=.slice none 0 0
 |.mp b,v=>∃i,σ b=some i/\v=.map (some i.blk)
 |.nilm,v=>v=.map none
 |.fn f caps,v=>∃vs:List Value,v=.func (.func f) #[] vs.toArray/\VRs σ caps vs
 |.yld l,v=>∃i,σ l=some i/\v=.func (.yield i.blk) #[] #[]
 |.nilf,v=>v=.nilFunc
 |.ifc t x,v=>∃y,v=.iface t y/\VR σ x y
 |.nili,v=>v=.nilIface
 |.agg cs,v=>∃vs:List Value,v=.agg vs.toArray/\VRs σ cs vs
 |.tup cs,v=>∃vs:List Value,v=.tuple vs.toArray/\VRs σ cs vs
 |.any,v=>v.oneCell'=true
 |.emp,v=>∃a,v=.slice (some a) 0 0
def VRs(σ:Sg):List AV->List Value->Prop
 |[],vs=>vs=[]
 |c::cs,vs=>∃x xs,vs=x::xs/\VR σ c x/\VRs σ cs xs
end
mutual
def VR.mono{σ τ:Sg}(h:σ.le τ):∀(a:AV) (v:Value),VR σ a v->VR τ a v
 |.bool b,v,e=>by simpa[VR]using e
 |.int k n,v,e=>by simpa[VR]using e
 |.str s,v,e=>by simpa[VR]using e
 |.ptr b o,v,e=>by
   simp only[VR]at e |-;obtain⟨i,hi,r⟩:=e;exact⟨i,h _ _ hi,r⟩
 |.nilp,v,e=>by simpa[VR]using e
 |.sl b o n c,v,e=>by
   simp only[VR]at e |-;obtain⟨i,o',c',hi,r⟩:=e;exact⟨i,o',c',h _ _ hi,r⟩
 |.nils,v,e=>by simpa[VR]using e
 |.mp b,v,e=>by
   simp only[VR]at e |-;obtain⟨i,hi,r⟩:=e;exact⟨i,h _ _ hi,r⟩
 |.nilm,v,e=>by simpa[VR]using e
 |.fn f caps,v,e=>by
   simp only[VR]at e |-;obtain⟨vs,r,hs⟩:=e;exact⟨vs,r,VRs.mono h caps vs hs⟩
 |.yld l,v,e=>by
   simp only[VR]at e |-;obtain⟨i,hi,r⟩:=e;exact⟨i,h _ _ hi,r⟩
 |.nilf,v,e=>by simpa[VR]using e
 |.ifc t x,v,e=>by
   simp only[VR]at e |-;obtain⟨y,r,hs⟩:=e;exact⟨y,r,VR.mono h x y hs⟩
 |.nili,v,e=>by simpa[VR]using e
 |.agg cs,v,e=>by
   simp only[VR]at e |-;obtain⟨vs,r,hs⟩:=e;exact⟨vs,r,VRs.mono h cs vs hs⟩
 |.tup cs,v,e=>by
   simp only[VR]at e |-;obtain⟨vs,r,hs⟩:=e;exact⟨vs,r,VRs.mono h cs vs hs⟩
 |.any,v,e=>by simpa[VR]using e
 |.emp,v,e=>by simpa[VR]using e
def VRs.mono{σ τ:Sg}(h:σ.le τ):∀(a:List AV) (v:List Value),VRs σ a v->VRs τ a v
 |[],v,e=>by simpa[VRs]using e
 |c::cs,v,e=>by
   simp only[VRs]at e |-;obtain⟨x,xs,r,h1,h2⟩:=e;exact⟨x,xs,r,VR.mono h c x h1,VRs.mono h cs xs h2⟩
end
variable {b n:Nat}{cs:List AV}{ds:List Nat}{h:AH}{i:Pl}{o:AO}{w w':World}{σ τ:Sg}
def VRs.length{σ:Sg}:∀{a:List AV}{v:List Value},VRs σ a v->v.length=a.length
 |[],v,e=>by simp only[VRs]at e;simp[e]
 |c::cs,v,e=>by
   simp only[VRs]at e;obtain⟨x,xs,rfl,h1,h2⟩:=e;simp[VRs.length h2]
def VRs.get{σ:Sg}:∀{a:List AV}{v:List Value}{i:Nat}{x:AV},VRs σ a v->a[i]?=some x->∃y,v[i]?=some y/\VR σ x y
 |[],v,i,x,e,h=>by simp at h
 |c::cs,v,0,x,e,h=>by
   simp only[VRs]at e;obtain⟨y,ys,rfl,h1,h2⟩:=e;simp only[bD,aa]at h;subst h;exact⟨y,by simp,h1⟩
 |c::cs,v,i+1,x,e,h=>by
   simp only[VRs]at e;obtain⟨y,ys,rfl,h1,h2⟩:=e;simp only[cJ]at h;obtain⟨z,hz,r⟩:=VRs.get h2 h;exact⟨z,by simpa using hz,r⟩
def VRs.of_get{σ:Sg}:∀{a:List AV}{v:List Value},v.length=a.length->(∀(i:Nat) (x:AV),a[i]?=some x->∃y,v[i]?=some y/\VR σ x y)->VRs σ a v
 |[],v,hl,_=>by simp at hl;simp[VRs,hl]
 |c::cs,[],hl,_=>by simp at hl
 |c::cs,y::ys,hl,h=>by
   simp only[VRs];refine⟨y,ys,rfl,?_,VRs.of_get (by simpa using hl) λi x hi=>?_⟩
   .obtain⟨z,hz,r⟩:=h 0 c (by simp);simp only[bD,aa]at hz;subst hz;exact r
   .obtain⟨z,hz,r⟩:=h (i+1) x (by simpa using hi);exact⟨z,by simpa using hz,r⟩
def VRs.append{a b:List AV}{v w:List Value}(h:VRs σ a v)(k:VRs σ b w):VRs σ (a++b) (v++w):=by
 induction a generalizing v with
 |nil=>simp only[VRs]at h;subst h;simpa using k
 |cons c cs ih =>
   simp only[VRs]at h;obtain⟨x,xs,rfl,h1,h2⟩:=h;simp only[bX,VRs];exact⟨x,xs++w,rfl,h1,ih h2⟩
def VRs.take{σ:Sg}{a:List AV}{v:List Value}(h:VRs σ a v)(n:Nat):VRs σ (a.take n) (v.take n):=by
 induction a generalizing v n with
 |nil=>simp only[VRs]at h;subst h;simp[VRs]
 |cons c cs ih =>
   simp only[VRs]at h;obtain⟨x,xs,rfl,h1,h2⟩:=h;cases n with
   |zero=>simp[VRs]
   |succ n=>simp only[eH,VRs];exact⟨x,xs.take n,rfl,h1,ih h2 n⟩
def VRs.drop{σ:Sg}{a:List AV}{v:List Value}(h:VRs σ a v)(n:Nat):VRs σ (a.drop n) (v.drop n):=by
 induction a generalizing v n with
 |nil=>simp only[VRs]at h;subst h;simp[VRs]
 |cons c cs ih =>
   simp only[VRs]at h;obtain⟨x,xs,rfl,h1,h2⟩:=h;cases n with
   |zero=>simp only[df,VRs];exact⟨x,xs,rfl,h1,h2⟩
   |succ n=>simpa using ih h2 n
def VR.cells{σ:Sg}{a:AV}{v:Value}(h:VR σ a v):VRs σ a.cells v.cells.toList:=by
 cases a
 case agg cs=>simp only[VR]at h;obtain⟨vs,rfl,hs⟩:=h;simpa[AV.cells,Value.cells]using hs
 case any =>
  simp only[AV.cells,VRs];refine⟨v,[],?_,h,rfl⟩;simp only[VR]at h;cases v<;>first|rfl|simp[Value.oneCell']at h
 all_goals
  simp only[AV.cells,VRs];refine⟨v,[],?_,h,rfl⟩;simp only[VR]at h
  (first|subst h|obtain⟨_,rfl,_⟩:=h|obtain⟨_,_,rfl⟩:=h|obtain⟨_,_,_,_,rfl,_⟩:=h)
  rfl
def VR.one{σ:Sg}{a:AV}{v:Value}(h:VR σ a v)(ha:a.one=true):v.oneCell'=true:=by
 cases a
 case agg cs=>cases ha
 case tup cs=>cases ha
 case any=>simpa[VR]using h
 all_goals
  simp only[VR]at h
  (first|subst h|obtain⟨_,rfl,_⟩:=h|obtain⟨_,_,rfl⟩:=h|obtain⟨_,_,_,_,rfl,_⟩:=h)
  rfl
def AO.live:AO->Bool
 |.dead=>false
 |.resv=>false
 |.cells cs _ ro=>!(ro&&cs.isEmpty)
 |_=>true
def AO.excl:AO->Bool
 |.dead=>false
 |.resv=>false
 |.cells _ _ true=>false
 |_=>true
def AO.live_of_excl(h:o.excl=true):o.live=true:=by
 cases o with
 |cells cs e ro=>cases ro<;>simp_all[AO.excl,AO.live]
 |_=>simp_all[AO.excl,AO.live]
structure Bs where
 B:Nat
 w0:World
 P:Program
 D:List Nat
def Bs.dd(K:Bs)(ds:List Nat):Bs:={ K with D:=ds++K.D}
def TR1(σ:Sg)(ts:Tm)(tmps:Array Value):Prop:=∀n,VR σ (db ts n) (tmps.getD n undef)
def GL(σ:Sg):Prop:=∀g,g<NG->∃i,σ g=some i/\i.blk=g/\i.d=0
def GL.mono(h:GL σ)(hl:σ.le τ):GL τ:=λg hg=>let ⟨i,a,b⟩:=h g hg;⟨i,hl _ _ a,b⟩
def TR(σ:Sg)(ts:Tm)(tmps:Array Value):Prop:=TR1 σ ts tmps/\GL σ
def TR.mono{σ τ:Sg}{ts:Tm}{tmps:Array Value}(h:TR σ ts tmps)(hl:σ.le τ):TR τ ts tmps:=⟨λn=>VR.mono hl _ _ (h.1 n),h.2.mono hl⟩
def LS.of:LS->LoopState
 |.ready=>.ready
 |.busy=>.busy
 |.done=>.done
 |.over=>.exhausted
def qw:Option (Option Nat)->Option Code
 |none=>none
 |some none=>some .ret
 |some (some id)=>some (.exit id)
def cG:Code->List Bool->Option Code
 |c,[]=>some c
 |.seq a _,false::p=>cG a p
 |.seq _ b,true::p=>cG b p
 |.cond _ a _,false::p=>cG a p
 |.cond _ _ b,true::p=>cG b p
 |.block _ c,false::p=>cG c p
 |.loop c,false::p=>cG c p
 |_,_=>none
def ObjR(K:Bs)(σ:Sg)(w:World)(i:Pl):AO->Prop
 |.cells cs e ro=>∃(C:Array Value) (t:TypeId) (fr:Nat×Nat),w.heap[i.blk]?=some (.cells C t fr)/\C.size=i.N/\i.esz=e/\i.d+cs.length<=i.N /\
  (∀(j:Nat) (x:AV),cs[j]?=some x->∃y:Value,C[i.d+j]?=some y/\VR σ x y)/\(ro=false->(K.B<=i.blk/\fr.1<=fr.2)/\∀k,k<i.N->¬(fr.1<=k/\k<fr.2))/\t=i.ty
 |.dead=>True
 |.resv=>False
 |.mapo es clock=>∃es':List MapEntry,w.heap[i.blk]?=some (.map es'.toArray clock)/\K.B<=i.blk/\es'.length=es.length /\
  ∀(j:Nat) (k v:AV) (n:Nat),es[j]?=some (k,v,n)->∃e:MapEntry,es'[j]?=some e/\VR σ k e.key/\VR σ v e.val/\e.born=n
 |.sit s pos=>∃ba:ByteArray,w.heap[i.blk]?=some (.stringIter ba pos)/\ba.data.toList=s/\K.B<=i.blk
 |.mit m since seen last=>∃mo:Option Nat,w.heap[i.blk]?=some (.mapIter mo since seen.toArray last)/\K.B<=i.blk/\i.d=0/\((m=none/\mo=none)\/∃b j,m=some b/\σ b=some j/\mo=some j.blk)
 |.lp fn p ts ps st pend=>∃(L:Loop) (func:Func) (c:Code) (g:Operand),w.heap[i.blk]?=some (.loop L)/\K.B<=i.blk/\L.params.toList=ps/\L.state=st.of/\L.pending=qw pend /\
  K.P.funcs[fn]?=some func/\func.body=some c/\cG c p=some (.rangeFunc g L.params L.assign L.body)/\func.ntmps<=L.tmps.size/\TR σ ts L.tmps
 |.other=>False
structure Rep(K:Bs)(σ:Sg)(h:AH)(w:World):Prop where
 dom:(∀b i,σ b=some i->b<h.next/\h.get b≠some .resv)/\∀b t,h.tyOf b=some t->(b<h.next/\h.get b≠some .resv)/\∀i,σ b=some i->i.ty=t/\((K.P.info? t).map (·.size)=some 1\/i.d=0)
 obj:∀b o,h.get b=some o->o.live=true->∃i,σ b=some i/\ObjR K σ w i o
 own:∀b b' o o' i i',h.get b=some o->h.get b'=some o'->b≠b'->o.excl=true->o'.live=true->σ b=some i->σ b'=some i'->i.blk≠i'.blk
 below:Below K.B K.w0 w
 le:K.B<=w.heap.size
 esz:∀b cs e ro i,h.get b=some (.cells cs e ro)->σ b=some i->i.esz=e
 dfr:K.D.Nodup/\∀k∈K.D,w.heap[k]?=some (.deferred (some []))
variable {K:Bs}
def Rep.fresh(r:Rep K σ h w):σ h.next=none:=by
 cases e:σ h.next with
 |none=>rfl
 |some i=>exact absurd (r.dom.1 _ _ e).1 (Nat.lt_irrefl _)
def ObjR.lt(ho:o.live=true)(h:ObjR K σ w i o):i.blk<w.heap.size:=by
 have key:∀{x:Obj},w.heap[i.blk]?=some x->i.blk<w.heap.size:=λhx=>(ct.1 hx).1;cases o with
 |cells cs e ro=>obtain⟨C,t,fr,h1,_⟩:=h;exact key h1
 |dead=>cases ho
 |resv=>cases ho
 |mapo es c=>obtain⟨es',h1,_⟩:=h;exact key h1
 |sit s p=>obtain⟨ba,h1,_⟩:=h;exact key h1
 |mit m s n l=>obtain⟨mo,h1,_⟩:=h;exact key h1
 |lp fn p ts ps st pd=>obtain⟨L,_,_,_,h1,_⟩:=h;exact key h1
 |other=>exact h.elim
def ObjR.ndef(ho:o.live=true)(h:ObjR K σ w i o)(x:Option (List Deferred)):w.heap[i.blk]?≠some (.deferred x):=by
 intro e;cases o with
 |cells cs e1 ro=>obtain⟨C,t,fr,h1,_⟩:=h;rw[h1]at e;simp at e
 |dead=>cases ho
 |resv=>cases ho
 |mapo es c=>obtain⟨es',h1,_⟩:=h;rw[h1]at e;simp at e
 |sit s p=>obtain⟨ba,h1,_⟩:=h;rw[h1]at e;simp at e
 |mit m s n l=>obtain⟨mo,h1,_⟩:=h;rw[h1]at e;simp at e
 |lp fn p ts ps st pd=>obtain⟨L,_,_,_,h1,_⟩:=h;rw[h1]at e;simp at e
 |other=>exact h.elim
def ObjR.keep(h:ObjR K σ w i o)(hσ:σ.le τ)(hb:w'.heap[i.blk]?=w.heap[i.blk]?):ObjR K τ w' i o:=by
 cases o with
 |cells cs e ro =>
   obtain⟨C,t,fr,h1,h2,h3,h4,h5,h6⟩:=h;refine⟨C,t,fr,by rw[hb,h1],h2,h3,h4,λj x hx=>?_,h6⟩;obtain⟨y,hy,r⟩:=h5 j x hx;exact⟨y,hy,VR.mono hσ _ _ r⟩
 |dead=>trivial
 |resv=>exact h.elim
 |mapo es c =>
   obtain⟨es',h1,h2,h3,h4⟩:=h;refine⟨es',by rw[hb,h1],h2,h3,λj k v n hx=>?_⟩;obtain⟨e,he,r1,r2,r3⟩:=h4 j k v n hx;exact⟨e,he,VR.mono hσ _ _ r1,VR.mono hσ _ _ r2,r3⟩
 |sit s p=>obtain⟨ba,h1,h2⟩:=h;exact⟨ba,by rw[hb,h1],h2⟩
 |mit m s n l =>
   obtain⟨mo,h1,h2,h0,h3⟩:=h;refine⟨mo,by rw[hb,h1],h2,h0,?_⟩;rcases h3 with h3|⟨b,j,e1,e2,e3⟩
   .exact .inl h3
   .exact .inr ⟨b,j,e1,hσ _ _ e2,e3⟩
 |lp fn p ts ps st pd =>
   obtain⟨L,func,c,g,h1,h2,h4,h5,h6,h7,h8,h9,h10,h11⟩:=h;exact⟨L,func,c,g,by rw[hb,h1],h2,h4,h5,h6,h7,h8,h9,h10,h11.mono hσ⟩
 |other=>exact h.elim
def Rep.drew{K:Bs}{σ:Sg}{h:AH}{w:World}(r:Rep K σ h w):Rep K σ h w.drew :=
 ⟨r.dom,λb o hg hl=>let ⟨i,hi,ho⟩:=r.obj b o hg hl;⟨i,hi,ho.keep (Sg.le_refl σ) rfl⟩,r.own,r.below.drew,r.le,r.esz,r.dfr⟩
def Rep.rd(r:Rep K σ h w){o:Nat}(hr:ai h b o n=some cs)(hi:σ b=some i) :
 ∃vs,VRs σ cs vs/\vs.length=n/\∀j v,vs[j]?=some v->w.cell? ⟨i.blk,i.d+o+j,none⟩=some v:=by
 unfold ai at hr;cases hg:h.get b with
 |none=>simp[hg]at hr
 |some ob =>
   cases ob with
   |cells cs' e ro =>
     simp only[hg]at hr;by_cases hle:o+n<=cs'.length
     .simp only[hle,if_true,aa]at hr;by_cases hl:(AO.cells cs' e ro).live=true
      .obtain⟨i',hi',C,t,fr,h1,h2,h3,h4,h5,h6⟩:=r.obj b _ hg hl;rw[hi]at hi';simp only[aa]at hi';subst hi';refine⟨(C.toList.drop (i.d+o)).take n,?_,?_,?_⟩
       .subst hr;refine VRs.of_get ?_ ?_
        .simp;omega
        .intro j x hx;have hj:j<n:=by
          rcases eW j n with h'|h'
          .exact h'
          .rw[bJ (by simp;omega)]at hx;cases hx
         rw[cS,if_pos hj,fS]at hx;obtain⟨y,hy,ry⟩:=h5 (o+j) x hx;refine⟨y,?_,ry⟩;rw[cS,if_pos hj,fS,eJ];rw[show i.d+o+j=i.d+(o+j) from by omega];exact hy
       .simp;omega
       .intro j v hv;have hj:j<n:=by
         rcases eW j n with h'|h'
         .exact h'
         .rw[bJ (by simp;omega)]at hv;cases hv
        rw[cS,if_pos hj,fS,eJ]at hv;simp[World.cell?,h1,hv]
      .have hemp:cs'=[]:=by
        simp only[AO.live,dZ,nj,not_or,Bool.not_eq_false]at hl;exact tX.1 (by simpa using hl.2)
       subst hemp;have hn:n=0:=by simp at hle;omega
       subst hn;have:cs=[]:=by rw[<-hr];simp
       subst this;exact⟨[],rfl,rfl,λj v hv=>by simp at hv⟩
     .simp[hle]at hr
   |_=>simp[hg]at hr
def Rep.esz_new(r:Rep K σ h w)(ho:∀cs e ro,o=.cells cs e ro->i.esz=e) :
 ∀b cs e ro j,(h.new o).get b=some (.cells cs e ro)->(σ.add h.next i) b=some j->j.esz=e:=by
 intro b cs e ro j hg hj;rw[AH.get_new]at hg;unfold Sg.add at hj;by_cases hb:b=h.next
 .simp only[hb,if_true,aa]at hg hj;subst hj;exact ho cs e ro hg
 .simp only[hb,if_false]at hg hj;exact r.esz b cs e ro j hg hj
def Rep.dom_new(r:Rep K σ h w)(ho:o≠.resv)(i:Pl):(∀b j,(σ.add h.next i) b=some j->b<(h.new o).next/\(h.new o).get b≠some .resv)/\∀b t,(h.new o).tyOf b=some t->(b<(h.new o).next/\(h.new o).get b≠some .resv)/\∀j,(σ.add h.next i) b=some j->j.ty=t/\((K.P.info? t).map (·.size)=some 1\/j.d=0):=by
 refine⟨λb j hj=>?_,λb t ht=>?_⟩
 .rw[AH.get_new];unfold Sg.add at hj;by_cases hb:b=h.next
  .subst hb;simp[ho]
  .simp only[hb,if_false]at hj |-;have:=r.dom.1 _ _ hj;exact⟨by have:=this.1;simp;omega,this.2⟩
 .have h1:=r.dom.2 b t ht;refine⟨⟨by have:=h1.1.1;simp;omega,?_⟩,λj hj=>h1.2 j ?_⟩
  .rw[AH.get_new,if_neg (by have:=h1.1.1;omega)];exact h1.1.2
  .unfold Sg.add at hj;rwa [if_neg (by have:=h1.1.1;omega)]at hj
def Rep.dom_put(r:Rep K σ h w)(hb:b<h.next)(ho:o≠.resv):(∀c i,σ c=some i->c<(h.put b o).next/\(h.put b o).get c≠some .resv)/\∀c t,(h.put b o).tyOf c=some t->(c<(h.put b o).next/\(h.put b o).get c≠some .resv)/\∀i,σ c=some i->i.ty=t/\((K.P.info? t).map (·.size)=some 1\/i.d=0):=by
 have key:∀c,c<h.next/\h.get c≠some .resv->c<(h.put b o).next/\(h.put b o).get c≠some .resv:=by
  intro c hc;refine⟨hc.1,?_⟩;rw[AH.get_put _ _ _ _ hb];by_cases e:b=c
  .rw[if_pos e];simp[ho]
  .rw[if_neg e];exact hc.2
 exact⟨λc i hi=>key c (r.dom.1 c i hi),λc t ht=>⟨key c (r.dom.2 c t ht).1,(r.dom.2 c t ht).2⟩⟩
def ObjR.nresv(h:ObjR K σ w i o):o≠.resv:=by
 rintro rfl;exact h
def Rep.typed(r:Rep K (σ.add h.next i) (h.new o) w){t:Nat}(hi:i.ty=t)(hd:(K.P.info? t).map (·.size)=some 1\/i.d=0):Rep K (σ.add h.next i) (h.newT o t) w:=by
 refine⟨⟨r.dom.1,λb u hu=>?_⟩,r.obj,r.own,r.below,r.le,r.esz,r.dfr⟩;rw[AH.tyOf_newT]at hu;by_cases hb:h.next=b
 .subst hb;rw[if_pos rfl]at hu;simp only[aa]at hu;subst hu;refine⟨r.dom.1 _ _ (Sg.add_at _ _ _),λj hj=>?_⟩;rw[Sg.add_at]at hj;simp only[aa]at hj;subst hj;exact⟨hi,hd⟩
 .rw[if_neg hb]at hu;exact r.dom.2 b u hu
def Rep.new{K:Bs}{σ:Sg}{h:AH}{w:World}(r:Rep K σ h w)(o:AO)(x:Obj)(i:Pl)(hi:i.blk=w.heap.size)
 (ho:∀τ,σ.le τ->ObjR K τ (w.alloc x) i o):Rep K (σ.add h.next i) (h.new o) (w.alloc x):=by
 have hle:σ.le (σ.add h.next i):=Sg.le_add r.fresh;have hnr:o≠.resv:=(ho _ hle).nresv;refine⟨?_,?_,?_,r.below.alloc r.le x,by simp;exact sj r.le,r.esz_new (i:=i) (λcs e ro q=>by subst q;obtain⟨_,_,_,_,_,h3,_⟩:=ho _ hle;exact h3),r.dfr.1,λk hk=>by
  have:=r.dfr.2 k hk;rw[Below.heap_alloc _ _ _ (ct.1 this).1];exact this⟩
 .exact r.dom_new hnr i
 .intro b ob hg hl;rw[AH.get_new]at hg;by_cases hb:b=h.next
  .subst hb;simp only[if_true,aa]at hg;subst hg;exact⟨i,Sg.add_at _ _ _,ho _ hle⟩
  .simp only[hb,if_false]at hg;obtain⟨j,hj,hr⟩:=r.obj b ob hg hl;exact⟨j,hle _ _ hj,hr.keep hle (Below.heap_alloc _ _ _ (hr.lt hl))⟩
 .intro b b' ob ob' j j' hg hg' hne hx hl hj hj';rw[AH.get_new]at hg hg';by_cases hb:b=h.next
  .subst hb;have hb':¬b'=h.next:=λe=>hne e.symm;simp only[hb',if_false]at hg';rw[Sg.add_at]at hj;simp only[aa]at hj;subst hj;simp only[Sg.add,hb',if_false]at hj';obtain⟨j2,hj2,hr⟩:=r.obj b' ob' hg' hl;rw[hj']at hj2;simp only[aa]at hj2;subst hj2;have:=hr.lt hl;omega
  .simp only[hb,if_false]at hg;simp only[Sg.add,hb,if_false]at hj;by_cases hb':b'=h.next
   .subst hb';rw[Sg.add_at]at hj';simp only[aa]at hj';subst hj';have hlb:ob.live=true:=AO.live_of_excl hx;obtain⟨j2,hj2,hr⟩:=r.obj b ob hg hlb;rw[hj]at hj2;simp only[aa]at hj2;subst hj2;have:=hr.lt hlb;omega
   .simp only[hb',if_false]at hg';simp only[Sg.add,hb',if_false]at hj';exact r.own b b' ob ob' j j' hg hg' hne hx hl hj hj'
def Rep.put{K:Bs}{σ:Sg}{h:AH}{w w':World}(r:Rep K σ h w){b:Nat}{o0 o:AO}{i:Pl}(hb:h.get b=some o0)(hi:σ b=some i)
 (hx0:o0.excl=true) (hn:ObjR K σ w' i o) (hother:∀k,k≠i.blk->w'.heap[k]?=w.heap[k]?) (hbel:Below K.B K.w0 w') (hle:K.B<=w'.heap.size):Rep K σ (h.put b o) w':=by
 have hlt:=AH.lt_of_get hb;have hl0:o0.live=true:=AO.live_of_excl hx0;refine⟨r.dom_put hlt hn.nresv,?_,?_,hbel,hle,?_,r.dfr.1,λk hk=>by
  have h1:=r.dfr.2 k hk;obtain⟨j,hj,hr⟩:=r.obj b o0 hb hl0;rw[hi]at hj;simp only[aa]at hj;subst hj;rw[hother k λe=>hr.ndef hl0 _ (by rw[<-e];exact h1)];exact h1⟩
 .intro c oc hg hl;rw[AH.get_put _ _ _ _ hlt]at hg;by_cases hc:b=c
  .subst hc;simp only[if_true,aa]at hg;subst hg;exact⟨i,hi,hn⟩
  .simp only[hc,if_false]at hg;obtain⟨j,hj,hr⟩:=r.obj c oc hg hl;have hne:=r.own b c o0 oc i j hb hg hc hx0 hl hi hj;exact⟨j,hj,hr.keep (Sg.le_refl σ) (hother _ (λe=>hne e.symm))⟩
 .intro c c' oc oc' j j' hg hg' hne hxc hl hj hj';rw[AH.get_put _ _ _ _ hlt]at hg hg';have f1:∃o1,h.get c=some o1/\o1.excl=true:=by
   by_cases hc:b=c
   .subst hc;exact⟨o0,hb,hx0⟩
   .simp only[hc,if_false]at hg;exact⟨oc,hg,hxc⟩
  have f2:∃o1,h.get c'=some o1/\o1.live=true:=by
   by_cases hc:b=c'
   .subst hc;exact⟨o0,hb,hl0⟩
   .simp only[hc,if_false]at hg';exact⟨oc',hg',hl⟩
  obtain⟨o1,g1,x1⟩:=f1;obtain⟨o2,g2,l2⟩:=f2;exact r.own c c' o1 o2 j j' g1 g2 hne x1 l2 hj hj'
 .intro c cs e ro j hg hj;rw[AH.get_put _ _ _ _ hlt]at hg;by_cases hc:b=c
  .subst hc;simp only[if_true,aa]at hg;subst hg;rw[hi]at hj;simp only[aa]at hj;subst hj;obtain⟨_,_,_,_,_,h3,_⟩:=hn;exact h3
  .simp only[hc,if_false]at hg;exact r.esz c cs e ro j hg hj
def Rep.turn(r:Rep K σ h w)(n:Nat)(hno:∀b o i,h.get b=some o->o.live=true->σ b=some i->i.blk≠n)(hnd:∀x,w.heap[n]?≠some (.deferred x))
 (hother:∀k,k≠n->w'.heap[k]?=w.heap[k]?) (hbel:Below K.B K.w0 w') (hle:K.B<=w'.heap.size):Rep K σ h w' :=
 ⟨r.dom,λb o hg hl=>let ⟨i,hi,hr⟩:=r.obj b o hg hl;⟨i,hi,hr.keep (Sg.le_refl σ) (hother _ (hno b o i hg hl hi))⟩,r.own,hbel,hle,r.esz,r.dfr.1,λk hk=>by
  have h1:=r.dfr.2 k hk;rw[hother k λe=>hnd _ (by rw[<-e];exact h1)];exact h1⟩
def Rep.newIn(r:Rep K σ h w)(o:AO)(i:Pl)(hno:∀b o' j,h.get b=some o'->o'.live=true->σ b=some j->j.blk≠i.blk)
 (ho:∀τ,σ.le τ->ObjR K τ w i o):Rep K (σ.add h.next i) (h.new o) w:=by
 have hle:σ.le (σ.add h.next i):=Sg.le_add r.fresh;have hnr:o≠.resv:=(ho _ hle).nresv;refine⟨?_,?_,?_,r.below,r.le,r.esz_new (i:=i) (λcs e ro q=>by subst q;obtain⟨_,_,_,_,_,h3,_⟩:=ho _ hle;exact h3),r.dfr⟩
 .exact r.dom_new hnr i
 .intro b ob hg hl;rw[AH.get_new]at hg;by_cases hb:b=h.next
  .subst hb;simp only[if_true,aa]at hg;subst hg;exact⟨i,Sg.add_at _ _ _,ho _ hle⟩
  .simp only[hb,if_false]at hg;obtain⟨j,hj,hr⟩:=r.obj b ob hg hl;exact⟨j,hle _ _ hj,hr.keep hle rfl⟩
 .intro b b' ob ob' j j' hg hg' hne hx hl hj hj';rw[AH.get_new]at hg hg';by_cases hb:b=h.next
  .subst hb;have hb':¬b'=h.next:=λe=>hne e.symm;simp only[hb',if_false]at hg';rw[Sg.add_at]at hj;simp only[aa]at hj;subst hj;simp only[Sg.add,hb',if_false]at hj';exact λe=>hno b' ob' j' hg' hl hj' e.symm
  .simp only[hb,if_false]at hg;simp only[Sg.add,hb,if_false]at hj;by_cases hb':b'=h.next
   .subst hb';rw[Sg.add_at]at hj';simp only[aa]at hj';subst hj';have hlb:ob.live=true:=AO.live_of_excl hx;exact hno b ob j hg hlb hj
   .simp only[hb',if_false]at hg';simp only[Sg.add,hb',if_false]at hj';exact r.own b b' ob ob' j j' hg hg' hne hx hl hj hj'
def Rep.kill(r:Rep K σ h w){o0:AO}(hb:h.get b=some o0):Rep K σ (h.put b .dead) w:=by
 have hlt:=AH.lt_of_get hb;refine⟨r.dom_put hlt (by simp),?_,?_,r.below,r.le,?_,r.dfr⟩
 .intro c oc hg hl;rw[AH.get_put _ _ _ _ hlt]at hg;by_cases hc:b=c
  .subst hc;simp only[if_true,aa]at hg;subst hg;cases hl
  .simp only[hc,if_false]at hg;exact r.obj c oc hg hl
 .intro c c' oc oc' j j' hg hg' hne hxc hl hj hj';rw[AH.get_put _ _ _ _ hlt]at hg hg';by_cases hc:b=c
  .subst hc;simp only[if_true,aa]at hg;subst hg;cases hxc
  .by_cases hc':b=c'
   .subst hc';simp only[if_true,aa]at hg';subst hg';cases hl
   .simp only[hc,hc',if_false]at hg hg';exact r.own c c' oc oc' j j' hg hg' hne hxc hl hj hj'
 .intro c cs e ro j hg hj;rw[AH.get_put _ _ _ _ hlt]at hg;by_cases hc:b=c
  .subst hc;simp at hg
  .simp only[hc,if_false]at hg;exact r.esz c cs e ro j hg hj
def mF(b:Nat):∀(vs:List Value) (o:Nat) (w:World) (k:Nat),k≠b->(w.setCells b o vs).heap[k]?=w.heap[k]?
 |[],_,_,_,_=>rfl
 |v::r,o,w,k,h=>by rw[World.setCells,mF b r _ _ k h,Below.heap_setCell _ _ _ _ h]
def kw(b:Nat):∀(vs:List Value) (o:Nat) (w:World) (C:Array Value) (t:TypeId) (fr:Nat×Nat),w.heap[b]?=some (.cells C t fr)->o+vs.length<=C.size ->
 ∃C',(w.setCells b o vs).heap[b]?=some (.cells C' t fr)/\C'.size=C.size/\∀j,C'[j]?=if o<=j/\j<o+vs.length then vs[j-o]? else C[j]?
 |[],o,w,C,t,fr,h,_=>⟨C,h,rfl,λj=>by simp;intro h1 h2;omega⟩
 |v::r,o,w,C,t,fr,h,hle=>by
   have h1:(w.setCell ⟨b,o,none⟩ v).heap[b]?=some (.cells (C.setIfInBounds o v) t fr):=by
    simp[World.setCell,ij,h]
   obtain⟨C',a1,a2,a3⟩:=kw b r (o+1) _ _ t fr h1 (by simp at hle |-;omega);refine⟨C',by simpa[World.setCells]using a1,by simpa using a2,λj=>?_⟩;rw[a3 j];simp only[bd]at hle |-;rw[fw];by_cases hj:o=j
   .subst hj;have:¬(o+1<=o):=om;have h2:o<C.size:=om;simp[this,h2]
   .by_cases hr:o<=j/\j<o+(r.length+1)
    .have c1:o+1<=j/\j<o+1+r.length:=om;rw[if_pos c1,if_pos hr];rw[show j-o=(j-(o+1))+1 from by omega];simp
    .have c1:¬(o+1<=j/\j<o+1+r.length):=om;rw[if_neg c1,if_neg hr,if_neg hj]
def lX{B b:Nat}{w0:World}(hb:B<=b):∀(vs:List Value) (o:Nat) (w:World),Below B w0 w->Below B w0 (w.setCells b o vs)
 |[],_,_,h=>h
 |v::r,o,w,h=>lX hb r _ _ (h.setCell (p:=⟨b,o,none⟩) hb v)
def mz(b:Nat):∀(vs:List Value) (o:Nat) (w:World),(w.setCells b o vs).heap.size=w.heap.size
 |[],_,_=>rfl
 |v::r,o,w=>by rw[World.setCells,mz b r];simp
def uw(cs:List AV)(o:Nat)(vs:List AV)(h:o+vs.length<=cs.length)(j:Nat):(dG cs o vs)[j]?=if o<=j/\j<o+vs.length then vs[j-o]? else cs[j]?:=by
 unfold dG;rcases eW j o with h1|h1
 .have:¬(o<=j/\j<o+vs.length):=om;rw[if_neg this,bC (by simp;omega),bC (by simp;omega),cS,if_pos h1]
 .rcases eW j (o+vs.length)with h2|h2
  .rw[if_pos ⟨h1,h2⟩,bC (by simp;omega),bw (by simp;omega)];congr 1;simp;omega
  .have:¬(o<=j/\j<o+vs.length):=om;rw[if_neg this,bw (by simp;omega),fS];congr 1;simp;omega
def pX(cs:List AV)(o:Nat)(vs:List AV)(h:o+vs.length<=cs.length):(dG cs o vs).length=cs.length:=by
 unfold dG;simp;omega
def Rep.wr{h':AH}(r:Rep K σ h w){o:Nat}{vs:List Value}(hw:bP h b o cs=some h')(hv:VRs σ cs vs) :
 ∃i,σ b=some i/\(∀j,j<vs.length->(w.cell? ⟨i.blk,i.d+o+j,none⟩).isSome=true)/\(∀j,j<vs.length->w.frozen? ⟨i.blk,i.d+o+j,none⟩=false) /\
   Rep K σ h' (w.setCells i.blk (i.d+o) vs):=by
 unfold bP at hw;cases hg:h.get b with
 |none=>simp[hg]at hw
 |some ob =>
   cases ob with
   |cells cs' e ro =>
     cases ro with
     |true=>simp[hg]at hw
     |false =>
       simp only[hg]at hw;by_cases hle:o+cs.length<=cs'.length
       .simp only[hle,if_true,aa]at hw;subst hw;obtain⟨i,hi,C,t,fr,h1,h2,h3,h4,h5,h6⟩:=r.obj b _ hg rfl;obtain⟨⟨hB,hff⟩,hfr⟩:=h6.1 rfl;have hl:=hv.length;refine⟨i,hi,?_,?_,?_⟩
        .intro j hj;have:i.d+o+j<C.size:=om;simp[World.cell?,h1,this]
        .intro j hj;have:=hfr (i.d+o+j) om;simp only[World.frozen?,h1];simp only[nj,ce];by_cases c:fr.1<=i.d+o+j
         .exact Or.inr λc2=>this ⟨c,c2⟩
         .exact Or.inl c
        .obtain⟨C',a1,a2,a3⟩:=kw i.blk vs (i.d+o) w C t fr h1 om;refine r.put hg hi rfl ?_ (λk hk=>mF _ _ _ _ _ hk) (lX hB _ _ _ r.below) (by rw[mz];exact r.le);refine⟨C',t,fr,a1,by rw[a2,h2],h3,by rw[pX _ _ _ hle];exact h4,?_,λ_=>⟨⟨hB,hff⟩,hfr⟩,h6.2⟩;intro j x hx;rw[uw _ _ _ hle]at hx;rw[a3];by_cases hc:o<=j/\j<o+cs.length
         .rw[if_pos hc]at hx;obtain⟨y,hy,ry⟩:=hv.get hx;refine⟨y,?_,ry⟩;rw[if_pos om];rw[show i.d+j-(i.d+o)=j-o from by omega];exact hy
         .rw[if_neg hc]at hx;obtain⟨y,hy,ry⟩:=h5 j x hx;refine⟨y,?_,ry⟩;rw[if_neg om];exact hy
       .simp[hle]at hw
   |_=>simp[hg]at hw
def Rep.kept1(r:Rep K σ h w):Rep K σ (h.new .resv) w:=by
 have hg:∀b o,(h.new .resv).get b=some o->o≠.resv->h.get b=some o:=by
  intro b o hg ho;rw[AH.get_new]at hg;by_cases e:b=h.next
  .rw[if_pos e]at hg;simp only[aa]at hg;exact absurd hg.symm ho
  .rwa [if_neg e]at hg
 have hl:∀o:AO,o.live=true->o≠.resv:=by rintro o h rfl;cases h
 refine⟨⟨λb i hi=>?_,λb t ht=>?_⟩,λb o h1 h2=>r.obj b o (hg b o h1 (hl o h2)) h2,λb b' o o' i i' h1 h2 hne h3 h4 h5 h6=>r.own b b' o o' i i' (hg b o h1 (hl o (AO.live_of_excl h3))) (hg b' o' h2 (hl o' h4)) hne h3 h4 h5 h6,r.below,r.le,λb cs e ro i h1 h2=>r.esz b cs e ro i (hg b _ h1 (by simp)) h2,r.dfr⟩
 .have:=r.dom.1 b i hi;refine⟨by have:=this.1;simp;omega,?_⟩;rw[AH.get_new,if_neg (by have:=this.1;omega)];exact this.2
 .have:=r.dom.2 b t ht;refine⟨⟨by have:=this.1.1;simp;omega,?_⟩,this.2⟩;rw[AH.get_new,if_neg (by have:=this.1.1;omega)];exact this.1.2
def Rep.kept{K:Bs}{σ:Sg}{w:World}:∀(k:Nat) {h:AH},Rep K σ h w->Rep K σ (h.keep k) w
 |0,_,r=>r
 |k+1,_,r=>Rep.kept k r.kept1
def Rep.freshAt(r:Rep K σ h w)(hn:h.get n=some .resv):σ n=none:=by
 cases e:σ n with
 |none=>rfl
 |some i=>exact absurd hn (r.dom.1 _ _ e).2
def Rep.newAt(r:Rep K σ h w)(hn:h.get n=some .resv)(o:AO)(x:Obj)(i:Pl)(hi:i.blk=w.heap.size)
 (ho:∀τ,σ.le τ->ObjR K τ (w.alloc x) i o) (tg:Option Nat) (htg:∀t,tg=some t->i.ty=t/\i.d=0):Rep K (σ.add n i) (h.putG n o tg) (w.alloc x):=by
 have hlt:=AH.lt_of_get hn;have hfr:=r.freshAt hn;have hle:σ.le (σ.add n i):=Sg.le_add hfr;have hgp:∀c,(h.putG n o tg).get c=if n=c then some o else h.get c:=by
  intro c;have:(h.putG n o tg).get c=(h.put n o).get c:=by cases tg<;>rfl
  rw[this,AH.get_put _ _ _ _ hlt]
 have hnx:(h.putG n o tg).next=h.next:=by cases tg<;>rfl
 have hnr:o≠.resv:=(ho _ hle).nresv;refine⟨⟨λb j hj=>?_,λb t ht=>?_⟩,?_,?_,r.below.alloc r.le x,by simp;exact sj r.le,?_,r.dfr.1,λk hk=>by
  have:=r.dfr.2 k hk;rw[Below.heap_alloc _ _ _ (ct.1 this).1];exact this⟩
 .rw[hgp,hnx];unfold Sg.add at hj;by_cases hb:b=n
  .subst hb;simp[hnr,hlt]
  .rw[if_neg hb]at hj;rw[if_neg (λe=>hb e.symm)];exact r.dom.1 _ _ hj
 .rw[hnx];have key:h.tyOf b=some t\/(b=n/\tg=some t):=by
   cases tg with
   |none=>exact .inl ht
   |some u =>
     have ht:(h.ty.set (gC n) u).get (gC b)=some t:=ht;rw[T.get_set]at ht;simp only[iM]at ht;by_cases e:n=b
     .rw[if_pos e]at ht;exact .inr ⟨e.symm,ht⟩
     .rw[if_neg e]at ht;exact .inl ht
  rcases key with key|⟨rfl,key⟩
  .have h1:=r.dom.2 b t key;have e:¬b=n:=by rintro rfl;exact h1.1.2 hn
   refine⟨⟨h1.1.1,?_⟩,λj hj=>h1.2 j ?_⟩
   .rw[hgp,if_neg (λq=>e q.symm)];exact h1.1.2
   .unfold Sg.add at hj;rwa [if_neg e]at hj
  .refine⟨⟨hlt,?_⟩,λj hj=>?_⟩
   .rw[hgp,if_pos rfl];simp[hnr]
   rw[Sg.add_at]at hj;simp only[aa]at hj;subst hj;exact⟨(htg t key).1,.inr (htg t key).2⟩
 .intro b ob hg hl;rw[hgp]at hg;by_cases hb:n=b
  .subst hb;simp only[if_true,aa]at hg;subst hg;exact⟨i,Sg.add_at _ _ _,ho _ hle⟩
  .simp only[hb,if_false]at hg;obtain⟨j,hj,hr⟩:=r.obj b ob hg hl;exact⟨j,hle _ _ hj,hr.keep hle (Below.heap_alloc _ _ _ (hr.lt hl))⟩
 .intro b b' ob ob' j j' hg hg' hne hx hl hj hj';rw[hgp]at hg hg';unfold Sg.add at hj hj';by_cases hb:n=b
  .subst hb;have hb':¬b'=n:=λe=>hne e.symm;rw[if_neg hne]at hg';rw[if_pos rfl]at hj;rw[if_neg hb']at hj';simp only[aa]at hj;subst hj;obtain⟨j2,hj2,hr⟩:=r.obj b' ob' hg' hl;rw[hj']at hj2;simp only[aa]at hj2;subst hj2;have:=hr.lt hl;omega
  .rw[if_neg hb]at hg;rw[if_neg (λe=>hb e.symm)]at hj;by_cases hb':n=b'
   .subst hb';rw[if_pos rfl]at hj';simp only[aa]at hj';subst hj';have hlb:ob.live=true:=AO.live_of_excl hx;obtain⟨j2,hj2,hr⟩:=r.obj b ob hg hlb;rw[hj]at hj2;simp only[aa]at hj2;subst hj2;have:=hr.lt hlb;omega
   .rw[if_neg hb']at hg';rw[if_neg (λe=>hb' e.symm)]at hj';exact r.own b b' ob ob' j j' hg hg' hne hx hl hj hj'
 .intro b cs e ro j hg hj;rw[hgp]at hg;unfold Sg.add at hj;by_cases hb:n=b
  .subst hb;rw[if_pos rfl]at hg hj;simp only[aa]at hg hj;subst hj hg;obtain⟨_,_,_,_,_,h3,_⟩:=ho _ hle;exact h3
  .rw[if_neg hb]at hg;rw[if_neg (λe=>hb e.symm)]at hj;exact r.esz b cs e ro j hg hj
def Rep.opened(r:Rep K σ h w):Rep (K.dd [w.heap.size]) σ h (w.alloc (.deferred (some []))):=by
 have hold:∀k,k<w.heap.size->(w.alloc (.deferred (some []))).heap[k]?=w.heap[k]?:=λk hk=>Below.heap_alloc _ _ _ hk;refine⟨r.dom,λb o hg hl=>?_,r.own,r.below.alloc r.le _,by simp;exact sj r.le,r.esz,?_,λk hk=>?_⟩
 .obtain⟨i,hi,ho⟩:=r.obj b o hg hl;refine⟨i,hi,?_⟩;have:=ho.keep (w':=w.alloc (.deferred (some []))) (Sg.le_refl σ) (hold _ (ho.lt hl));cases o<;>exact this
 .show(w.heap.size::K.D).Nodup;refine cn.2 ⟨λhk=>?_,r.dfr.1⟩;have:=(ct.1 (r.dfr.2 _ hk)).1;omega
 .have hk:k∈w.heap.size::K.D:=hk;rw[aF]at hk;rcases hk with rfl|hk
  .show(w.heap.push _)[w.heap.size]?=_;simp
  .have:=r.dfr.2 k hk;rw[hold k (ct.1 this).1];exact this
def Rep.shut{w:World}{k:Nat}(r:Rep (K.dd (k::ds)) σ h w)(hB:K.B<=k):w.heap[k]?=some (.deferred (some []))/\Rep (K.dd ds) σ h ({ w with heap:=w.heap.setIfInBounds k (.deferred none)}:World):=by
 have hk:w.heap[k]?=some (.deferred (some [])):=r.dfr.2 k (by show k∈k::ds++K.D;simp);have hnd:(k::(ds++K.D)).Nodup:=r.dfr.1;have hold:∀j,j≠k->({ w with heap:=w.heap.setIfInBounds k (.deferred none)}:World).heap[j]?=w.heap[j]?:=λj hj=>by
  simp only[fw];rw[if_neg (λe=>hj e.symm)]
 refine⟨hk,r.dom,λb o hg hl=>?_,r.own,?_,(by have:=r.le;simp only[Array.size_setIfInBounds];exact this),r.esz,(cn.1 hnd).2,λj hj=>?_⟩
 .obtain⟨i,hi,ho⟩:=r.obj b o hg hl;refine⟨i,hi,?_⟩;have:=ho.keep (w':={ w with heap:=w.heap.setIfInBounds k (.deferred none)}) (Sg.le_refl σ) (hold _ λe=>ho.ndef hl _ (by rw[e];exact hk));cases o<;>exact this
 .have hbl:Below K.B K.w0 w:=r.below;refine⟨hbl.os,hbl.tape,hbl.output,(by have:=hbl.size;simp only[Array.size_setIfInBounds];exact this),λj hj=>?_⟩;have hj:j<K.B:=hj;rw[hold j om];exact hbl.block j hj
 .have hj:j∈ds++K.D:=hj;rw[hold j λe=>(cn.1 hnd).1 (by rw[<-e];exact hj)];exact r.dfr.2 j (by show j∈k::(ds++K.D);simp only[aF];exact .inr hj)
def Rep.less(r:Rep (K.dd ds) σ h w):Rep K σ h w:=by
 have hnd:(ds++K.D).Nodup:=r.dfr.1;refine⟨r.dom,λb o hg hl=>?_,r.own,r.below,r.le,r.esz,(bQ.1 hnd).2.1,λk hk=>r.dfr.2 k (by show k∈ds++K.D;simp[hk])⟩;obtain⟨i,hi,ho⟩:=r.obj b o hg hl;refine⟨i,hi,?_⟩;cases o<;>exact ho
def AH.zero:AH:={ next:=NG,t:=.nil,ty:=.nil}
def AH.get_zero(b:Nat):AH.zero.get b=none:=by unfold AH.get AH.zero;cases gC b<;>simp[T.get]
def Sg.zero:Sg:=λb=>if b<NG then some { blk:=b,d:=0,esz:=1,N:=0}else none
def GL.zero:GL Sg.zero:=λg hg=>⟨_,by unfold Sg.zero;rw[if_pos hg],rfl,rfl⟩
def Rep.zero(P:Program)(w:World):Rep ⟨w.heap.size,w,P,[]⟩ Sg.zero AH.zero w where
 dom:=by
  refine⟨λb i h=>?_,λb t h=>?_⟩
  .unfold Sg.zero at h;split at h
   .exact⟨by assumption,by rw[AH.get_zero];simp⟩
   .cases h
  .unfold AH.tyOf AH.zero at h;simp[T.get]at h
 obj:=by intro b o h;rw[AH.get_zero]at h;cases h
 own:=by intro b b' o o' i i' h;rw[AH.get_zero]at h;cases h
 below:=Below.refl _ _
 le:=ab _
 esz:=by intro b cs e ro i h;rw[AH.get_zero]at h;cases h
 dfr:=⟨fk,by intro k hk;cases hk⟩
def ObjR.base(hx:o.excl=true)(h:ObjR K σ w i o):K.B<=i.blk:=by
 cases o with
 |cells cs e ro =>
   cases ro with
   |true=>cases hx
   |false=>obtain⟨_,_,_,_,_,_,_,_,h6⟩:=h;exact(h6.1 rfl).1.1
 |dead=>cases hx
 |resv=>cases hx
 |mapo es c=>obtain⟨_,_,h2,_⟩:=h;exact h2
 |sit s p=>obtain⟨_,_,_,h2⟩:=h;exact h2
 |mit m s n l=>obtain⟨_,_,h2,_⟩:=h;exact h2
 |lp fn p ts ps st pd=>obtain⟨_,_,_,_,_,h2,_⟩:=h;exact h2
 |other=>exact h.elim
def Rep.came(r:Rep K σ h w)(cs:List AV)(e:Nat)(i:Pl)(he:i.esz=e)
 (ho:cs=[]\/(i.blk<K.B/\∀τ,σ.le τ->ObjR K τ w i (.cells cs e true))):Rep K (σ.add h.next i) (h.new (.cells cs e true)) w:=by
 have hle:σ.le (σ.add h.next i):=Sg.le_add r.fresh;have hnr:AO.cells cs e true≠.resv:=by simp
 refine⟨?_,?_,?_,r.below,r.le,r.esz_new (i:=i) (λcs' e' ro q=>by simp only[AO.cells.injEq]at q;rw[he,q.2.1]),r.dfr⟩
 .exact r.dom_new hnr i
 .intro b ob hg hl;rw[AH.get_new]at hg;by_cases hb:b=h.next
  .subst hb;simp only[if_true,aa]at hg;subst hg;rcases ho with ho|ho
   .subst ho;simp[AO.live]at hl
   .exact⟨i,Sg.add_at _ _ _,ho.2 _ hle⟩
  .simp only[hb,if_false]at hg;obtain⟨j,hj,hr⟩:=r.obj b ob hg hl;exact⟨j,hle _ _ hj,hr.keep hle rfl⟩
 .intro b b' ob ob' j j' hg hg' hne hx hl hj hj';rw[AH.get_new]at hg hg';by_cases hb:b=h.next
  .subst hb;simp only[if_true,aa]at hg;subst hg;cases hx
  .simp only[hb,if_false]at hg;simp only[Sg.add,hb,if_false]at hj;by_cases hb':b'=h.next
   .subst hb';simp only[if_true,aa]at hg';subst hg';rw[Sg.add_at]at hj';simp only[aa]at hj';subst hj';rcases ho with ho|ho
    .subst ho;simp[AO.live]at hl
    .obtain⟨j2,hj2,hr⟩:=r.obj b ob hg (AO.live_of_excl hx);rw[hj]at hj2;simp only[aa]at hj2;subst hj2;have:=hr.base hx;omega
   .simp only[hb',if_false]at hg';simp only[Sg.add,hb',if_false]at hj';exact r.own b b' ob ob' j j' hg hg' hne hx hl hj hj'
end Go.Am
