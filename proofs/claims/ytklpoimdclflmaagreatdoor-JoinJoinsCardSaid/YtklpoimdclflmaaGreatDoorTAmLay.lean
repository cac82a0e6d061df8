/- What lays something new, whatever its name. -/
import Derived.Test.YtklpoimdclflmaaGreatDoorTAmSim
set_option linter.all false
namespace Go.Am
open Go.RowKit
section
variable {a:Act}{e n:Nat}{f:Nat->AV}{ro:ROp}{tg:Option Nat}{ts:Tm}{x':Value}{z:List AV}
variable {P:Program}{K:Bs}{σ:Sg}{h:AH}{w:World}
def xi{t:TypeId}(htg:∀u,tg=some u->t=u)(hz:gu P t=some z)(r:Rep K σ h w):YL P K σ h (do pure (.value (<-Instr.alloc t true (.tuple #[])))) w (λn=>.ptr n 0) (.cells z e false) tg:=by
 obtain⟨i,zv,hi,hzv,hrel⟩:=fh hz;refine YL.cells r z e zv.cells t (0,0) (.pointer (some ⟨w.heap.size,0,none⟩)) w (.inl rfl) ?_ ?_ ?_ (by simp) ?_ ?_ tg htg
 .simp[Instr.alloc,zeroValue,typeInfo,hi,hzv,newVar,newRow]
 .have:=(hrel σ).length;simp at this;omega
 .intro j x hx;obtain⟨y,hy,ry⟩:=(hrel σ).get hx;exact⟨y,by simpa using hy,ry⟩
 .intro k _;simp
 .intro τ n hτ;simp only[VR];exact⟨_,hτ,by simp⟩
def LO{t:TypeId}(r:Rep K σ h w){x:AV}(hx:VR σ x x'):YL P K σ h (do pure (.value (<-Instr.box t x'))) w (λn=>.ptr n 0) (.cells x.cells e false) none:=by
 .skip
  refine YL.cells r x.cells e x'.cells t (0,0) (.pointer (some ⟨w.heap.size,0,none⟩)) w (.inl rfl) ?_ ?_ ?_ (by simp) ?_ ?_ none (λu hu=>by cases hu)
  .simp[Instr.box,newVar,newRow]
  .have:=hx.cells.length;simp at this;omega
  .intro j y hy;obtain⟨z,hz,rz⟩:=hx.cells.get hy;exact⟨z,by simpa using hz,rz⟩
  .intro k _;simp
  .intro τ n hτ;simp only[VR];exact⟨_,hτ,by simp⟩
def uY(ht:TR σ ts a.tmps){t e:TypeId}{len:Nat}{ps:Array (Nat×Operand)}{rs:List (Nat×Nat×RO)}
 (hu:P.underlying t=some (.slice e)) (hs:eU P e=some n) (hz:gu P e=some z) (hzl:z.length=n) (hm:len*n<=2^24) (hp:kC (λi=>some (i*n,n)) ps.toList=some rs)
 (r:Rep K σ h w) {out:List AV} (he:fill (RO.ev ts) (cq z len) rs=some out) :
 YL P K σ h (do pure (.value (<-Instr.buildSlice t len (ps.map λ(i,x)=>(i,a.eval x))))) w (λm=>.sl m 0 len len) (.cells out n false) none:=by
 obtain⟨i,zv,hi,hzv,hrel⟩:=fh hz;have hszv:zv.cells.size=z.length:=by have:=(hrel σ).length;simpa using this
 have hin:i.size=n:=by unfold eU at hs;simp[hi]at hs;exact hs
 have key:∃vo:Array Value,Instr.fill (λi=>some (i*n,n)) ((Array.range (len*n)).map λx=>(if len*n=0 then #[]else zv.cells)[x%(if len*n=0 then #[]else zv.cells).size]!) (ps.map λ(i,x)=>(i,a.eval x)).toList=some vo/\VRs σ out vo.toList:=by
  by_cases h0:len*n=0
  .have hr0:cq z len=[]:=by
    have:=iL z len;rw[hzl,h0]at this;exact aW.1 this
   rw[hr0]at he;obtain⟨vo,h1,h2⟩:=lS ht (λi=>some (i*n,n)) ps.toList rs [] #[] out hp rfl he;refine⟨vo,?_,h2⟩;simp only[h0,if_true,Array.range_zero'];simpa using h1
  .have hmv:=oZ (hrel σ) len (.inl (by intro h1;rw[hzl]at h1;subst h1;exact h0 (by simp)));obtain⟨vo,h1,h2⟩:=lS ht (λi=>some (i*n,n)) ps.toList rs _ _ out hp hmv he;refine⟨vo,?_,h2⟩;simp only[h0,if_false];rw[hzl]at h1;simpa using h1
 obtain⟨vo,hf,hv⟩:=key;refine YL.cells r out n vo e (0,0) (.slice (some ⟨w.heap.size,0,none⟩) len len) w (.inl rfl) ?_ ?_ ?_ (by simp) ?_ ?_ none (λu hu=>by cases hu)
 .have h24:¬len*n>2^24:=om;by_cases h0:len*n=0
  .simp only[h0,if_true]at hf;have h24':¬(0:Nat)>2^24:=om;simp only[Instr.buildSlice,Sem.run_bind,run_underlying hu,Result.andThen_ok,dA hs,h0,h24',if_true,if_false,Sem.run_ite,Sem.run_pure];rw[hf];simp[newRow]
  .simp only[h0,if_false]at hf;simp only[Instr.buildSlice,Sem.run_bind,run_underlying hu,Result.andThen_ok,dA hs,h0,h24,if_false,Sem.run_ite,Sem.run_pure,zeroValue,typeInfo,run_program,hi,hzv];rw[hf];simp[newRow]
 .have:=hv.length;simp at this;omega
 .intro j x hx;obtain⟨y,hy,ry⟩:=hv.get hx;exact⟨y,by simpa using hy,ry⟩
 .intro k _;simp
 .intro τ n hτ;simp only[VR];exact⟨_,0,len,hτ,rfl,.inr (by simp),ab _,ab _,.inl rfl⟩
def Ir{s d e:TypeId}(hs:P.underlying s=some .string)(hd:P.underlying d=some (.slice e))(hue:P.underlying e=some (.int .u8)){x:List UInt8}(hx:VR σ (.str x) x')(r:Rep K σ h w):YL P K σ h (do pure (.value (<-convert s d x'))) w (λn=>.sl n 0 x.length x.length) (.cells (jK x) 1 false) none:=by
 simp only[VR]at hx;obtain⟨ba,rfl,rfl⟩:=hx;have hrun:=run_bytes_of_string (P:=P) w s d e ba hs hd hue;have hsz:ba.size=ba.data.toList.length:=by simp
 have hcap:=kN w ba.size 0 e;have hsize:(bytesRow ba (grownCap w ba.size 0 e)).size=grownCap w ba.size 0 e:=by
  have h1:ba.data.size=ba.size:=rfl;simp only[bytesRow,mL,Array.size_map,Array.size_replicate];omega
 refine YL.cells r (jK ba.data.toList) 1 (bytesRow ba (grownCap w ba.size 0 e)) e ((bytesRow ba (grownCap w ba.size 0 e)).size,(bytesRow ba (grownCap w ba.size 0 e)).size+1)
  (.slice (some ⟨w.heap.size,0,none⟩) ba.size (grownCap w ba.size 0 e)) w.drew (.inr rfl) ?_ ?_ ?_ (by simp) ?_ ?_ none (λu hu=>by cases hu)
 .simp[hrun]
 .rw[hsize];simp[jK];exact hcap
 .intro j y hy;obtain⟨b,hb,rfl⟩:=qz hy;refine⟨.int .u8 b.toNat,?_,by simp[VR]⟩;have hj:j<ba.data.size:=by have:=(au.1 hb).1;simpa using this
  unfold bytesRow;rw[fJ (by simpa using hj)];rw[eJ]at hb;simp[Array.getElem?_map,hb]
 .intro k hk;simp;omega
 .intro τ n hτ;simp only[VR];refine⟨_,0,grownCap w ba.size 0 e,hτ,by rw[hsz],.inr (by simp),by rw[<-hsz];exact hcap,ab _,.inr ⟨by simp,?_⟩⟩;show 0+grownCap w ba.size 0 e*1<=(bytesRow ba (grownCap w ba.size 0 e)).size;omega
def LM{t e:TypeId}{bts:Nat}(hu:P.underlying t=some (.slice e))(hs:eU P e=some n)(hb:tU P e=some bts)(hz:gu P e=some z)(hzl:z.length=n)
 {kl kc:IntKind}{l c:Int}{l' c':Value} (hl:VR σ (.int kl l) l') (hc:VR σ (.int kc c) c') (r:Rep K σ h w) (hcond:0<=l/\l<=c/\c<bf/\c*bts<bf):YL P K σ h (do pure (.value (<-Instr.makeSlice t l' c'))) w (λm=>.sl m 0 l.toNat c.toNat) (.cells (cq z c.toNat) n false) none:=by
 .obtain⟨c1,c2,c3,c4⟩:=hcond;simp only[VR]at hl hc;subst hl hc;obtain⟨i,zv,hi,hzv,hrel⟩:=fh hz;have hin:i.size=n:=by unfold eU at hs;simp[hi]at hs;exact hs
  have hib:i.bytes=bts:=by unfold tU at hb;simp[hi]at hb;exact hb
  unfold bf at c3 c4;have hrun:=run_make (P:=P) w t e i zv hu hi hzv kl kc l c c1 c2 (by rw[hib,Int.mul_comm];omega) om;have hsz:zv.cells.size=n:=by have:=(hrel σ).length;simp at this;omega
  have hm:VRs σ (cq z c.toNat) (madeCells zv.cells (c.toNat*i.size)).toList:=by
   by_cases h0:z.length=0
   .have e1:cq z c.toNat=[]:=aW.1 (by rw[iL,h0];simp);have e2:c.toNat*i.size=0:=by rw[hin,<-hzl,h0];simp
    rw[e1,e2];simp[madeCells,VRs]
   .have:=oZ (hrel σ) c.toNat (.inl h0);rw[hzl,<-hin]at this;exact this
  refine YL.cells r (cq z c.toNat) n (madeCells zv.cells (c.toNat*i.size)) e (0,0) (.slice (some ⟨w.heap.size,0,none⟩) l.toNat c.toNat) w (.inl rfl) ?_ ?_ ?_ (by simp) ?_ ?_ none (λu hu=>by cases hu)
  .simp[hrun]
  .have:=hm.length;simp at this;omega
  .intro j x hx;obtain⟨y,hy,ry⟩:=hm.get hx;exact⟨y,by simpa using hy,ry⟩
  .intro k _;simp
  .intro τ n hτ;simp only[VR];exact⟨_,0,c.toNat,hτ,rfl,.inr (by simp),ab _,om,.inl rfl⟩
def FD{t:TypeId}(r:Rep K σ h w):YL P K σ h (do pure (.value (<-Instr.makeMap t none))) w (λn=>.mp n) (.mapo [] 0) none:=by
 refine⟨.map (some w.heap.size),w,.map #[] 0,{ blk:=w.heap.size,d:=0,esz:=0,N:=0},by simp[Instr.makeMap],r,rfl,?_,?_,λu hu=>by cases hu⟩
 .intro τ _;refine⟨[],?_,r.le,rfl,λj k v n hx=>by simp at hx⟩;show(w.heap.push _)[w.heap.size]?=_;simp
 .intro τ n _ hn;simp only[VR];exact⟨_,hn,rfl⟩
def LK{t kt e:TypeId}(hu:P.underlying t=some (.map kt e)){m:AV}{o:AO}(he:(match m with
 |.nilm=>some (λn=>AV.ptr n 0,AO.mit none 0 [] 0,(none:Option Nat))
 |.mp b=>match h.get b with
   |some (.mapo _ c)=>some (λn=>AV.ptr n 0,AO.mit (some b) c [] c,none)
   |_=>none
 |_=>none)=some (f,o,tg)) {m':Value} (hm:VR σ m m') (r:Rep K σ h w) :
 YL P K σ h (do pure (.value (<-Instr.range t m'))) w f o tg:=by
 cases m<;>simp only[reduceCtorEq]at he
 case nilm =>
  simp only[aa,aq]at he;obtain⟨rfl,rfl,rfl⟩:=he;simp only[VR]at hm;subst hm;refine⟨.pointer (some ⟨w.heap.size,0,none⟩),w,.mapIter none 0 #[] 0,{ blk:=w.heap.size,d:=0,esz:=0,N:=0},by simp[Instr.range,run_underlying hu,Sem.run_bind],r,rfl,?_,?_,λu hu=>by cases hu⟩
  .intro τ _;refine⟨none,?_,r.le,rfl,.inl ⟨rfl,rfl⟩⟩;show(w.heap.push _)[w.heap.size]?=_;simp
  .intro τ n _ hn;simp only[VR];exact⟨_,hn,rfl⟩
 case mp b =>
  obtain⟨i,hi,rfl⟩:=uQ hm;split at he
  .rename_i es c hg
   simp only[aa,aq]at he;obtain⟨rfl,rfl,rfl⟩:=he;obtain⟨es',h1,h2,h3⟩:=r.map hg hi;have hget:(getObj i.blk).run P w=.ok (.map es'.toArray c) w:=by simp[getObj,Sem.run,h1]
   refine⟨.pointer (some ⟨w.heap.size,0,none⟩),w,.mapIter (some i.blk) c #[] c,{ blk:=w.heap.size,d:=0,esz:=0,N:=0},by simp[Instr.range,run_underlying hu,Sem.run_bind,hget],r,rfl,?_,?_,λu hu=>by cases hu⟩
   .intro τ hτ;refine⟨some i.blk,?_,r.le,rfl,.inr ⟨b,i,rfl,hτ _ _ hi,rfl⟩⟩;show(w.heap.push _)[w.heap.size]?=_;simp
   .intro τ n _ hn;simp only[VR];exact⟨_,hn,rfl⟩
  .cases he
def AI{ev:RO->AV}{p:(Nat->AV)×AO×Option Nat}(he:lay ev h ro=some p):ro.lays=true:=by
 cases ro<;>first|rfl|(simp[lay]at he)
def JO{op:Op}{r:ROp}(h:cOp P op=some r)(hr:r.lays=true) :
 (∃t,op=.alloc t)\/(∃t x,op=.box t x)\/(∃t len ps,op=.buildSlice t len ps)\/(∃s d x,op=.convert s d x)\/(∃t l c,op=.makeSlice t l c)\/(∃t x,op=.makeMap t x)\/(∃t x,op=.range t x):=by
 cases op with
 |alloc t=>exact .inl ⟨_,rfl⟩
 |box t x=>exact .inr (.inl ⟨_,_,rfl⟩)
 |buildSlice t len ps=>exact .inr (.inr (.inl ⟨_,_,_,rfl⟩))
 |convert s d x=>exact .inr (.inr (.inr (.inl ⟨_,_,_,rfl⟩)))
 |makeSlice t l c=>exact .inr (.inr (.inr (.inr (.inl ⟨_,_,_,rfl⟩))))
 |makeMap t x=>exact .inr (.inr (.inr (.inr (.inr (.inl ⟨_,_,rfl⟩)))))
 |range t x=>exact .inr (.inr (.inr (.inr (.inr (.inr ⟨_,_,rfl⟩)))))
 |move x=>obtain⟨_,_,rfl⟩:=bG h;cases hr
 |assign x=>obtain⟨_,_,rfl⟩:=bG h;cases hr
 |nilCheck x=>obtain⟨_,_,rfl⟩:=bG h;cases hr
 |unOp op t x=>obtain⟨_,_,rfl⟩:=bG h;cases hr
 |extract x i=>obtain⟨_,_,rfl⟩:=bG h;cases hr
 |entry x=>obtain⟨_,_,rfl⟩:=bG h;cases hr
 |next x s =>
   cases s with
   |true=>simp[cOp]at h
   |false=>obtain⟨_,_,rfl⟩:=bG h;cases hr
 |makeFunc fn first caps =>
   cases fn<;>simp only[cOp,reduceCtorEq]at h;split at h
   .obtain⟨_,_,rfl⟩:=bG h;cases hr
   .cases h
 |call c =>
   obtain⟨callee,args,argTypes⟩:=c;cases callee with
   |value f =>
     cases f<;>simp only[cOp,reduceCtorEq]at h
     .obtain⟨_,_,rfl⟩:=bG h;cases hr
     .split at h
      .unfold wk at h;split at h
       .obtain⟨_,_,rfl⟩:=bG h;cases hr
       .obtain⟨_,_,rfl⟩:=bG h;cases hr
       .cases h
      .obtain⟨_,_,rfl⟩:=bG h;cases hr
   |invoke _ _=>simp[cOp]at h
   |builtin b =>
     obtain⟨ats⟩:=argTypes;obtain⟨as⟩:=args;simp only[cOp,Df]at h
     repeat' split at h
     all_goals first
      |(cases h;done)
      |(obtain⟨_,_,rfl⟩:=bG h;cases hr;done)
      |(simp only[aa]at h;subst h;cases hr;done)
 |_ =>
   simp only[cOp,Gv,reduceCtorEq]at h
   repeat' split at h
   all_goals first
    |(cases h;done)
    |(obtain⟨_,_,rfl⟩:=bG h;cases hr;done)
    |(simp only[aa]at h;subst h;cases hr;done)
def KT(ht:TR σ ts a.tmps){o:Oper}(hc:cOp P o.op=some ro)(r:Rep K σ h w){ob:AO}(he:lay (RO.ev ts) h ro=some (f,ob,tg)) :
 YL P K σ h (execOp a.eval o) w f ob tg:=by
 have hex:∀op,o.op=op->execOp a.eval o=execOp a.eval { o with op:=op}:=by intro op h;subst h;rfl
 have hop:∃op,o.op=op:=⟨_,rfl⟩
 obtain⟨op,hop⟩:=hop;rw[hop]at hc;rw[hex op hop];clear hex;rcases JO hc (AI he)with⟨t,rfl⟩|⟨t,x,rfl⟩|⟨t,len,ps,rfl⟩|⟨s,d,x,rfl⟩|⟨t,l,c,rfl⟩|⟨t,x,rfl⟩|⟨t,x,rfl⟩
 .simp only[cOp]at hc;split at hc
  .rename_i z e h1 h2
   split at hc
   .simp only[aa]at hc;subst hc;simp only[lay,aa,aq]at he;obtain⟨rfl,rfl,rfl⟩:=he;exact xi (λu hu=>by simpa using hu) h1 r
   .simp only[aa]at hc;subst hc;simp only[lay,aa,aq]at he;obtain⟨rfl,rfl,rfl⟩:=he;exact xi (λu hu=>by cases hu) h1 r
  .cases hc
 .simp only[cOp]at hc;split at hc
  .rename_i e n rx h1 h2 h3
   simp only[aa]at hc;subst hc;simp only[lay]at he;split at he
   .simp only[aa,aq]at he;obtain⟨rfl,rfl,rfl⟩:=he;exact LO (t:=t) r (cN ht h3)
   .cases he
  .cases hc
 .simp only[cOp]at hc;split at hc
  .rename_i e hu
   split at hc
   .rename_i n z h1 h2
    split at hc
    .rename_i h3
     obtain⟨rs,hrs,rfl⟩:=bG hc;simp only[lay]at he;obtain⟨cs,hcs,he⟩:=bG he;simp only[aq]at he;obtain⟨rfl,rfl,rfl⟩:=he;exact uY ht hu h1 h2 h3.1 h3.2 hrs r hcs
    .cases hc
   .cases hc
  .cases hc
 .have hl:=AI he;simp only[cOp]at hc;split at hc
  .simp only[aa]at hc;subst hc;cases hl
  .split at hc
   .have hc:=Option.some.inj hc;subst hc;cases hl
   .cases hc
  .rename_i e rx h1 h2 h3
   split at hc
   .rename_i hm
    have hc:=Option.some.inj hc;subst hc;simp only[lay]at he;split at he
    .rename_i x' hx
     simp only[aa,aq]at he;obtain⟨rfl,rfl,rfl⟩:=he;have hv:=cN (a:=a) ht h3;rw[hx]at hv;exact Ir h1 h2 hm hv r
    .cases he
   .cases hc
  .split at hc
   .split at hc
    .have hc:=Option.some.inj hc;subst hc;cases hl
    .cases hc
   .cases hc
  .split at hc
   .have hc:=Option.some.inj hc;subst hc;cases hl
   .cases hc
  .split at hc
   .have hc:=Option.some.inj hc;subst hc;cases hl
   .cases hc
  .cases hc
 .simp only[cOp]at hc;split at hc
  .rename_i e hu
   split at hc
   .rename_i n b z rl rc h1 h2 h3 h4 h5
    split at hc
    .rename_i hzl
     simp only[aa]at hc;subst hc;simp only[lay]at he;have v1:=cN (a:=a) ht h4;have v2:=cN (a:=a) ht h5;split at he
     .rename_i _ l' _ c' hl' hc'
      rw[hl']at v1;rw[hc']at v2;split at he
      .rename_i hcond
       simp only[aa,aq]at he;obtain⟨rfl,rfl,rfl⟩:=he;exact LM hu h1 h2 h3 hzl v1 v2 r hcond
      .cases he
     .cases he
    .cases hc
   .cases hc
  .cases hc
 .cases x with
  |some _=>simp[cOp]at hc
  |none =>
    simp only[cOp]at hc;split at hc
    .simp only[aa]at hc;subst hc;simp only[lay,aa,aq]at he;obtain⟨rfl,rfl,rfl⟩:=he;exact FD r
    .cases hc
 .simp only[cOp]at hc;split at hc
  .rename_i kt e rx hu h1
   simp only[aa]at hc;subst hc;simp only[lay]at he;exact LK hu he (cN ht h1) r
  .cases hc
end
end Go.Am
