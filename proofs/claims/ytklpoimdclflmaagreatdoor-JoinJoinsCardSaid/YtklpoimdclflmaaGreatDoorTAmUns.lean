/- Slices zeroed, copied, grown by zeros; strings.Builder's way -/
import Derived.Test.YtklpoimdclflmaaGreatDoorTAmMap
import Derived.Lib.UnsafeStr
import Derived.Lib.MakeNoZero
import Derived.Lib.Builder
import Derived.Lib.AppendStr
import Derived.KernelRfl
set_option linter.all false
namespace Go.Am
open Go.RowKit
section
variable {f:FuncId}{fn:Func}{h':AH}{k:IntKind}{n:Nat}{v x:AV}{x':Value}{z:List AV}
variable {P:Program}{K:Bs}{σ:Sg}{h:AH}{w:World}
def KX(hx:VR σ x x')(r:Rep K σ h w)(he:FX h x=some v) :
 Yields P K σ (do pure (.value (<-Instr.entry x'))) w v h:=by
 unfold FX at he;split at he
 .rename_i b
  simp only[VR]at hx;obtain⟨i,hi,rfl⟩:=hx;split at he
  .rename_i m since seen last hg
   obtain⟨i',hi',mo,h1,h2,h0,h3⟩:=r.obj b _ hg rfl;rw[hi]at hi';simp only[aa]at hi';subst hi';rcases h3 with⟨e1,_⟩|⟨b',j,e1,hj,rfl⟩
   .cases e1
   .simp only[aa]at e1;subst e1;split at he
    .rename_i es c n hm hl
     obtain⟨es',m1,m2,m3⟩:=r.map hm hj;split at he
     .rename_i hc
      subst hc;rw[aG]at he;obtain⟨e,hf,rfl⟩:=he;have key:∀{es:List (AV×AV×Nat)}{es':List MapEntry},EntR σ es es'->es.find? (λe=>e.2.2==n)=some e->∃e',es'.find? (λe=>e.born==n)=some e'/\VR σ e.1 e'.key/\VR σ e.2.1 e'.val:=by
       intro es;induction es with
       |nil=>intro es' _ hf;cases hf
       |cons x es ih =>
         intro es' hr hf;obtain⟨e1,r1,rfl,q1,q2,q3,q4⟩:=hr.cons_inv;simp only[List.find?_cons]at hf |-;rw[q3];split at hf
         .rename_i hx2
          simp only[aa]at hf;subst hf;exact⟨e1,rfl,q1,q2⟩
         .exact ih q4 hf
      obtain⟨e',hf',k1,k2⟩:=key m3 hf;have hget1:(getObj i.blk).run P w=.ok (.mapIter (some j.blk) since seen.toArray c) w:=by simp[getObj,Sem.run,h1]
      have hget2:(getObj j.blk).run P w=.ok (.map es'.toArray c) w:=by simp[getObj,Sem.run,m1]
      have hback:seen.toArray.back?=some n:=by simpa using hl
      refine Yields.same (v':=.tuple #[e'.key,e'.val]) r ?_ (by simp only[VR,VRs];exact⟨[e'.key,e'.val],rfl,_,_,rfl,k1,_,_,rfl,k2,rfl⟩);simp[Instr.entry,h0,Sem.run_bind,hget1,hget2,hback,hf']
     .cases he
    .cases he
  .cases he
 .cases he
def Ho{t e ty:TypeId}{ts:List TypeId}(hu:P.underlying t=some (.slice e))(hx:VR σ x x')(r:Rep K σ h w)(he:Gt x=some v) :
 Yields P K σ (do pure (.value (<-Builtin.cap_ (t::ts).toArray ty #[x']))) w v h:=by
 cases x<;>simp only[Gt,reduceCtorEq,aa]at he;subst he;simp only[VR]at hx;subst hx;exact Yields.same (v':=.int .i64 0) r (by simp[Builtin.cap_,run_underlying hu,goInt]) (by simp[VR])
def pW{zv:Array Value}(hz:VRs σ z zv.toList)(n:Nat)(hn:z.length≠0\/n=0):VRs σ (cq z n) (Builtin.zeroCells zv n).toList:=by
 have hl:zv.size=z.length:=by have:=hz.length;simpa using this
 have:=oZ hz n hn;unfold Builtin.zeroCells;rw[hl];simpa[hl]using this
def KI{t e ty:TypeId}{ts:List TypeId}(hu:P.underlying t=some (.slice e))(hs:eU P e=some n)(hz:gu P e=some z)(hzl:z.length=n)(hnz:n≠0)(hx:VR σ x x')(r:Rep K σ h w)(he:Cb h z x=some (v,h')) :
 Yields P K σ (do pure (.value (<-Builtin.clear_ (t::ts).toArray ty #[x']))) w v h':=by
 obtain⟨i,zv,hi,hzv,hrel⟩:=fh hz;have hzr:(zeroValue e).run P w=.ok zv w:=by simp[zeroValue,typeInfo,hi,hzv]
 unfold Cb at he;cases x<;>simp only[reduceCtorEq]at he
 case nils =>
  simp only[aa,aq]at he;obtain⟨rfl,rfl⟩:=he;simp only[VR]at hx;subst hx;exact Yields.same (v':=undef) r (by simp[Builtin.clear_,run_underlying hu,undef]) VR.un
 case sl b o len cap =>
  simp only[VR]at hx;obtain⟨p,o',c',hp,rfl,hoff,hcc,hnc,hsp⟩:=hx;split at he
  .rename_i h0
   subst h0;simp only[aa,aq]at he;obtain⟨rfl,rfl⟩:=he;exact Yields.same (v':=undef) r (by simp[Builtin.clear_,run_underlying hu,undef]) VR.un
  .rename_i h0
   split at he
   .rename_i hall
    rw[aG]at he;obtain⟨h2,hwr,he⟩:=he;simp only[aq]at he;obtain⟨rfl,rfl⟩:=he;have hn0:z.length≠0\/len=0:=.inl om;have hvs:=pW (hrel σ) len hn0;obtain⟨p',hp',g1,g2,g3⟩:=r.wr hwr hvs;rw[hp]at hp';simp only[aa]at hp';subst hp';have ho:o'=p.d+o:=by rcases hoff with q|q<;>omega
    subst ho;have hone:=VRs.all_one hvs hall;have hst:=run_storeCells_cells (P:=P) p.blk (p.d+o) _ 0 w (by simpa using g1) (by simpa using g2) hone;obtain⟨k,rfl⟩:∃k,len=k+1:=⟨len-1,om⟩
    refine⟨.value undef,undef,_,σ,?_,.inl rfl,Sg.le_refl σ,VR.un,g3⟩;simp only[Builtin.clear_,nh,bD,Sem.run_bind,run_underlying hu,Result.andThen_ok,hzr,undef];simp[hst]
   .cases he
def ym{t t' e ty:TypeId}{i:TypeInfo}{zv:Value}{tl:List TypeId}(hu:P.underlying t=some (.slice e))(hu':P.underlying t'=some (.int k))(hi:P.info? e=some i)(hz:i.zero=some zv){q:IntKind}(h0:0<n)
 (hmax:n<bf) (hfit:n*i.bytes<bf) (hs:i.size≠0) :
 (Builtin.append_ (t::t'::tl).toArray ty #[.slice none 0 0,.int q n]).run P w =
  .ok (.slice (some ⟨w.heap.size,0,none⟩) n (grownCap w n 0 e)) (w.drew.alloc (.cells (Builtin.zeroCells zv.cells n++Builtin.zeroCells zv.cells (grownCap w n 0 e-n)) e)):=by
 unfold bf at hmax hfit;have hw:IntKind.i64.wrap (n:Int)=n:=by
  rw[IntKind.wrap_i64];omega
 have hn:¬n<=0:=om;have h1:¬(n:Int)<0:=om;have h2:¬(281474976710656:Int)<(n:Int)*i.bytes:=by
  have:((n*i.bytes:Nat):Int)<2^40:=by exact_mod_cast hfit
  push_cast at this
  omega
 have h3:¬(9223372036854775807:Int)<(n:Int):=om;have hf:=Ex (len:=0) (m:=n) (cap:=0) (bts:=i.bytes) om (by simpa using hfit);have h4:¬(281474976710656<Builtin.nextslicecap n 0*i.bytes):=by simp only[bN]at hf;omega
 have h5:¬n*i.size=0:=by
  intro q;rcases Nat.mul_eq_zero.1 q with q|q<;>omega
 have h6:¬n=0:=om;simp[Builtin.append_,run_underlying hu,run_underlying hu',sizeOf,typeInfo,zeroValue,hi,hz,asInt,asIntOf,hw,h1,h2,h3,h4,h5,h6,hs,hn,Question.forced,Builtin.firstCells,newRow,grownCap]
def Le{t t' e ty:TypeId}{bts:Nat}{tl:List TypeId}(hu:P.underlying t=some (.slice e))(hu':P.underlying t'=some (.int k))(hs:eU P e=some n)(hb:tU P e=some bts)(hz:gu P e=some z)
 (hzl:z.length=n) (hn0:n≠0) {s x:AV}{s' x':Value} (hs':VR σ s s') (hx:VR σ x x') (r:Rep K σ h w) {v:AV}{h':AH} (he:zj h z bts s x=some (v,h')) :
 Yields P K σ (do pure (.value (<-Builtin.append_ (t::t'::tl).toArray ty #[s',x']))) w v h':=by
 obtain⟨i,zv,hi,hzv,hrel⟩:=fh hz;have hin:i.size=n:=by unfold eU at hs;simp[hi]at hs;exact hs
 have hib:i.bytes=bts:=by unfold tU at hb;simp[hi]at hb;exact hb
 have hzs:zv.cells.size=n:=by have:=(hrel σ).length;simp at this;omega
 cases s<;>cases x<;>simp only[zj,reduceCtorEq]at he
 rename_i q m
 simp only[VR]at hs' hx;subst hs' hx;split at he
 .rename_i h0
  subst h0;simp only[aa,aq]at he;obtain⟨rfl,rfl⟩:=he;refine Yields.same (v':=.slice none 0 0) r ?_ (by simp[VR]);have hw0:IntKind.i64.wrap 0=0:=by decide
  simp[Builtin.append_,run_underlying hu,run_underlying hu',sizeOf,typeInfo,hi,asInt,asIntOf,hw0]
 .rename_i h0
  split at he
  .rename_i hc
   obtain⟨c1,c2,c3⟩:=hc;simp only[aa,aq]at he;obtain⟨rfl,rfl⟩:=he;obtain⟨m,rfl⟩:∃k:Nat,m=k:=⟨m.toNat,om⟩
   simp only[aO];have hm0:0<m:=om;have hrun:=ym (P:=P) (w:=w) (ty:=ty) (tl:=tl) (q:=q) hu hu' hi hzv hm0 (by exact_mod_cast c2) (by rw[hib];exact_mod_cast c3) om;have hcap:=kN w m 0 e;have hzc:=pW (hrel σ) m (.inl om);refine Yields.newCells r (cq z m) z.length (Builtin.zeroCells zv.cells m++Builtin.zeroCells zv.cells (grownCap w m 0 e-m)) e (0,0) (.slice (some ⟨w.heap.size,0,none⟩) m (grownCap w m 0 e)) w.drew (.inr rfl) ?_ ?_ ?_ (by simp) ?_ ?_
   .simp[hrun]
   .have:=hzc.length;simp only[bU]at this;simp;omega
   .intro j y hy;obtain⟨b2,hb2,rb2⟩:=hzc.get hy;refine⟨b2,?_,rb2⟩;have hj:j<(Builtin.zeroCells zv.cells m).toList.length:=(au.1 hb2).1;rw[fJ (by simpa using hj)];simpa using hb2
   .intro k _;simp
   .intro τ hτ;simp only[VR];refine⟨_,0,grownCap w m 0 e,hτ,rfl,.inr (by simp),hcap,ab _,.inr ⟨by simp,?_⟩⟩;simp only[mL,lD,hzs,bN,hzl];rw[<-dF];exact fW _ om
  .cases he
def KY{s d t:TypeId}(hs:P.underlying s=some (.pointer t))(hd:P.underlying d=some .unsafePointer)(hsz:eU P t=some (n+1))(hx:VR σ x x')(r:Rep K σ h w)(he:Gd h x=some v) :
 Yields P K σ (do pure (.value (<-convert s d x'))) w v h:=by
 unfold eU at hsz;rw[aG]at hsz;obtain⟨ti,hti,hts⟩:=hsz;unfold Gd at he;split at he
 .simp only[aa]at he;subst he;simp only[VR]at hx;subst hx;exact Yields.same (v':=.pointer none) r (by simp[convert,run_underlying hs,run_underlying hd,Conv.unsafePointer]) (by simp[VR])
 .rename_i b o
  have hx0:=hx;simp only[VR]at hx;obtain⟨i,hi,rfl⟩:=hx;split at he
  .rename_i cs e ro hg
   split at he
   .rename_i ho
    simp only[aa]at he;subst he;have hl:(AO.cells cs e ro).live=true:=by
     cases cs with
     |nil=>simp at ho
     |cons y ys=>simp[AO.live]
    obtain⟨i',hi',C,tt,fr,g1,g2,g3,g4,g5,g6⟩:=r.obj b _ hg hl;rw[hi]at hi';simp only[aa]at hi';subst hi';have hsh:w.shape? i.blk=some (tt,C.size):=by simp[World.shape?,g1]
    refine Yields.same (v':=.pointer (some ⟨i.blk,i.d+o,none⟩)) r ?_ hx0;have:=Lib.run_to_unsafe w ⟨i.blk,i.d+o,none⟩ hs hd hti (by rw[hts];omega) hsh (by show i.d+o<C.size;omega);simp[this]
   .cases he
  .cases he
 .cases he
def pe{e:TypeId}{count off:Nat}(h0:P.cellsOf e≠0)(hr:off%P.cellsOf e=0)(hn:off/P.cellsOf e+n<=count):liesAt P P.depth e count off e n=true:=by
 have hd:P.depth=(2*(P.types.size+Made.depth)+1)+1:=rfl;rw[hd];simp only[liesAt,dm];left;rw[hd];simp[rowAt,h0,hr,hn,sameLayout]
def KZ{s d t:TypeId}(hs:P.underlying s=some .unsafePointer)(hd:P.underlying d=some (.pointer t))(hsz:eU P t=some (n+1))(hK:K.P=P)(hx:VR σ x x')(r:Rep K σ h w)(he:Ge h t (n+1) x=some v) :
 Yields P K σ (do pure (.value (<-convert s d x'))) w v h:=by
 unfold eU at hsz;have hc:P.cellsOf t=n+1:=by unfold Program.cellsOf;rw[hsz];rfl
 rw[aG]at hsz;obtain⟨ti,hti,hts⟩:=hsz;unfold Ge at he;split at he
 .simp only[aa]at he;subst he;simp only[VR]at hx;subst hx;exact Yields.same (v':=.pointer none) r (by simp[convert,run_underlying hs,run_underlying hd,Conv.unsafePointer]) (by simp[VR])
 .rename_i b
  have hx0:=hx;simp only[VR]at hx;obtain⟨i,hi,rfl⟩:=hx;split at he
  .rename_i cs e ro hg
   split at he
   .rename_i ho
    simp only[aa]at he;subst he;have hl:(AO.cells cs e ro).live=true:=by
     cases cs with
     |nil=>simp at ho
     |cons y ys=>simp[AO.live]
    obtain⟨i',hi',C,tt,fr,g1,g2,g3,g4,g5,g6⟩:=r.obj b _ hg hl;rw[hi]at hi';simp only[aa]at hi';subst hi';have htt:tt=i.ty:=g6.2;obtain⟨k1,k2⟩:=(r.dom.2 b t ho.1).2 i hi;rw[k1]at htt;subst htt;have hsh:w.shape? i.blk=some (tt,C.size):=by simp[World.shape?,g1]
    have hlies:liesAt P P.depth tt (C.size/P.cellsOf tt) (i.d+0) tt 1=true:=by
     rcases k2 with k2|k2
     .rw[hK]at k2;have hc1:P.cellsOf tt=1:=by unfold Program.cellsOf;rw[k2];rfl
      refine pe om (by rw[hc1];omega) ?_;rw[hc1];simp;omega
     .refine pe om (by rw[k2];simp) ?_;rw[k2,hc];simp only[eB,vT,bN];exact(Nat.one_le_div_iff om).2 om
    refine Yields.same (v':=.pointer (some ⟨i.blk,i.d+0,none⟩)) r ?_ hx0;have:=Lib.run_from_unsafe w ⟨i.blk,i.d+0,none⟩ hs hd hti hsh hlies;simp only[Sem.run_bind,this,Result.andThen_ok,Sem.run_pure]
   .cases he
  .cases he
 .cases he
def Hc{ats:Array TypeId}{ty:TypeId}(hx:VR σ x x')(r:Rep K σ h w)(he:DG x=some v) :
 Yields P K σ (do pure (.value (<-Builtin.unsafeSliceData_ ats ty #[x']))) w v h:=by
 unfold DG at he;split at he
 .simp only[aa]at he;subst he;simp only[VR]at hx;subst hx;exact Yields.same (v':=.pointer none) r (by simp[Lib.run_unsafeSliceData_nil]) (by simp[VR])
 .rename_i b o n c
  simp only[VR]at hx;obtain⟨i,o',c',hi,rfl,hoff,hcc,hnc,hsp⟩:=hx;split at he
  .cases he
  .rename_i hc0
   simp only[aa]at he;subst he;have ho:o'=i.d+o:=by rcases hoff with q|q;exact absurd q hc0;exact q
   subst ho;refine Yields.same (v':=.pointer (some ⟨i.blk,i.d+o,none⟩)) r ?_ (by simp only[VR];exact⟨i,hi,rfl⟩);simp[Lib.run_unsafeSliceData_row w ats ty ⟨i.blk,i.d+o,none⟩ n c' om]
 .cases he
def oQ:∀(ns:List Int) (a:Addr) (acc:ByteArray),(∀j x,ns[j]?=some x->w.cell? (a.add j)=some (.int .u8 x)) ->
 (loadBytes a acc ns.length).run P w=.ok (ns.foldl (λr n=>r.push n.toNat.toUInt8) acc) w
 |[],a,acc,_=>by simp[loadBytes]
 |x::l,a,acc,h=>by
   have h0:w.cell? a=some (.int .u8 x):=by
    have:=h 0 x rfl;simpa[Addr.add]using this
   have ih:=oQ l (a.add 1) (acc.push x.toNat.toUInt8) (λj y hy=>by
    have:=h (j+1) y (by simpa using hy);have e:(a.add 1).add j=a.add (j+1):=by
     unfold Addr.add;by_cases hj:j=0
     .subst hj;simp
     .simp[hj];omega
    rw[e];exact this)
   simp only[bd,loadBytes,Sem.run_bind,run_load,h0,Result.andThen,iH];rw[ih]
def Hb{pt ty e:TypeId}{tl:List TypeId}(hp:P.underlying pt=some (.pointer e))(hsz:eU P e=some 1){n:AV}{n':Value}(hx:VR σ x x')(hn:VR σ n n')(r:Rep K σ h w)(he:zI h e x n=some (v,h')) :
 Yields P K σ (do pure (.value (<-Builtin.unsafeString_ (pt::tl).toArray ty #[x',n']))) w v h':=by
 have hc:P.cellsOf e=1:=by unfold Program.cellsOf;unfold eU at hsz;rw[hsz];rfl
 cases x<;>cases n<;>simp only[zI,reduceCtorEq]at he
 case nilp.int k m =>
  split at he
  .rename_i h0
   subst h0;simp only[aa,aq]at he;obtain⟨rfl,rfl⟩:=he;simp only[VR]at hx hn;subst hx hn;refine Yields.same (v':=.string .empty) r ?_ (by simp only[VR];exact⟨_,rfl,rfl⟩);have hmax:IntKind.i64.max=9223372036854775807:=rfl
   have hdef:Builtin.unsafeString_ (pt::tl).toArray ty #[.pointer none,.int k 0] =
    (do
     let n <-asInt (.int k 0)
     if n<0 then runtimePanic (.error "unsafe.String: len out of range")
     if n>IntKind.i64.max then unsupported (.unsafePointer "String: a length above the largest int")
     if n=0 then pure (.string .empty)
     else runtimePanic (.error "unsafe.String: ptr is nil and len is not zero")):=rfl
   rw[hdef];simp[asInt,asIntOf,hmax]
  .cases he
 case ptr.int b o k m =>
  simp only[VR]at hx hn;subst hn;obtain⟨i,hi,rfl⟩:=hx;have hmax:IntKind.i64.max=9223372036854775807:=rfl
  have hdef:Builtin.unsafeString_ (pt::tl).toArray ty #[.pointer (some ⟨i.blk,i.d+o,none⟩),.int k m] =
   (do
    let n <-asInt (.int k m)
    if n<0 then runtimePanic (.error "unsafe.String: len out of range")
    if n>IntKind.i64.max then unsupported (.unsafePointer "String: a length above the largest int")
    if n=0 then pure (.string .empty)
    else if <-variablesAt ⟨i.blk,i.d+o,none⟩ (<-elemOf pt) n.toNat then do
     let s <-loadBytes ⟨i.blk,i.d+o,none⟩ .empty n.toNat
     freeze ⟨i.blk,i.d+o,none⟩ n.toNat
     pure (.string s)
    else unsupported (.unsafePointer "String: not so many bytes at ptr")):=rfl
  rw[hdef];split at he
  .rename_i h0
   subst h0;simp only[aa,aq]at he;obtain⟨rfl,rfl⟩:=he;refine Yields.same (v':=.string .empty) r ?_ (by simp only[VR];exact⟨_,rfl,rfl⟩);simp[asInt,asIntOf,hmax]
  .rename_i h0
   split at he
   .rename_i hm
    obtain⟨m,rfl⟩:∃k:Nat,m=k:=⟨m.toNat,om⟩
    simp only[aO]at he;split at he
    .rename_i cs e1 hg
     split at he
     .rename_i bs hrd
      split at he
      .rename_i hty
       rw[aG]at he;obtain⟨s,hbs,he⟩:=he;simp only[aq]at he;obtain⟨rfl,rfl⟩:=he;obtain⟨i',hi',C,tt,fr,g1,g2,g3,g4,g5,g6⟩:=r.obj b _ hg rfl;rw[hi]at hi';simp only[aa]at hi';subst hi';have htt:tt=e:=by rw[g6.2];exact((r.dom.2 b e hty).2 i hi).1
       subst htt;obtain⟨vs,hvs,hvl,hcell⟩:=r.rd hrd hi;obtain⟨ns,rfl,rfl⟩:=nY hbs hvs;simp only[ah]at hvl;subst hvl;have hlo:o+ns.length<=cs.length:=by
        unfold ai at hrd;rw[hg]at hrd;simp only at hrd;by_cases q:o+ns.length<=cs.length
        .exact q
        .simp[q]at hrd
       have hlb:=oQ (P:=P) (w:=w) ns ⟨i.blk,i.d+o,none⟩ .empty (λj x hx=>by
        rw[Addr.add_lit];exact hcell j _ (by simp[hx]))
       have hsh:w.shape? i.blk=some (tt,C.size):=by simp[World.shape?,g1]
       have hlies:liesAt P P.depth tt (C.size/P.cellsOf tt) (i.d+o) tt ns.length=true:=by
        refine pe om (by rw[hc];omega) ?_;rw[hc];simp;omega
       have hmb:=hm.2;unfold bf at hmb;have h63:¬(9223372036854775807:Int)<(ns.length:Int):=om;have hneg:¬(ns.length:Int)<0:=om;have hne:¬ns=[]:=by rintro rfl;simp at h0
       have hlne:¬ns.length=0:=by simpa using hne
       let W1:=w.freeze ⟨i.blk,i.d+o,none⟩ ns.length
       have hW1b:∃fr',W1.heap[i.blk]?=some (.cells C tt fr'):=by
        simp only[W1,World.freeze,hlne,if_false,ij,if_true,g1,aQ];exact⟨_,rfl⟩
       have hW1o:∀k,k≠i.blk->W1.heap[k]?=w.heap[k]?:=by
        intro k hk;simp only[W1,World.freeze,hlne,if_false,ij];rw[if_neg (λq=>hk q.symm)]
       have hW1s:W1.heap.size=w.heap.size:=by simp[W1,World.freeze,hlne]
       obtain⟨fr',hfr'⟩:=hW1b;refine⟨.value (.string (ns.foldl (λr n=>r.push n.toNat.toUInt8) .empty)),.string (ns.foldl (λr n=>r.push n.toNat.toUInt8) .empty),W1,σ,?_,.inl rfl,Sg.le_refl σ,?_,?_⟩
       .simp[asInt,asIntOf,hmax,h63,hneg,hne,hlne,variablesAt,hsh,elemOf,run_underlying hp,hlies,hlb,W1]
       .simp only[VR];refine⟨_,rfl,?_⟩;have:=ky ns .empty;simpa using this
       .refine r.put hg hi rfl ⟨C,tt,fr',hfr',g2,g3,g4,g5,λq=>by (cases q),g6.2⟩ hW1o (Lib.below_freeze r.below (p:=⟨i.blk,i.d+o,none⟩) (g6.1 rfl).1.1 _) (by rw[hW1s];exact r.le)
      .cases he
     .cases he
    .cases he
   .cases he
def vE:∀(n t:Nat) (acc:Array Value),(∀v∈acc.toList,v.oneCell'=true)->∀v∈(Extern.BytealgMakeNoZero.digits n t acc).toList,v.oneCell'=true
 |0,_,acc,h=>h
 |n+1,t,acc,h=>by
   unfold Extern.BytealgMakeNoZero.digits;refine vE n _ _ λv hv=>?_;simp only[Array.toList_push,aZ,eC]at hv;rcases hv with hv|rfl
   .exact h v hv
   .rfl
def Ll(ps:Array TypeId)(t e:TypeId)(ht:P.underlying t=some (.slice e))(n:Nat)(hn:n<=281474976710656) :
 ∃cs:Array Value,(Extern.BytealgMakeNoZero.makeNoZero ps #[t] #[.int .i64 n]).run P w=.ok (.slice (some ⟨w.heap.size,0,none⟩) n cs.size) (w.drew.drew.alloc (.cells cs e))/\n<=cs.size/\∀v∈cs.toList,v.oneCell'=true:=by
 have hdef:Extern.BytealgMakeNoZero.makeNoZero ps #[t] #[.int .i64 n] =
  (do
   let .slice elem <-underlying t|stuck "bytealg.MakeNoZero: slice type expected"
   if (n:Int)<0||(n:Int)>2^48 then runtimePanic (.error "makeslice: len out of range")
   let cap <-choose (.appendCap (n:Int).toNat 0 elem)
   askRoom cap
   let bytes <-choose (.extern "internal/bytealg.MakeNoZero.bytes" 0)
   let a <-newRow elem (Extern.BytealgMakeNoZero.digits cap bytes #[])
   pure (.slice (some a) (n:Int).toNat cap)):=rfl
 refine⟨Extern.BytealgMakeNoZero.digits (grownCap w n 0 e) ((Question.extern "internal/bytealg.MakeNoZero.bytes" 0).cut (w.tape (w.drawn+1) (.extern "internal/bytealg.MakeNoZero.bytes" 0))) #[],?_,?_,?_⟩
 .rw[hdef];have h1:¬(n:Int)<0:=om;have h2:¬(281474976710656:Int)<(n:Int):=om;simp[run_underlying ht,h1,h2,Question.forced,newRow,Lib.size_digits,grownCap]
 .rw[Lib.size_digits];simpa using grownCap_ge w n 0 e
 .exact vE _ _ _ (by simp)
def KO{s:Sem Next}{ps:Array TypeId}{t e:TypeId}(ht:P.underlying t=some (.slice e))(hx:VR σ x x')(r:Rep K σ h w)(hs:s=(do pure (.value (<-Extern.BytealgMakeNoZero.makeNoZero ps #[t] #[x']))))(he:Ib h e x=some (v,h')) :
 Yields P K σ s w v h':=by
 unfold Ib at he;split at he
 .rename_i n
  simp only[VR]at hx;subst hx;split at he
  .rename_i hc2
   simp only[aa,aq]at he;obtain⟨rfl,rfl⟩:=he;obtain⟨m,rfl⟩:∃k:Nat,n=k:=⟨n.toNat,om⟩
   have hb:=hc2.2;unfold bf at hb;obtain⟨cs,g1,g2,g3⟩:=Ll (P:=P) (w:=w) ps t e ht m om;simp only[aO];refine Yields.newCellsX (w:=w) (List.replicate m .any) 1 cs e (0,0) (.slice (some ⟨w.heap.size,0,none⟩) m cs.size) w.drew.drew r.drew.drew rfl ?_ ?_ ?_ (by simp) ?_ ?_ (some e) (λu hu=>(Option.some.inj hu).symm)
   .rw[hs];simp only[Sem.run_bind,g1,Result.andThen_ok,Sem.run_pure]
   .simpa using g2
   .intro j y hy;have hj:j<m:=by
     have:=(au.1 hy).1;simpa using this
    rw[cz,if_pos hj]at hy;simp only[aa]at hy;subst hy;refine⟨cs[j]'om,eZ _,?_⟩;simp only[VR];exact g3 _ (by simp)
   .intro k _;simp
   .intro τ hτ;simp only[VR];exact⟨_,0,cs.size,hτ,rfl,.inr (by simp),g2,ab _,.inr ⟨by simp,by simp⟩⟩
  .cases he
 .cases he
def Lb{t e ty:TypeId}{ts:List TypeId}(hu:P.underlying t=some (.slice e))(hs:eU P e=some n){d s:AV}{d' s':Value}(hd:VR σ d d')(hs':VR σ s s')(r:Rep K σ h w)(he:JA h n d s=some (v,h')) :
 Yields P K σ (do pure (.value (<-Builtin.copy_ (t::ts).toArray ty #[d',s']))) w v h':=by
 cases d<;>cases s<;>simp only[JA,reduceCtorEq]at he
 case nils.nils =>
  simp only[aa,aq]at he;obtain⟨rfl,rfl⟩:=he;simp only[VR]at hd hs';subst hd hs';exact Yields.same (v':=.int .i64 0) r (by simp[Builtin.copy_,run_underlying hu,Builtin.lenOf,dA hs,Builtin.firstCells,goInt]) (by simp[VR])
 case nils.sl b2 o2 m2 c2 =>
  simp only[aa,aq]at he;obtain⟨rfl,rfl⟩:=he;simp only[VR]at hd hs';subst hd;obtain⟨p,o',c',hp,rfl,_⟩:=hs';have hl0:(loadCells ⟨p.blk,o',none⟩ 0).run P w=.ok #[] w:=run_loadCells_list w _ [] λj v hv=>by simp at hv
  exact Yields.same (v':=.int .i64 0) r (by simp[Builtin.copy_,run_underlying hu,Builtin.lenOf,dA hs,Builtin.firstCells,hl0,goInt]) (by simp[VR])
 case sl.nils b2 o2 m2 c2 =>
  simp only[aa,aq]at he;obtain⟨rfl,rfl⟩:=he;simp only[VR]at hd hs';subst hs';obtain⟨p,o',c',hp,rfl,_⟩:=hd;exact Yields.same (v':=.int .i64 0) r (by simp[Builtin.copy_,run_underlying hu,Builtin.lenOf,dA hs,Builtin.firstCells,storeCells,goInt]) (by simp[VR])
 case sl.sl b o k c b2 o2 m2 c2 =>
  simp only[VR]at hd hs';obtain⟨p,o',c',hp,rfl,hoff,hcc,hnc,_⟩:=hd;obtain⟨p2,o2',c2',hp2,rfl,hoff2,hcc2,hnc2,_⟩:=hs';split at he
  .rename_i cs hrd
   split at he
   .rename_i hall
    rw[aG]at he;obtain⟨h2,hwr,he⟩:=he;simp only[aq]at he;obtain⟨rfl,rfl⟩:=he;obtain⟨vs,hvs,hvl,hcell⟩:=r.rd hrd hp2;obtain⟨p',hp',g1,g2,g3⟩:=r.wr hwr hvs;rw[hp]at hp';simp only[aa]at hp';subst hp';have hone:=VRs.all_one hvs hall;have hld:(loadCells ⟨p2.blk,o2',none⟩ (min m2 k*n)).run P w=.ok vs.toArray w:=by
     rw[<-hvl];refine run_loadCells_list w _ vs λj v hv=>?_;rw[Addr.add_lit];rcases hoff2 with q|q
     .have:vs.length=0:=by rw[hvl];have:min m2 k=0:=om
                           rw[this];simp
      rw[aW.1 this]at hv;simp at hv
     .subst q;exact hcell j v hv
    have hst:(storeCells ⟨p.blk,o',none⟩ vs).run P w=.ok () (w.setCells p.blk (p.d+o) vs):=by
     rcases hoff with q|q
     .have hv0:vs=[]:=aW.1 (by rw[hvl];have:min m2 k=0:=om
                               rw[this];simp)
      subst hv0;simp[storeCells,World.setCells]
     .subst q;have:=run_storeCells_cells (P:=P) p.blk (p.d+o) vs 0 w (by simpa using g1) (by simpa using g2) hone;simpa using this
    refine⟨.value (.int .i64 (min m2 k:Nat)),.int .i64 (min m2 k:Nat),_,σ,?_,.inl rfl,Sg.le_refl σ,by simp[VR],g3⟩;simp[Builtin.copy_,run_underlying hu,Builtin.lenOf,dA hs,Builtin.firstCells,hld,hst,goInt]
   .cases he
  .cases he
def Cn(ho:outer P f=some none)(hf:P.funcs[f]?=some fn):fn.body=none/\fn.name= "internal/abi.NoEscape"/\fn.origin= "":=by
 unfold outer at ho;rw[hf]at ho;simp only at ho;split at ho
 .cases ho
 .rename_i hb
  split at ho
  .rename_i hn;exact⟨hb,hn.1,hn.2⟩
  .split at ho
   .split at ho
    .split at ho
     .split at ho<;>simp at ho
     .simp at ho
    .simp at ho
   .simp at ho
def Cm{e:TypeId}(ho:outer P f=some (some e)):∃fn t,P.funcs[f]?=some fn/\fn.body=none/\fn.name= "internal/bytealg.MakeNoZero"/\fn.origin= ""/\fn.resultTypes.toList=[t]/\P.underlying t=some (.slice e)/\eU P e=some 1:=by
 unfold outer at ho;split at ho
 .rename_i fn hf
  split at ho
  .cases ho
  .rename_i hb
   split at ho
   .simp at ho
   .split at ho
    .rename_i hn
     split at ho
     .rename_i t ht
      split at ho
      .rename_i e' hu
       split at ho
       .rename_i hs
        simp only[aa]at ho;subst ho;exact⟨fn,t,hf,hb,hn.1,hn.2,ht,hu,hs⟩
       .simp at ho
      .simp at ho
     .simp at ho
    .simp at ho
 .simp at ho
def wi(hn:fn.name= "internal/abi.NoEscape")(ho:fn.origin= ""):Extern.findNext fn=none/\Extern.find fn=some Extern.AbiNoEscape.same:=by
 unfold Extern.findNext Extern.find;simp only[hn,ho];have a1:Extern.allNextRows.lookup "internal/abi.NoEscape"=none:=by kernel_rfl
 have a2:Extern.allNextRows.lookup ""=none:=by kernel_rfl
 have a3:Extern.allGenericRows.lookup "internal/abi.NoEscape"=none:=by kernel_rfl
 have a4:Extern.allTypedRows.lookup "internal/abi.NoEscape"=none:=by kernel_rfl
 have a5:Extern.allRows.lookup "internal/abi.NoEscape"=some Extern.AbiNoEscape.same:=by kernel_rfl
 rw[a1,a2,a3,a4,a5];exact⟨rfl,rfl⟩
def tQ(hn:fn.name= "internal/bytealg.MakeNoZero")(ho:fn.origin= ""):Extern.findNext fn=none/\Extern.find fn=some (Extern.BytealgMakeNoZero.makeNoZero fn.params fn.resultTypes):=by
 unfold Extern.findNext Extern.find;simp only[hn,ho];have a1:Extern.allNextRows.lookup "internal/bytealg.MakeNoZero"=none:=by kernel_rfl
 have a2:Extern.allNextRows.lookup ""=none:=by kernel_rfl
 have a3:Extern.allGenericRows.lookup "internal/bytealg.MakeNoZero"=none:=by kernel_rfl
 have a4:Extern.allTypedRows.lookup "internal/bytealg.MakeNoZero"=some Extern.BytealgMakeNoZero.makeNoZero:=by kernel_rfl
 rw[a1,a2,a3,a4];exact⟨rfl,rfl⟩
end
end Go.Am
