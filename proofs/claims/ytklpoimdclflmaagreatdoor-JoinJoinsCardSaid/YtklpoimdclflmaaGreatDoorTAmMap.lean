/- The clean machine's maps are the model's. -/
import Derived.Test.YtklpoimdclflmaaGreatDoorTAmOps
set_option linter.all false
namespace Go.Am
open Go.RowKit
section
variable {b:Bool}{e q:RE}{es:List (AV×AV×Nat)}{es':List MapEntry}{h':AH}{k m v z:AV}{k' m' x':Value}{ks:List IntKind}{n:Nat}{x:Option (Nat×AV×Nat)}
variable {P:Program}{K:Bs}{σ:Sg}{h:AH}{w:World}
def El{t:TypeId}(h0:nV P t=some .ki):∃k,P.underlying t=some (.int k):=by
 unfold nV at h0
 repeat' (split at h0)
 all_goals first|(exact⟨_,by assumption⟩)|(simp at h0)
def Ek{t:TypeId}(h0:nV P t=some .ks):P.underlying t=some .string:=by
 unfold nV at h0
 repeat' (split at h0)
 all_goals first|assumption|(simp at h0)
def xX{t:TypeId}(h0:nV P t=some (.flat ks)):cEq P t=some (.flat ks):=by
 unfold nV at h0;split at h0
 .simp at h0
 .simp at h0
 .split at h0
  .rename_i ks' he
   simp only[aa,RE.flat.injEq]at h0;subst h0;exact he
  .simp at h0
 .simp at h0
def vN{t:TypeId}(h0:nV P t=some (.flat ks)):∃fs:Array Field,P.underlying t=some (.struct fs)/\P.stoodInHeld t=false/\P.eqGuardType P.depth t=false/\mG P fs.toList 0=some ks:=by
 have hc:=xX h0;unfold nV at h0;split at h0
 .simp at h0
 .simp at h0
 .rename_i fs hu
  obtain⟨a,b,c⟩:=Gw hu hc;exact⟨fs,hu,a,b,c⟩
 .simp at h0
def qL{t:TypeId}(h0:nV P t=some e):e=.ki\/e=.ks\/∃ks,e=.flat ks:=by
 unfold nV at h0
 repeat' (split at h0)
 all_goals simp at h0
 all_goals subst h0
 .exact .inl rfl
 .exact .inr (.inl rfl)
 .exact .inr (.inr ⟨_,rfl⟩)
def chk(b:Bool)(m:Nat)(vx:Array Value)(f:Field)(_:PUnit):Sem (ForInStep PUnit):=do
 if f.name≠ "_" then
  Instr.checkKey b (m+1) f.type (<-part f.type vx f.offset)
  pure (ForInStep.yield PUnit.unit)
 else pure (ForInStep.yield PUnit.unit)
def vm{b:Bool}{m:Nat}:∀(fs:List Field) (n:Nat) (ks:List IntKind) (xs:List AV) (vx:List Value),mG P fs n=some ks->(fV ks (xs.drop n) (xs.drop n)).isSome=true->VRs σ xs vx->(w:World) ->
 (forIn fs PUnit.unit (chk b m vx.toArray)).run P w=.ok PUnit.unit w
 |[],n,ks,xs,vx,hk,he,hx,w=>by simp
 |f::r,n,ks,xs,vx,hk,he,hx,w=>by
   unfold mG at hk;split at hk
   .rename_i k ks' hu hks
    split at hk
    .rename_i hc
     obtain⟨ho,hnm⟩:=hc;simp only[aa]at hk;subst hk;cases hxd:xs.drop n with
     |nil=>rw[hxd]at he;simp[fV]at he
     |cons x xs0 =>
       rw[hxd]at he;cases x<;>simp only[fV,jC,bT]at he
       rename_i k1 p
       split at he
       .rename_i hkk
        obtain⟨e1,-⟩:=hkk;subst e1;have gx:xs[n]?=some (.int k1 p):=by
         have:=congrArg (·[0]?) hxd;simpa using this
        obtain⟨zx,hzx,rx⟩:=hx.get gx;simp only[VR]at rx;subst rx;have hagg:qi P f.type=some false:=by simp[qi,hu]
        have pa:(part f.type vx.toArray f.offset).run P w=.ok (.int k1 p) w:=by
         simp[part,ke hagg,ho,hzx]
        have hch:(Instr.checkKey b (m+1) f.type (.int k1 p)).run P w=.ok () w:=by
         simp[Instr.checkKey,run_underlying hu]
        have ih:=vm (b:=b) (m:=m) r (n+1) ks' xs vx hks (by
         have d1:xs.drop (n+1)=xs0:=by rw[<-qQ,hxd];rfl
         rw[d1];simpa using he) hx w
        have hst:(chk b m vx.toArray f PUnit.unit).run P w=.ok (.yield PUnit.unit) w:=by
         unfold chk;rw[if_pos hnm];simp only[Sem.run_bind,pa,hch,Result.andThen_ok,Sem.run_pure]
        rw[List.forIn_cons,Sem.run_bind,hst];exact ih
       .simp at he
    .cases hk
   .cases hk
def zf{t:TypeId}{k:IntKind}(hu:P.underlying t=some (.int k))(x:Value)(w:World):(Instr.checkKey b (n+1) t x).run P w=.ok () w:=by
 cases x<;>simp[Instr.checkKey,run_underlying hu]
def ze{t:TypeId}(hu:P.underlying t=some .string)(x:Value)(w:World):(Instr.checkKey b (n+1) t x).run P w=.ok () w:=by
 cases x<;>simp[Instr.checkKey,run_underlying hu]
def tT{t:TypeId}{fs:Array Field}(hu:P.underlying t=some (.struct fs))(vx:Array Value)(w:World)(h:(forIn fs.toList PUnit.unit (chk b n vx)).run P w=.ok PUnit.unit w):(Instr.checkKey b (n+2) t (.agg vx)).run P w=.ok () w:=by
 rw[Instr.checkKey];simp only[Sem.run_bind,run_underlying hu,Result.andThen_ok];rw[<-Array.forIn_toList];have h':=h;unfold chk at h';rw[h'];rfl
def pO{t:TypeId}(h0:nV P t=some e){x:AV}(hx:VR σ x x')(he:tH e x=true)(b:Bool)(w:World):(Instr.checkKey b 10000 t x').run P w=.ok () w:=by
 rcases qL h0 with rfl|rfl|⟨ks,rfl⟩
 .obtain⟨k,hu⟩:=El h0;exact zf (n:=9999) hu x' w
 .have hu:=Ek h0;exact ze (n:=9999) hu x' w
 .obtain⟨fs,hu,hc1,hc2,hk⟩:=vN h0;cases x<;>simp only[tH,lc,eqF,jC,bT]at he;simp only[VR]at hx;obtain⟨vx,rfl,hx⟩:=hx;exact tT (n:=9998) hu _ w (vm (b:=b) (m:=9998) fs.toList 0 ks _ vx hk (by simpa using he) hx w)
def EntR(σ:Sg)(es:List (AV×AV×Nat))(es':List MapEntry):Prop :=
 es'.length=es.length/\∀(j:Nat) (k v:AV) (n:Nat),es[j]?=some (k,v,n)->∃e:MapEntry,es'[j]?=some e/\VR σ k e.key/\VR σ v e.val/\e.born=n
def EntR.nil{σ:Sg}:EntR σ [] []:=⟨rfl,λj k v n hx=>by simp at hx⟩
def EntR.cons_inv{σ:Sg}{x:AV×AV×Nat}(h:EntR σ (x::es) es'):∃e r,es'=e::r/\VR σ x.1 e.key/\VR σ x.2.1 e.val/\e.born=x.2.2/\EntR σ es r:=by
 obtain⟨hl,hh⟩:=h;cases es' with
 |nil=>simp at hl
 |cons e r =>
   obtain⟨e0,he0,h1,h2,h3⟩:=hh 0 x.1 x.2.1 x.2.2 (by simp);simp only[bD,aa]at he0;subst he0;refine⟨e,r,rfl,h1,h2,h3,by simpa using hl,λj k v n hx=>?_⟩;obtain⟨e1,he1,q⟩:=hh (j+1) k v n (by simpa using hx);exact⟨e1,by simpa using he1,q⟩
def EntR.set{σ:Sg}{es:List (AV×AV×Nat)}{es':List MapEntry}(h:EntR σ es es')(i:Nat){k v:AV}{n:Nat}{e:MapEntry}(h1:VR σ k e.key)(h2:VR σ v e.val)(h3:e.born=n):EntR σ (es.set i (k,v,n)) (es'.set i e):=by
 refine⟨by simp[h.1],λj k' v' n' hx=>?_⟩;rw[cU]at hx |-;by_cases hij:i=j
 .subst hij;rw[if_pos rfl]at hx |-;split at hx
  .rename_i hlt
   simp only[aa,aq]at hx;obtain⟨rfl,rfl,rfl⟩:=hx;rw[if_pos (by rw[h.1];exact hlt)];exact⟨e,rfl,h1,h2,h3⟩
  .cases hx
 .rw[if_neg hij]at hx |-;exact h.2 j k' v' n' hx
def EntR.push{σ:Sg}(h:EntR σ es es'){e:MapEntry}(h1:VR σ k e.key)(h2:VR σ v e.val)(h3:e.born=n):EntR σ (es++[(k,v,n)]) (es'++[e]):=by
 refine⟨by simp[h.1],λj k' v' n' hx=>?_⟩;rcases mI j es.length with hj|hj|hj
 .rw[bC hj]at hx;rw[bC (by rw[h.1];exact hj)];exact h.2 j k' v' n' hx
 .subst hj;rw[bw (ab _),dV]at hx;simp only[bD,aa,aq]at hx;obtain⟨rfl,rfl,rfl⟩:=hx;exact⟨e,by rw[bw (by rw[h.1];exact ab _),h.1,dV];rfl,h1,h2,h3⟩
 .rw[bJ (by simp;omega)]at hx;cases hx
def FindR(σ:Sg)(es':List MapEntry)(d:Nat):Option (Nat×AV×Nat)->Option (Nat×Value)->Prop
 |none,r=>r=none
 |some (i,v,n),r=>∃e v',r=some (i+d,v')/\es'[i]?=some e/\e.val=v'/\e.born=n/\VR σ v v'
def FindR.up{σ:Sg}{e:MapEntry}{d:Nat}{r:Option (Nat×Value)}(h:FindR σ es' (d+1) x r):FindR σ (e::es') d (JP x) r:=by
 cases x with
 |none=>exact h
 |some p =>
   obtain⟨i,v,n⟩:=p;obtain⟨e0,v',h1,h2,h3⟩:=h;exact⟨e0,v',by rw[h1,show i+(d+1)=i+1+d from by omega],by simpa using h2,h3⟩
def sL{y:Option (Option (Nat×AV×Nat))}(h:y.map JP=some x):∃z,y=some z/\x=JP z:=by
 cases y with
 |none=>cases h
 |some z=>simp only[aQ,aa]at h;exact⟨z,rfl,h.symm⟩
def pg{kd:TypeDesc}{e:RE}(hke:∀(x y:AV) (x' y':Value) (b:Bool),VR σ x x'->VR σ y y'->lc e x y=some b->Instr.sameNow kd x' y'=some b){k:AV}{k':Value}(hk:VR σ k k'):∀(es:List (AV×AV×Nat)) (es':List MapEntry) (d:Nat) (x:Option (Nat×AV×Nat)),EntR σ es es'->jL e k es=some x->∃r,Instr.findNow kd k' es' d=some r/\FindR σ es' d x r
 |[],es',d,x,h,he=>by
   simp only[jL,aa]at he;subst he;have:es'=[]:=by have:=h.1;simpa using this
   subst this;exact⟨none,rfl,rfl⟩
 |(k1,v1,n1)::es,es',d,x,h,he=>by
   obtain⟨e1,r1,rfl,q1,q2,q3,q4⟩:=h.cons_inv;unfold jL at he;split at he
   .rename_i hk1
    simp only[aa]at he;subst he;refine⟨some (d,e1.val),?_,?_⟩
    .simp only[Instr.findNow,hke _ _ _ _ _ hk q1 hk1]
    .exact⟨e1,e1.val,by simp,by simp,rfl,q3,q2⟩
   .rename_i hk1
    obtain⟨z,hz,rfl⟩:=sL he;obtain⟨r,hr1,hr2⟩:=pg hke hk es r1 (d+1) z q4 hz;refine⟨r,?_,hr2.up⟩;simp only[Instr.findNow,hke _ _ _ _ _ hk q1 hk1];exact hr1
   .cases he
def ph{t:TypeId}{e:RE}{w:World}(hke:∀(x y:AV) (x' y':Value) (b:Bool),VR σ x x'->VR σ y y'->lc e x y=some b->(Op.equal t x' y').run P w=.ok b w){k:AV}{k':Value}(hk:VR σ k k'):∀(es:List (AV×AV×Nat)) (es':List MapEntry) (d:Nat) (x:Option (Nat×AV×Nat)),EntR σ es es'->jL e k es=some x->∃r,(Instr.findAsking t k' es' d).run P w=.ok r w/\FindR σ es' d x r
 |[],es',d,x,h,he=>by
   simp only[jL,aa]at he;subst he;have:es'=[]:=by have:=h.1;simpa using this
   subst this;exact⟨none,rfl,rfl⟩
 |(k1,v1,n1)::es,es',d,x,h,he=>by
   obtain⟨e1,r1,rfl,q1,q2,q3,q4⟩:=h.cons_inv;unfold jL at he;split at he
   .rename_i hk1
    simp only[aa]at he;subst he;refine⟨some (d,e1.val),?_,?_⟩
    .simp[Instr.findAsking,Sem.run_bind,hke _ _ _ _ _ hk q1 hk1]
    .exact⟨e1,e1.val,by simp,by simp,rfl,q3,q2⟩
   .rename_i hk1
    obtain⟨z,hz,rfl⟩:=sL he;obtain⟨r,hr1,hr2⟩:=ph hke hk es r1 (d+1) z q4 hz;refine⟨r,?_,hr2.up⟩;simp[Instr.findAsking,Sem.run_bind,hke _ _ _ _ _ hk q1 hk1,hr1]
   .cases he
def JY(a b:ByteArray):(a==b)=(a.data.toList==b.data.toList):=by
 have h1:(a==b)=(a.data==b.data):=by cases a;cases b;rfl
 rw[h1];by_cases hab:a.data=b.data
 .rw[hab];simp
 .have h2:¬a.data.toList=b.data.toList:=λq=>hab (by
   obtain⟨⟨al⟩⟩:=a;obtain⟨⟨bl⟩⟩:=b;simp only at q;rw[q])
  rw[beq_eq_false_iff_ne.2 h2,beq_eq_false_iff_ne.2 hab]
def iQ{t:TypeId}(h0:nV P t=some e)(hk:VR σ k k')(h:EntR σ es es')(he:jL e k es=some x)(w:World) :
 ∃r,(Instr.findKey t k' es').run P w=.ok r w/\FindR σ es' 0 x r:=by
 rcases qL h0 with rfl|rfl|⟨ks,rfl⟩
 .obtain⟨kd,hu⟩:=El h0;obtain⟨r,hr1,hr2⟩:=pg (kd:=.int kd) (e:=.ki) (σ:=σ) (λx y x' y' b hx hy hb=>by
   cases x<;>cases y<;>simp only[lc,reduceCtorEq]at hb;split at hb
   .rename_i hkk
    simp only[VR]at hx hy;subst hx hy hkk;simpa[Instr.sameNow]using hb
   .cases hb) hk es es' 0 x h he
  exact⟨r,by simp[Instr.findKey,Sem.run_bind,run_underlying hu,hr1],hr2⟩
 .have hu:=Ek h0;obtain⟨r,hr1,hr2⟩:=pg (kd:=.string) (e:=.ks) (σ:=σ) (λx y x' y' b hx hy hb=>by
   cases x<;>cases y<;>simp only[lc,reduceCtorEq]at hb;simp only[VR]at hx hy;obtain⟨ba,rfl,h1⟩:=hx;obtain⟨bb,rfl,h2⟩:=hy;simp only[aa]at hb;subst hb h1 h2;simp only[Instr.sameNow,aa];exact JY _ _) hk es es' 0 x h he
  exact⟨r,by simp[Instr.findKey,Sem.run_bind,run_underlying hu,hr1],hr2⟩
 .have hc:=xX h0;obtain⟨fs,hu,_⟩:=vN h0;obtain⟨r,hr1,hr2⟩:=ph (P:=P) (t:=t) (e:=.flat ks) (σ:=σ) (w:=w) (λx y x' y' b hx hy hb=>CI hc hx hy (by simpa[lc,jY]using hb) w) hk es es' 0 x h he;cases es' with
  |nil =>
    refine⟨r,?_,hr2⟩;simp only[Instr.findAsking,Sem.run_pure,Result.ok.injEq]at hr1;obtain⟨rfl,-⟩:=hr1;simp[Instr.findKey,Sem.run_bind,run_underlying hu,Instr.findNow]
  |cons e1 r1 =>
    refine⟨r,?_,hr2⟩;have:Instr.findNow (.struct fs) k' (e1::r1) 0=none:=by simp[Instr.findNow,Instr.sameNow]
    simp[Instr.findKey,Sem.run_bind,run_underlying hu,this,hr1]
def Rep.map{K:Bs}{σ:Sg}{h:AH}{w:World}(r:Rep K σ h w){b:Nat}{es:List (AV×AV×Nat)}{c:Nat}(hg:h.get b=some (.mapo es c)){i:Pl}(hi:σ b=some i) :
 ∃es':List MapEntry,w.heap[i.blk]?=some (.map es'.toArray c)/\K.B<=i.blk/\EntR σ es es':=by
 obtain⟨i',hi',es',h1,h2,h3,h4⟩:=r.obj b _ hg rfl;rw[hi]at hi';simp only[aa]at hi';subst hi';exact⟨es',h1,h2,h3,h4⟩
def fX{w:World}{r k:Nat}{o:Obj}(hr:r<w.heap.size):({ w with heap:=w.heap.setIfInBounds r o}:World).heap[k]?=if k=r then some o else w.heap[k]?:=by
 simp only[fw];by_cases e:r=k
 .subst e;simp[hr]
 .simp[e,Ne.symm e]
def oa{B r:Nat}{w0 w:World}(hB:B<=r)(hs:B<=w.heap.size)(h:Below B w0 w)(o:Obj):Below B w0 ({ w with heap:=w.heap.setIfInBounds r o}:World):=by
 refine⟨h.os,h.tape,h.output,by simpa using h.size,λk hk=>?_⟩;simp only[fw];have:¬r=k:=om;simp only[this,if_false];exact h.block k hk
def Rep.putMap{K:Bs}{σ:Sg}{h:AH}{w:World}(r:Rep K σ h w){b:Nat}{c:Nat}(hg:h.get b=some (.mapo es c)){i:Pl}(hi:σ b=some i){es1:List (AV×AV×Nat)}{c1:Nat}{es1':List MapEntry}(he:EntR σ es1 es1') :
 Rep K σ (h.put b (.mapo es1 c1)) ({ w with heap:=w.heap.setIfInBounds i.blk (.map es1'.toArray c1)}:World):=by
 obtain⟨es',h1,h2,h3⟩:=r.map hg hi;have hlt:i.blk<w.heap.size:=(ct.1 h1).1;refine r.put hg hi rfl ⟨es1',by rw[fX hlt];simp,h2,he.1,he.2⟩ (λk hk=>by rw[fX hlt,if_neg hk]) (oa h2 r.le r.below _) (by simpa using r.le)
def uQ{σ:Sg}{b:Nat}{x:Value}(h:VR σ (.mp b) x):∃i,σ b=some i/\x=.map (some i.blk):=by simpa only[VR]using h
def tx{t:TypeId}(h:sE P t=some z)(w:World):∃z',(zeroValue t).run P w=.ok z' w/\∀σ,VR σ z z':=by
 unfold sE at h;rw[lZ]at h;obtain⟨i,h1,h2⟩:=h;rw[lZ]at h2;obtain⟨zv,h2,h3⟩:=h2;exact⟨zv,by simp[zeroValue,typeInfo,h1,h2],fun σ=>Cs h3⟩
def KN{t kt e:TypeId}(hu:P.underlying t=some (.map kt e))(hq:nV P kt=some q){ok:Bool}(hz:sE P e=some z)(hm:VR σ m m')(hk:VR σ k k')(r:Rep K σ h w)(he:oX h q ok z m k=some v) :
 Yields P K σ (do pure (.value (<-Instr.lookup t m' k' ok))) w v h:=by
 obtain⟨z',hz1,hz2⟩:=tx hz w;unfold oX at he;cases m<;>simp only[reduceCtorEq]at he
 case nilm =>
  simp only[VR]at hm;subst hm;split at he
  .rename_i hko
   simp only[aa]at he;subst he;have hch:=pO hq hk hko true w;have hf:(Instr.findKey kt k' []).run P w=.ok none w:=by
    obtain⟨r,h1,h2⟩:=iQ (x:=none) hq hk EntR.nil rfl w;simp only[FindR]at h2;subst h2;exact h1
   cases ok
   .refine Yields.same (v':=z') r ?_ (hz2 σ);simp[Instr.lookup,Sem.run_bind,run_underlying hu,hch,hf,hz1]
   .refine Yields.same (v':=.tuple #[z',.bool false]) r ?_ (by simp only[VR,VRs,if_true];exact⟨[z',.bool false],rfl,_,_,rfl,hz2 σ,_,_,rfl,rfl,rfl⟩);simp[Instr.lookup,Sem.run_bind,run_underlying hu,hch,hf,hz1]
  .cases he
 case mp b =>
  obtain⟨i,hi,rfl⟩:=uQ hm;split at he
  .rename_i es c hg
   obtain⟨es',h1,h2,h3⟩:=r.map hg hi;split at he
   .rename_i hko
    have hch:=λb=>pO hq hk hko b w;have hget:(getObj i.blk).run P w=.ok (.map es'.toArray c) w:=by simp[getObj,Sem.run,h1]
    split at he
    .rename_i j v0 n0 hf
     obtain⟨rr,f1,f2⟩:=iQ hq hk h3 hf w;obtain⟨e0,v',rfl,_,_,_,hv⟩:=f2;simp only[aa]at he;subst he;cases ok
     .refine Yields.same (v':=v') r ?_ hv;simp[Instr.lookup,Sem.run_bind,run_underlying hu,hget,hch,f1]
     .refine Yields.same (v':=.tuple #[v',.bool true]) r ?_ (by simp only[VR,VRs,if_true];exact⟨[v',.bool true],rfl,_,_,rfl,hv,_,_,rfl,rfl,rfl⟩);simp[Instr.lookup,Sem.run_bind,run_underlying hu,hget,hch,f1]
    .rename_i hf
     obtain⟨rr,f1,f2⟩:=iQ hq hk h3 hf w;simp only[FindR]at f2;subst f2;simp only[aa]at he;subst he;cases ok
     .refine Yields.same (v':=z') r ?_ (hz2 σ);simp[Instr.lookup,Sem.run_bind,run_underlying hu,hget,hch,f1,hz1]
     .refine Yields.same (v':=.tuple #[z',.bool false]) r ?_ (by simp only[VR,VRs,if_true];exact⟨[z',.bool false],rfl,_,_,rfl,hz2 σ,_,_,rfl,rfl,rfl⟩);simp[Instr.lookup,Sem.run_bind,run_underlying hu,hget,hch,f1,hz1]
    .cases he
   .cases he
  .cases he
def tq{t:TypeId}(h0:nV P t=some e){x y:AV}{y':Value}(hx:VR σ x x')(hy:VR σ y y')(he:lc e x y=some true):Instr.sameBits 10000 y' x'=true:=by
 rcases qL h0 with rfl|rfl|⟨ks,rfl⟩
 .cases x<;>cases y<;>simp only[lc,reduceCtorEq]at he;split at he
  .rename_i hkk
   simp only[VR]at hx hy;subst hx hy hkk;simp only[aa,beq_iff_eq]at he;simp[Instr.sameBits,he]
  .cases he
 .cases x<;>cases y<;>simp only[lc,reduceCtorEq]at he;simp only[VR]at hx hy;obtain⟨ba,rfl,h1⟩:=hx;obtain⟨bb,rfl,h2⟩:=hy;simp only[aa,beq_iff_eq]at he;have:ba=bb:=by
   obtain⟨⟨al⟩⟩:=ba;obtain⟨⟨bl⟩⟩:=bb;simp only at h1 h2;rw[h1,h2,he]
  subst this;have:(ba==ba)=true:=by rw[JY];simp
  simpa[Instr.sameBits]using this
 .cases x<;>cases y<;>simp only[lc,eqF,reduceCtorEq]at he;simp only[VR]at hx hy;obtain⟨vx,rfl,hx⟩:=hx;obtain⟨vy,rfl,hy⟩:=hy;have key:∀(ks:List IntKind) (xs ys:List AV) (vx vy:List Value),fV ks xs ys=some true->VRs σ xs vx->VRs σ ys vy->vy.length=vx.length/\∀p∈vy.zip vx,Instr.sameBits 9999 p.1 p.2=true:=by
   intro ks;induction ks with
   |nil =>
     intro xs ys vx vy he hx hy;cases xs<;>cases ys<;>simp only[fV,reduceCtorEq]at he;simp only[VRs]at hx hy;subst hx hy;simp
   |cons k ks ih =>
     intro xs ys vx vy he hx hy;cases xs with
     |nil=>simp[fV]at he
     |cons x xs =>
       cases ys with
       |nil=>cases x<;>simp[fV]at he
       |cons y ys =>
         cases x<;>cases y<;>simp only[fV,reduceCtorEq]at he;split at he
         .rename_i hkk
          obtain⟨e1,e2⟩:=hkk;subst e1;subst e2;split at he
          .rename_i hab
           simp only[VRs]at hx hy;obtain⟨x',xs',rfl,q1,q2⟩:=hx;obtain⟨y',ys',rfl,p1,p2⟩:=hy;simp only[VR]at q1 p1;subst q1 p1;obtain⟨i1,i2⟩:=ih xs ys xs' ys' he q2 p2;refine⟨by simp[i1],λp hp=>?_⟩;simp only[List.zip_cons_cons,aF]at hp;rcases hp with rfl|hp
           .simp only[beq_iff_eq]at hab;simp[Instr.sameBits,hab]
           .exact i2 p hp
          .cases he
         .cases he
  obtain⟨i1,i2⟩:=key ks _ _ vx vy he hx hy;unfold Instr.sameBits;simp only[ aU,beq_iff_eq,dg,i1,true_and,bK];rintro⟨p,q⟩ hp;exact i2 (p,q) hp
def sM{e:RE}{k:AV}:∀{es:List (AV×AV×Nat)}{i:Nat}{v:AV}{n:Nat},jL e k es=some (some (i,v,n))->∃k',es[i]?=some (k',v,n)/\lc e k k'=some true
 |[],_,_,_,h=>by simp[jL]at h
 |(k1,v1,n1)::es,i,v,n,h=>by
   unfold jL at h;split at h
   .rename_i hk
    simp only[aa,aq]at h;obtain⟨rfl,rfl,rfl⟩:=h;exact⟨k1,by simp,hk⟩
   .obtain⟨z,hz,hx⟩:=sL h;cases z with
    |none=>cases hx
    |some p =>
      obtain⟨j,v2,n2⟩:=p;simp only[JP,aa,aq]at hx;obtain⟨rfl,rfl,rfl⟩:=hx;obtain⟨k',a,b⟩:=sM hz;exact⟨k',by simpa using a,b⟩
   .cases h
def lE(l:List MapEntry)(i:Nat)(f:MapEntry->MapEntry)(e:MapEntry)(h:l[i]?=some e):l.toArray.modify i f=(l.set i (f e)).toArray:=by
 apply Array.ext_getElem?;intro j;rw[ij,nh,nh,cU];have hlt:=(au.1 h).1;by_cases e1:i=j
 .subst e1;rw[if_pos rfl,if_pos rfl,if_pos hlt,h];rfl
 .rw[if_neg e1,if_neg e1]
def Yields.unit{s:Sem Unit}{w':World}(r:Rep K σ h' w')(hr:s.run P w=.ok () w'):Yields P K σ (do s;pure .skip) w .un h' :=
 ⟨.skip,undef,w',σ,by simp[Sem.run_bind,hr],.inr ⟨rfl,rfl⟩,Sg.le_refl σ,VR.un,r⟩
def DF{t kt e:TypeId}(hu:P.underlying t=some (.map kt e))(hq:nV P kt=some q){x:AV}(hm:VR σ m m')(hk:VR σ k k')(hx:VR σ x x')(r:Rep K σ h w)(he:Ay h q m k x=some (v,h')) :
 Yields P K σ (do Instr.mapUpdate t m' k' x';pure .skip) w v h':=by
 unfold Ay at he;cases m<;>simp only[reduceCtorEq]at he
 rename_i b
 obtain⟨i,hi,rfl⟩:=uQ hm;split at he
 .rename_i es c hg
  obtain⟨es',h1,h2,h3⟩:=r.map hg hi;have hget:(getObj i.blk).run P w=.ok (.map es'.toArray c) w:=by simp[getObj,Sem.run,h1]
  have hset:∀o,(setObj i.blk o).run P w=.ok () { w with heap:=w.heap.setIfInBounds i.blk o}:=λo=>by simp[setObj,Sem.run,h1]
  split at he
  .rename_i hko
   have hch:=pO hq hk hko false w;split at he
   .rename_i j v0 n0 hf
    obtain⟨rr,f1,f2⟩:=iQ hq hk h3 hf w;obtain⟨e0,v',rfl,g1,g2,g3,hv⟩:=f2;simp only[aa,aq]at he;obtain⟨rfl,rfl⟩:=he;obtain⟨kk,c1,c2⟩:=sM hf;obtain⟨e1,d1,d2,d3,d4⟩:=h3.2 j kk v0 n0 c1;rw[g1]at d1;simp only[aa]at d1;subst d1;have hsb:Instr.sameBits 10000 e0.key k'=true:=by
     exact tq hq hk d2 c2
    refine Yields.unit (w':={ w with heap:=w.heap.setIfInBounds i.blk (.map (es'.set j ({ e0 with key:=k',val:=x'}:MapEntry)).toArray c)}) (r.putMap hg hi (h3.set j (e:={ e0 with key:=k',val:=x'}) hk hx g3)) ?_;have ha:es'.toArray[j]?=some e0:=by simpa using g1
    simp only[Instr.mapUpdate,Sem.run_bind,run_underlying hu,Result.andThen_ok,hget,hch,eB,f1,Instr.keyThatStays,ha,aQ,cL,hsb,if_true,Sem.run_pure,hset];rw[lE _ _ _ _ g1]
   .rename_i hf
    obtain⟨rr,f1,f2⟩:=iQ hq hk h3 hf w;simp only[FindR]at f2;subst f2;simp only[aa,aq]at he;obtain⟨rfl,rfl⟩:=he;refine Yields.unit (w':={ w with heap:=w.heap.setIfInBounds i.blk (.map (es'++[({ key:=k',val:=x',born:=c}:MapEntry)]).toArray (c+1))}) (r.putMap hg hi (h3.push (e:={ key:=k',val:=x',born:=c}) hk hx rfl)) ?_;simp only[Instr.mapUpdate,Sem.run_bind,run_underlying hu,Result.andThen_ok,hget,hch,f1,hset];simp
   .cases he
  .cases he
 .cases he
def KQ{t kt e:TypeId}(hu:P.underlying t=some (.map kt e))(hq:nV P kt=some q)(hz:sE P e=some z)(hm:VR σ m m')(hk:VR σ k k')(r:Rep K σ h w)(he:Ie h q z m k=some (v,h')) :
 Yields P K σ (do pure (.value (<-Instr.mapEntry t m' k'))) w v h':=by
 obtain⟨z',hz1,hz2⟩:=tx hz w;unfold Ie at he;cases m<;>simp only[reduceCtorEq]at he
 rename_i b
 obtain⟨i,hi,rfl⟩:=uQ hm;split at he
 .rename_i es c hg
  obtain⟨es',h1,h2,h3⟩:=r.map hg hi;have hget:(getObj i.blk).run P w=.ok (.map es'.toArray c) w:=by simp[getObj,Sem.run,h1]
  have hset:∀o,(setObj i.blk o).run P w=.ok () { w with heap:=w.heap.setIfInBounds i.blk o}:=λo=>by simp[setObj,Sem.run,h1]
  split at he
  .rename_i hko
   have hch:=pO hq hk hko false w;split at he
   .rename_i j v0 n0 hf
    obtain⟨rr,f1,f2⟩:=iQ hq hk h3 hf w;obtain⟨e0,v',rfl,g1,g2,g3,hv⟩:=f2;simp only[aa,aq]at he;obtain⟨rfl,rfl⟩:=he;obtain⟨kk,c1,c2⟩:=sM hf;obtain⟨e1,d1,d2,d3,d4⟩:=h3.2 j kk v0 n0 c1;rw[g1]at d1;simp only[aa]at d1;subst d1;have hsb:Instr.sameBits 10000 e0.key k'=true:=by
     exact tq hq hk d2 c2
    refine⟨.value (.tuple #[v',.int .i64 e0.born]),_,{ w with heap:=w.heap.setIfInBounds i.blk (.map (es'.set j ({ e0 with key:=k'}:MapEntry)).toArray c)},σ,?_,.inl rfl,Sg.le_refl σ,?_,r.putMap hg hi (h3.set j (e:={ e0 with key:=k'}) hk d3 g3)⟩
    .have ha:es'.toArray[j]?=some e0:=by simpa using g1
     simp only[Instr.mapEntry,Sem.run_bind,run_underlying hu,Result.andThen_ok,hget,hch,eB,f1,Instr.keyThatStays,ha,aQ,cL,hsb,if_true,Sem.run_pure,hset,goInt];rw[lE _ _ _ _ g1]
    .simp only[VR,VRs];exact⟨[v',.int .i64 e0.born],rfl,_,_,rfl,hv,_,_,rfl,by rw[g3],rfl⟩
   .rename_i hf
    obtain⟨rr,f1,f2⟩:=iQ hq hk h3 hf w;simp only[FindR]at f2;subst f2;simp only[aa,aq]at he;obtain⟨rfl,rfl⟩:=he;refine⟨.value (.tuple #[z',.int .i64 c]),_,{ w with heap:=w.heap.setIfInBounds i.blk (.map (es'++[({ key:=k',val:=z',born:=c}:MapEntry)]).toArray (c+1))},σ,?_,.inl rfl,Sg.le_refl σ,?_,r.putMap hg hi (h3.push (e:={ key:=k',val:=z',born:=c}) hk (hz2 σ) rfl)⟩
    .simp only[Instr.mapEntry,Sem.run_bind,run_underlying hu,Result.andThen_ok,hget,hch,f1,hz1,hset,Sem.run_pure,goInt];simp
    .simp only[VR,VRs];exact⟨[z',.int .i64 c],rfl,_,_,rfl,hz2 σ,_,_,rfl,rfl,rfl⟩
   .cases he
  .cases he
 .cases he
def wF{s:Int}:∀{es:List (AV×AV×Nat)}{es':List MapEntry}{i:Nat}{k:AV}{n:Nat},EntR σ es es'->zU s es=some (i,k,n)->es'.findIdx? (λe=>(e.born:Int)==s)=some i/\∃e,es'[i]?=some e/\VR σ k e.key/\e.born=n
 |[],_,_,_,_,_,h=>by simp[zU]at h
 |(k1,v1,n1)::es,es',i,k,n,hr,h=>by
   obtain⟨e1,r1,rfl,q1,q2,q3,q4⟩:=hr.cons_inv;unfold zU at h;split at h
   .rename_i hn
    simp only[aa,aq]at h;obtain⟨rfl,rfl,rfl⟩:=h;simp only at q3;refine⟨?_,e1,by simp,q1,q3⟩;simp[List.findIdx?_cons,q3,hn]
   .rename_i hn
    rw[aG]at h;obtain⟨⟨j,x⟩,h1,h2⟩:=h;simp only[aq]at h2;obtain⟨rfl,rfl⟩:=h2;obtain⟨a,e,b,c,d⟩:=wF q4 h1;simp only at q3;refine⟨?_,e,by simpa using b,c,d⟩;simp[List.findIdx?_cons,q3,hn,a]
def KM{t:TypeId}{s x:AV}{s':Value}(hm:VR σ m m')(hs:VR σ s s')(hx:VR σ x x')(r:Rep K σ h w)(he:HZ h m s x=some (v,h')) :
 Yields P K σ (do Instr.entryStore t m' s' x';pure .skip) w v h':=by
 unfold HZ at he;cases m<;>cases s<;>simp only[reduceCtorEq]at he
 rename_i b kk ns
 obtain⟨i,hi,rfl⟩:=uQ hm;simp only[VR]at hs;subst hs;split at he
 .rename_i es c hg
  obtain⟨es',h1,h2,h3⟩:=r.map hg hi;have hget:(getObj i.blk).run P w=.ok (.map es'.toArray c) w:=by simp[getObj,Sem.run,h1]
  have hset:∀o,(setObj i.blk o).run P w=.ok () { w with heap:=w.heap.setIfInBounds i.blk o}:=λo=>by simp[setObj,Sem.run,h1]
  split at he
  .rename_i j k0 n0 hf
   simp only[aa,aq]at he;obtain⟨rfl,rfl⟩:=he;obtain⟨a,e0,g1,g2,g3⟩:=wF h3 hf;refine Yields.unit (w':={ w with heap:=w.heap.setIfInBounds i.blk (.map (es'.set j ({ e0 with val:=x'}:MapEntry)).toArray c)}) (r.putMap hg hi (h3.set j (e:={ e0 with val:=x'}) g2 hx g3)) ?_;simp only[Instr.entryStore,Sem.run_bind,Result.andThen_ok,hget,asInt,asIntOf,Sem.run_pure,List.findIdx?_toArray,a,hset];rw[lE _ _ _ _ g1]
  .cases he
 .cases he
def KR{t kt e ty:TypeId}{ts:List TypeId}(hu:P.underlying t=some (.map kt e))(hm:VR σ m m')(r:Rep K σ h w)(he:Ig h m=some (v,h')) :
 Yields P K σ (do pure (.value (<-Builtin.clear_ (t::ts).toArray ty #[m']))) w v h':=by
 unfold Ig at he;cases m<;>simp only[reduceCtorEq]at he
 case nilm =>
  simp only[aa,aq]at he;obtain⟨rfl,rfl⟩:=he;simp only[VR]at hm;subst hm;exact Yields.same (v':=undef) r (by simp[Builtin.clear_,run_underlying hu,undef]) VR.un
 case mp b =>
  obtain⟨i,hi,rfl⟩:=uQ hm;split at he
  .rename_i es c hg
   simp only[aa,aq]at he;obtain⟨rfl,rfl⟩:=he;obtain⟨es',h1,h2,h3⟩:=r.map hg hi;have hget:(getObj i.blk).run P w=.ok (.map es'.toArray c) w:=by simp[getObj,Sem.run,h1]
   have hset:∀o,(setObj i.blk o).run P w=.ok () { w with heap:=w.heap.setIfInBounds i.blk o}:=λo=>by simp[setObj,Sem.run,h1]
   refine⟨.value undef,undef,{ w with heap:=w.heap.setIfInBounds i.blk (.map #[] c)},σ,?_,.inl rfl,Sg.le_refl σ,VR.un,by simpa using r.putMap hg hi (c1:=c) (EntR.nil (σ:=σ))⟩;simp[Builtin.clear_,run_underlying hu,hget,hset,undef,Sem.run_bind]
  .cases he
def KJ{t kt e:TypeId}(hu:P.underlying t=some (.map kt e))(hm:VR σ m m')(r:Rep K σ h w)(he:HB h m=some (v,h')) :
 Yields P K σ (do pure (.value (<-Instr.range t m'))) w v h':=by
 unfold HB at he;cases m<;>simp only[reduceCtorEq]at he
 case nilm =>
  simp only[aa,aq]at he;obtain⟨rfl,rfl⟩:=he;simp only[VR]at hm;subst hm
  refine⟨.value (.pointer (some ⟨w.heap.size,0,none⟩)),_,w.alloc (.mapIter none 0 #[] 0),_,by simp[Instr.range,run_underlying hu,Sem.run_bind],.inl rfl,Sg.le_add (i:={ blk:=w.heap.size,d:=0,esz:=0,N:=0}) r.fresh,?_,
   r.new (.mit none 0 [] 0) _ { blk:=w.heap.size,d:=0,esz:=0,N:=0} rfl ?_⟩
  .simp only[VR];exact⟨_,Sg.add_at _ _ _,rfl⟩
  .intro τ _;refine⟨none,?_,r.le,rfl,.inl ⟨rfl,rfl⟩⟩;show(w.heap.push _)[w.heap.size]?=_;simp
 case mp b =>
  obtain⟨i,hi,rfl⟩:=uQ hm;split at he
  .rename_i es c hg
   simp only[aa,aq]at he;obtain⟨rfl,rfl⟩:=he;obtain⟨es',h1,h2,h3⟩:=r.map hg hi;have hget:(getObj i.blk).run P w=.ok (.map es'.toArray c) w:=by simp[getObj,Sem.run,h1]
   refine⟨.value (.pointer (some ⟨w.heap.size,0,none⟩)),_,w.alloc (.mapIter (some i.blk) c #[] c),_,by simp[Instr.range,run_underlying hu,Sem.run_bind,hget],.inl rfl,Sg.le_add (i:={ blk:=w.heap.size,d:=0,esz:=0,N:=0}) r.fresh,?_,
    r.new (.mit (some b) c [] c) _ { blk:=w.heap.size,d:=0,esz:=0,N:=0} rfl ?_⟩
   .simp only[VR];exact⟨_,Sg.add_at _ _ _,rfl⟩
   .intro τ hτ;refine⟨some i.blk,?_,r.le,rfl,.inr ⟨b,i,rfl,hτ _ _ hi,rfl⟩⟩;show(w.heap.push _)[w.heap.size]?=_;simp
  .cases he
def EntR.all{σ:Sg}{p:Nat->Bool}:∀{es:List (AV×AV×Nat)}{es':List MapEntry},EntR σ es es'->(es'.all λe=>p e.born)=es.all λe=>p e.2.2
 |[],es',h=>by
   have:es'=[]:=by have:=h.1;simpa using this
   subst this;rfl
 |x::es,es',h=>by
   obtain⟨e1,r1,rfl,q1,q2,q3,q4⟩:=h.cons_inv;simp only[gQ,q3,EntR.all q4]
def EntR.mem{σ:Sg}(h:EntR σ es es'){e:MapEntry}(he:e∈es'):∃x,x∈es/\VR σ x.1 e.key/\VR σ x.2.1 e.val/\e.born=x.2.2:=by
 obtain⟨j,hj⟩:=List.getElem?_of_mem he;have hlt:j<es.length:=by rw[<-h.1];exact(au.1 hj).1
 obtain⟨e1,d1,d2,d3,d4⟩:=h.2 j es[j].1 es[j].2.1 es[j].2.2 (by rw[aj hlt]);rw[hj]at d1;simp only[aa]at d1;subst d1;exact⟨es[j],ar hlt,d2,d3,d4⟩
def EntR.none_old{σ:Sg}{p:Nat->Bool}(h:EntR σ es es'):(es'.filter λe=>p e.born).isEmpty=(es.filter λe=>p e.2.2).isEmpty:=by
 have h1:∀{β:Type} (l:List β) (q:β->Bool),(l.filter q).isEmpty=l.all λx=>!q x:=by
  intro β l q;induction l with
  |nil=>rfl
  |cons x l ih=>by_cases hq:q x=true<;>simp_all
 rw[h1,h1];exact h.all (p:=λn=>!p n)
def zW(hn:0<n)(w:World):∃k w',(choose (.mapNext n)).run P w=.ok k w'/\k<n/\(w'=w\/w'=w.drew):=by
 have key:(choose (.mapNext n)).run P w=if decide (n<=1)=true then .ok 0 w else .ok (w.tape w.drawn (.mapNext n)%n) w.drew:=rfl
 by_cases h1:n<=1
 .exact⟨0,w,by rw[key];simp[h1],om,.inl rfl⟩
 .exact⟨w.tape w.drawn (.mapNext n)%n,w.drew,by rw[key];simp[h1],NU _ hn,.inr rfl⟩
def KL{ty:TypeId}{x:AV}(hx:VR σ x x')(r:Rep K σ h w){as:List (AV×AH)}(he:we h x=some as) :
 ∃v h',(v,h')∈as/\Yields P K σ (do pure (.value (<-Instr.next x' false ty))) w v h':=by
 unfold we at he;split at he
 .rename_i b
  simp only[VR]at hx;obtain⟨i,hi,rfl⟩:=hx;split at he
  .rename_i s1 s2 s3 hg
   simp only[aa]at he;subst he;obtain⟨i',hi',mo,h1,h2,h0,h3⟩:=r.obj b _ hg rfl;rw[hi]at hi';simp only[aa]at hi';subst hi';rcases h3 with⟨_,rfl⟩|⟨b',j,e1,_⟩
   .refine⟨_,_,eC.2 rfl,Yields.same (v':=.tuple #[.bool false]) r ?_ (by simp only[VR,VRs];exact⟨[.bool false],rfl,_,_,rfl,rfl,rfl⟩)⟩;simp[Instr.next,h0,getObj,Sem.run,h1]
   .cases e1
  .rename_i m since seen last hg
   obtain⟨i',hi',mo,h1,h2,h0,h3⟩:=r.obj b _ hg rfl;rw[hi]at hi';simp only[aa]at hi';subst hi';rcases h3 with⟨e1,_⟩|⟨b',j,e1,hj,rfl⟩
   .cases e1
   .simp only[aa]at e1;subst e1;split at he
    .rename_i es c hm
     obtain⟨es',m1,m2,m3⟩:=r.map hm hj;split at he
     .cases he
     .rename_i hguard
      simp only[aa]at he;subst he;have hget1:∀w',w'=w\/w'=w.drew->(getObj i.blk).run P w'=.ok (.mapIter (some j.blk) since seen.toArray last) w':=by
       have hd:w.drew.heap=w.heap:=rfl;rintro w' (rfl|rfl)<;>simp[getObj,Sem.run,hd,h1]
      have hget2:(getObj j.blk).run P w=.ok (.map es'.toArray c) w:=by simp[getObj,Sem.run,m1]
      have hgd:(!seen.toArray.isEmpty&&!es'.toArray.isEmpty&&es'.toArray.all (λe=>decide (e.born>=last)))=false:=by
       have a1:seen.toArray.isEmpty=seen.isEmpty:=by simp
       have a2:es'.toArray.isEmpty=es.isEmpty:=by
        have:=m3.1;cases es<;>cases es'<;>simp_all
       have a3:es'.toArray.all (λe=>decide (e.born>=last))=es.all (λe=>decide (e.2.2>=last)):=by
        have:=m3.all (p:=λn=>decide (n>=last));simpa using this
       rw[a1,a2,a3];simpa using hguard
      let left:=es'.filter λe=>!seen.contains e.born
      let old:=left.filter λe=>decide (e.born<since)
      let new:=left.filter λe=>decide (e.born>=since)
      have hold:old.isEmpty=wQ es since seen:=by
       have hf:∀l:List MapEntry,((l.filter λe=>!seen.contains e.born).filter λe=>decide (e.born<since))=l.filter λe=>decide (e.born<since)&&!seen.contains e.born:=λl=>by rw[Dt]
       have hf2:∀l:List (AV×AV×Nat),((l.filter λe=>!seen.contains e.2.2).filter λe=>decide (e.2.2<since))=l.filter λe=>decide (e.2.2<since)&&!seen.contains e.2.2:=λl=>by rw[Dt]
       show(List.filter _ (List.filter _ _)).isEmpty=_;unfold wQ;rw[hf,hf2];exact m3.none_old (p:=λn=>decide (n<since)&&!seen.contains n)
      let cands:List (Option MapEntry):=(if old.isEmpty then [none]else [])++(old++new).map some
      have hpos:0<cands.length:=by
       show 0<((if old.isEmpty then [none]else [])++(old++new).map some).length;cases ho:old with
       |nil=>simp
       |cons y ys=>simp
      obtain⟨k,w',hk1,hk2,hk3⟩:=zW (P:=P) hpos w
      have hrun:(Instr.next (.pointer (some ⟨i.blk,i.d+0,none⟩)) false ty).run P w=(match cands[k]? with
       |some (some e)=>(do setObj i.blk (.mapIter (some j.blk) since (seen.toArray.push e.born) c);pure (.tuple #[.bool true,e.key,e.val]):Sem Value)
       |some none=>pure (.tuple #[.bool false])
       |none=>stuck "Next: no such candidate").run P w':=by
       have hc:((if (Array.filter (λe=>decide (e.born<since)) (Array.filter (λe=>!seen.toArray.contains e.born) es'.toArray)).isEmpty then #[none]else #[]) ++
        (Array.filter (λe=>decide (e.born<since)) (Array.filter (λe=>!seen.toArray.contains e.born) es'.toArray)++Array.filter (λe=>decide (e.born>=since)) (Array.filter (λe=>!seen.toArray.contains e.born) es'.toArray)).map some:Array (Option MapEntry))=cands.toArray:=by
        have e1:Array.filter (λe=>!seen.toArray.contains e.born) es'.toArray=left.toArray:=by simp[left]
        rw[e1];have e2:Array.filter (λe=>decide (e.born<since)) left.toArray=old.toArray:=by simp[old]
        have e3:Array.filter (λe=>decide (e.born>=since)) left.toArray=new.toArray:=by simp[new]
        rw[e2,e3];show _=((if old.isEmpty then [none]else [])++(old++new).map some).toArray;cases ho:old.isEmpty
        .simp_all
        .simp_all
       simp only[Instr.next,h0,eB,Sem.run_bind,hget1 w (.inl rfl),Result.andThen_ok,hget2,hgd,bT,if_false,hc];have hsz:cands.toArray.size=cands.length:=by simp
       simp only[hsz,hk1,Sem.run_bind,Result.andThen_ok,nh];cases hq:cands[k]? with
       |none=>rfl
       |some q=>cases q<;>rfl
      have hr':Rep K σ h w':=by rcases hk3 with rfl|rfl;exact r;exact r.drew
      have hlt':i.blk<w'.heap.size:=by
       have:i.blk<w.heap.size:=(ct.1 h1).1;rcases hk3 with rfl|rfl<;>exact this
      have hck:cands[k]?=some cands[k]:=aj hk2;cases hq:cands[k]with
      |none =>
        rw[hck,hq]at hrun;have hov:wQ es since seen=true:=by
         have hm:(none:Option MapEntry)∈cands:=by rw[<-hq];exact ar hk2
         have hm:(none:Option MapEntry)∈((if old.isEmpty then [none]else [])++(old++new).map some):=hm;rw[<-hold];cases ho:old.isEmpty with
         |true=>rfl
         |false=>rw[ho]at hm;simp at hm
        refine⟨.tup [.bool false],h,by rw[if_pos hov];simp,.value (.tuple #[.bool false]),.tuple #[.bool false],w',σ,?_,.inl rfl,Sg.le_refl σ,by simp only[VR,VRs];exact⟨[.bool false],rfl,_,_,rfl,rfl,rfl⟩,hr'⟩;simp only[Sem.run_bind,hrun];simp
      |some e =>
        rw[hck,hq]at hrun;have hm:(some e:Option MapEntry)∈cands:=by rw[<-hq];exact ar hk2
        have hm:(some e:Option MapEntry)∈((if old.isEmpty then [none]else [])++(old++new).map some):=hm;have hm2:e∈old++new:=by
         rw[aZ]at hm;rcases hm with hm|hm
         .split at hm<;>simp at hm
         .simpa using hm
        have hes:e∈es'/\(!seen.contains e.born)=true:=by
         rw[aZ]at hm2;rcases hm2 with q|q
         .have:=(bB.1 q).1;exact⟨(bB.1 this).1,(bB.1 this).2⟩
         .have:=(bB.1 q).1;exact⟨(bB.1 this).1,(bB.1 this).2⟩
        obtain⟨x,hxm,x1,x2,x3⟩:=m3.mem hes.1;refine⟨.tup [.bool true,x.1,x.2.1],h.put b (.mit (some m) since (seen++[x.2.2]) c),?_,.value (.tuple #[.bool true,e.key,e.val]),.tuple #[.bool true,e.key,e.val],{ w' with heap:=w'.heap.setIfInBounds i.blk (.mapIter (some j.blk) since (seen.toArray.push e.born) c)},σ,?_,.inl rfl,Sg.le_refl σ,?_,?_⟩
        .rw[aZ];refine .inr (bp.2 ⟨x,?_,rfl⟩);unfold Mu;simp only[aZ,bB,aK];rw[<-x3];have:=hes.2;rcases eW e.born since with q|q
         .exact .inl ⟨⟨hxm,this⟩,q⟩
         .exact .inr ⟨⟨hxm,this⟩,q⟩
        .have hset:(setObj i.blk (.mapIter (some j.blk) since (seen.toArray.push e.born) c)).run P w'=.ok () { w' with heap:=w'.heap.setIfInBounds i.blk (.mapIter (some j.blk) since (seen.toArray.push e.born) c)}:=by
          have:w'.heap[i.blk]?=some (.mapIter (some j.blk) since seen.toArray last):=by rcases hk3 with rfl|rfl<;>exact h1
          simp[setObj,Sem.run,this]
         simp only[Sem.run_bind,hrun,hset,Result.andThen_ok,Sem.run_pure]
        .simp only[VR,VRs];exact⟨[.bool true,e.key,e.val],rfl,_,_,rfl,rfl,_,_,rfl,x1,_,_,rfl,x2,rfl⟩
        .refine hr'.put hg hi rfl ⟨some j.blk,?_,h2,h0,.inr ⟨m,j,rfl,hj,rfl⟩⟩ (λk hk=>by rw[fX hlt',if_neg hk]) (oa h2 hr'.le hr'.below _) (by simpa using hr'.le);rw[fX hlt',if_pos rfl,x3];simp
    .cases he
  .cases he
 .cases he
end
end Go.Am
