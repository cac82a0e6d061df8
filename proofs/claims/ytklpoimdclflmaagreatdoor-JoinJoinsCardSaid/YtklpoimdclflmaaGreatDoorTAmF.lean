/- The clean machine's steps once more, each alternative closed -/
import Derived.Test.YtklpoimdclflmaaGreatDoorTAmG
import Derived.Test.YtklpoimdclflmaaGreatDoorTAmR
set_option linter.all false
namespace Go.Am
variable {P:RP}{a v:AV}{b f n:Nat}{d x:Option AV}{e:RE}{h:AH}{k:List Fr}{l:List ROper}{o:ROper}{op:BinOp}{p:List Nat}{ts:Tm}
noncomputable def getV(t:T AV)(p:List Bool):Option AV :=
 @T.rec AV (λ_=>List Bool->Option AV) (λ_=>none)
  (λ_ v _ il ir p=>@List.rec Bool (λ_=>Option AV) v (λb q _=>@Bool.rec (λ_=>Option AV) (ir q) (il q) b) p) t p
def yO:∀(t:T AV) (p:List Bool),getV t p=t.get p
 |.nil,p=>by cases p<;>rfl
 |.node l v r,[]=>rfl
 |.node l v r,true::p=>yO l p
 |.node l v r,false::p=>yO r p
noncomputable def setV(t:T AV)(p:List Bool)(x:AV):T AV :=
 @T.rec AV (λ_=>List Bool->AV->T AV) (λp x=>T.fresh x p)
  (λl v r il ir p x=>@List.rec Bool (λ_=>T AV) (.node l (some x) r) (λb q _=>@Bool.rec (λ_=>T AV) (.node l v (ir q x)) (.node (il q x) v r) b) p) t p x
def yj(x:AV):∀(t:T AV) (p:List Bool),setV t p x=t.set p x
 |.nil,p=>by cases p<;>rfl
 |.node l v r,[]=>rfl
 |.node l v r,true::p=>congrArg (λy=>T.node y v r) (yj x l p)
 |.node l v r,false::p=>congrArg (λy=>T.node l v y) (yj x r p)
noncomputable def AZ(t:T AO)(p:List Bool):Option AO :=
 @T.rec AO (λ_=>List Bool->Option AO) (λ_=>none)
  (λ_ v _ il ir p=>@List.rec Bool (λ_=>Option AO) v (λb q _=>@Bool.rec (λ_=>Option AO) (ir q) (il q) b) p) t p
def yP:∀(t:T AO) (p:List Bool),AZ t p=t.get p
 |.nil,p=>by cases p<;>rfl
 |.node l v r,[]=>rfl
 |.node l v r,true::p=>yP l p
 |.node l v r,false::p=>yP r p
noncomputable def setO(t:T AO)(p:List Bool)(x:AO):T AO :=
 @T.rec AO (λ_=>List Bool->AO->T AO) (λp x=>T.fresh x p)
  (λl v r il ir p x=>@List.rec Bool (λ_=>T AO) (.node l (some x) r) (λb q _=>@Bool.rec (λ_=>T AO) (.node l v (ir q x)) (.node (il q x) v r) b) p) t p x
def yl(x:AO):∀(t:T AO) (p:List Bool),setO t p x=t.set p x
 |.nil,p=>by cases p<;>rfl
 |.node l v r,[]=>rfl
 |.node l v r,true::p=>congrArg (λy=>T.node y v r) (yl x l p)
 |.node l v r,false::p=>congrArg (λy=>T.node l v y) (yl x r p)
noncomputable def GO(t:Tm)(n:Nat):AV:=@Option.rec AV (λ_=>AV) AV.un (λv=>v) (getV t (gC n))
def GN(t:Tm)(n:Nat):GO t n=db t n:=by
 unfold GO db;rw[yO];cases T.get t (gC n)<;>rfl
noncomputable def Bl(ts:Tm)(d:Option Nat)(v:AV):Tm:=@Option.rec Nat (λ_=>Tm->AV->Tm) (λts _=>ts) (λn ts v=>setV ts (gC n) v) d ts v
def Bk(ts:Tm)(d:Option Nat)(v:AV):Bl ts d v=dH ts d v:=by
 cases d with
 |none=>rfl
 |some n=>exact yj v ts (gC n)
noncomputable def evF(ts:Tm)(x:RO):AV:=@RO.rec (λ_=>Tm->AV) (λn ts=>GO ts n) (λv _=>v) (λg _=>.ptr g 0) (λf _=>.fn f []) x ts
def vz(ts:Tm):evF ts=RO.ev ts:=by
 funext x;cases x with
 |t n=>exact GN ts n
 |_=>rfl
noncomputable def LD(cs:List AV)(i:Nat):Option AV :=
 @List.rec AV (λ_=>Nat->Option AV) (λ_=>none) (λv _ ih i=>@Nat.rec (λ_=>Option AV) (some v) (λj _=>ih j) i) cs i
def DU:∀(cs:List AV) (i:Nat),LD cs i=cs[i]?
 |[],i=>by simp[LD]
 |v::cs,0=>rfl
 |v::cs,i+1=>by rw[cJ];exact DU cs i
noncomputable def Ez(cs:List AV)(i:Nat)(x:AV):Option (List AV) :=
 @List.rec AV (λ_=>Nat->AV->Option (List AV)) (λ_ _=>none)
  (λv r ih i x=>@Nat.rec (λ_=>Option (List AV)) (some (x::r)) (λj _=>@Option.rec (List AV) (λ_=>AV->Option (List AV)) (λ_=>none) (λr' v=>some (v::r')) (ih j x) v) i) cs i x
def Dz(x:AV):∀(cs:List AV) (i:Nat),Ez cs i x=if i<cs.length then some (cs.set i x)else none
 |[],i=>by simp[Ez]
 |v::cs,0=>by rw[if_pos (by simp)];rfl
 |v::cs,i+1=>by
   have ih:=Dz x cs i;have e:Ez (v::cs) (i+1) x=@Option.rec (List AV) (λ_=>AV->Option (List AV)) (λ_=>none) (λr' v=>some (v::r')) (Ez cs i x) v:=rfl;rw[e,ih];by_cases q:i<cs.length
   .rw[if_pos q,if_pos (by simpa using q)];rfl
   .rw[if_neg q,if_neg (by simpa using q)]
noncomputable def HS(v:AV)(f:IntKind->Int->Option AV)(d:Option AV):Option AV :=
 @AV.rec (λ_=>(IntKind->Int->Option AV)->Option AV->Option AV) (λ_=>PUnit) (λ_ _ d=>d) (λk n f _=>f k n) (λ_ _ d=>d) (λ_ _ _ d=>d) (λ_ d=>d) (λ_ _ _ _ _ d=>d) (λ_ d=>d) (λ_ _ d=>d) (λ_ d=>d)
  (λ_ _ _ _ d=>d) (λ_ _ d=>d) (λ_ d=>d) (λ_ _ _ _ d=>d) (λ_ d=>d) (λ_ _ _ d=>d) (λ_ _ _ d=>d) (λ_ d=>d) (λ_ d=>d) PUnit.unit (λ_ _ _ _=>PUnit.unit) v f d
def uM{f:IntKind->Int->Option AV}(h:∀k n,v=.int k n->f k n=d):HS v f d=d:=by
 cases v with
 |int k n=>exact h k n rfl
 |_=>rfl
noncomputable def MY(v:AV)(f:Nat->Nat->Option (AV×AH))(d:Option (AV×AH)):Option (AV×AH) :=
 @AV.rec (λ_=>(Nat->Nat->Option (AV×AH))->Option (AV×AH)->Option (AV×AH)) (λ_=>PUnit) (λ_ _ d=>d) (λ_ _ _ d=>d) (λ_ _ d=>d) (λb o f _=>f b o) (λ_ d=>d) (λ_ _ _ _ _ d=>d) (λ_ d=>d) (λ_ _ d=>d) (λ_ d=>d)
  (λ_ _ _ _ d=>d) (λ_ _ d=>d) (λ_ d=>d) (λ_ _ _ _ d=>d) (λ_ d=>d) (λ_ _ _ d=>d) (λ_ _ _ d=>d) (λ_ d=>d) (λ_ d=>d) PUnit.unit (λ_ _ _ _=>PUnit.unit) v f d
noncomputable def DQ(ao:AO)(f:List AV->Nat->Bool->Option (AV×AH))(d:Option (AV×AH)):Option (AV×AH) :=
 @AO.rec (λ_=>(List AV->Nat->Bool->Option (AV×AH))->Option (AV×AH)->Option (AV×AH)) (λcs e ro f _=>f cs e ro) (λ_ d=>d) (λ_ d=>d) (λ_ _ _ d=>d) (λ_ _ _ d=>d) (λ_ _ _ _ _ d=>d) (λ_ _ _ _ _ _ _ d=>d) (λ_ d=>d) ao f d
noncomputable def ikN(k:IntKind):Nat:=@IntKind.rec (λ_=>Nat) 0 1 2 3 4 5 6 7 k
def Eb{k k':IntKind}(h:Nat.beq (ikN k) (ikN k')=true):k=k':=by
 have:=jV h;cases k<;>cases k'<;>first|rfl|(exact absurd this (by decide))
noncomputable def natB(n:Int)(f:Nat->Option AV)(d:Option AV):Option AV:=@Int.rec (λ_=>(Nat->Option AV)->Option AV->Option AV) (λn f _=>f n) (λ_ _ d=>d) n f d
def wY{n:Int}{f:Nat->Option AV}(h:∀m:Nat,n=(m:Nat)->f m=d):natB n f d=d:=by
 cases n with
 |ofNat m=>exact h m rfl
 |negSucc m=>rfl
noncomputable def bR(b:Bool)(x y:Option AV):Option AV:=@Bool.rec (λ_=>Option AV) y x b
def pQ{b:Bool}{y:Option AV}(h:b=true->x=y):bR b x y=y:=by
 cases b with
 |false=>rfl
 |true=>exact h rfl
noncomputable def MZ(op:BinOp)(k:IntKind)(m n:Nat)(d:Option AV):Option AV :=
 @BinOp.rec (λ_=>IntKind->Nat->Nat->Option AV->Option AV)
  (λk m n d=>bR (Nat.beq (ikN k) 3) (bR (Nat.blt (m+n) 9223372036854775808) (some (.int .i64 (Int.ofNat (m+n)))) d) d)
  (λk m n d=>bR (Nat.beq (ikN k) 3) (bR (Nat.ble n m) (bR (Nat.blt m 9223372036854775808) (some (.int .i64 (Int.ofNat (m-n)))) d) d) d)
  (λ_ _ _ d=>d) (λ_ _ _ d=>d) (λ_ _ _ d=>d) (λ_ _ _ d=>d) (λ_ _ _ d=>d) (λ_ _ _ d=>d) (λ_ _ _ d=>d) (λ_ _ _ d=>d) (λ_ _ _ d=>d)
  (λ_ m n _=>some (.bool (Nat.beq m n))) (λ_ m n _=>some (.bool (!Nat.beq m n))) (λ_ m n _=>some (.bool (Nat.blt m n))) (λ_ m n _=>some (.bool (Nat.ble m n))) (λ_ m n _=>some (.bool (Nat.blt n m))) (λ_ m n _=>some (.bool (Nat.ble n m))) op k m n d
def ik3{k:IntKind}(h:Nat.beq (ikN k) 3=true):k=.i64:=Eb (k':=.i64) h
def Dw{n:Int}(h0:0<=n)(h1:n<9223372036854775808):IntKind.i64.wrap n=n:=by
 unfold IntKind.wrap;have e:(2^IntKind.i64.bits:Int)=18446744073709551616:=by decide
 have e2:(2^(IntKind.i64.bits-1):Int)=9223372036854775808:=by decide
 rw[e,e2,Int.emod_eq_of_lt h0 om];simp only[IntKind.signed,oB,ge_iff_le,aK];rw[if_neg om]
def HU{k:IntKind}{m n:Nat}:MZ op k m n (fq op e (.int k (m:Nat)) (.int k (n:Nat)))=fq op e (.int k (m:Nat)) (.int k (n:Nat)):=by
 cases op with
 |add =>
   refine pQ λh=>pQ λh2=>?_;cases ik3 h;have h2:m+n<9223372036854775808:=du (oj _) (ng h2);simp only[fq,fL,reduceCtorEq,or_self,if_false,if_true];rw[Dw om om];rfl
 |sub =>
   refine pQ λh=>pQ λh2=>pQ λh3=>?_;cases ik3 h;have h2:n<=m:=ng h2;have h3:m<9223372036854775808:=du (oj _) (ng h3);simp only[fq,fL,reduceCtorEq,or_self,if_false,if_true];rw[Dw om om];rw[<-Int.ofNat_sub h2];rfl
 |eql =>
   show some (AV.bool (Nat.beq m n))=_;simp only[fq,fL,reduceCtorEq,or_self,if_false,if_true];congr 2;rw[dM,Nat.beq_eq];simp only[beq_iff_eq];omega
 |neq =>
   show some (AV.bool (!Nat.beq m n))=_;simp only[fq,fL,reduceCtorEq,or_self,if_false,if_true];congr 2;rw[dM,dZ,<-ow,Nat.beq_eq];simp only[bne_iff_ne];omega
 |lss =>
   show some (AV.bool (Nat.blt m n))=_;simp only[fq,fL,reduceCtorEq,or_self,if_false,if_true];congr 2;rw[dM,NV];simp only[aK];omega
 |leq =>
   show some (AV.bool (Nat.ble m n))=_;simp only[fq,fL,reduceCtorEq,or_self,if_false,if_true];congr 2;rw[dM,Nat.ble_eq];simp only[aK];omega
 |gtr =>
   show some (AV.bool (Nat.blt n m))=_;simp only[fq,fL,reduceCtorEq,or_self,if_false,if_true];congr 2;rw[dM,NV];simp only[aK,gt_iff_lt];omega
 |geq =>
   show some (AV.bool (Nat.ble n m))=_;simp only[fq,fL,reduceCtorEq,or_self,if_false,if_true];congr 2;rw[dM,Nat.ble_eq];simp only[aK,ge_iff_le];omega
 |_=>rfl
noncomputable def binF(op:BinOp)(e:RE)(x y:AV):Option AV :=
 HS x (λk a=>HS y (λk' b=>bR (Nat.beq (ikN k) (ikN k')) (natB a (λm=>natB b (λn=>MZ op k m n (fq op e x y)) (fq op e x y)) (fq op e x y)) (fq op e x y)) (fq op e x y)) (fq op e x y)
def MR{x y:AV}:binF op e x y=fq op e x y:=by
 unfold binF;refine uM λk a ha=>uM λk' b hb=>pQ λhk=>wY λm hm=>wY λn hn=>?_;have:=Eb hk;subst this hm hn ha hb;exact HU
noncomputable def hR(b:Bool)(x y:Option (AV×AH)):Option (AV×AH):=@Bool.rec (λ_=>Option (AV×AH)) y x b
def yM{b:Bool}{x y:Option (AV×AH)}(h:b=true->x=y):hR b x y=y:=by
 cases b with
 |false=>rfl
 |true=>exact h rfl
noncomputable def Ik(h:AH)(a:AV):Option (AV×AH) :=
 MY a (λb o=>hR (Nat.blt b h.next) (@Option.rec AO (λ_=>Nat->AH->Option (AV×AH)) (λ_ _=>none) (λao o h=>DQ ao (λcs _ _=>@Option.rec AV (λ_=>AH->Option (AV×AH)) (λ_=>none) (λv h=>some (v,h)) (LD cs o) h) none) (AZ h.t (gC b)) o h) none) none
def rd1{o:Nat}:ai h b o 1=match h.get b with
 |some (.cells cs _ _)=>(cs[o]?).map λv=>[v]
 |_=>none:=by
 unfold ai;cases h.get b with
 |none=>rfl
 |some ao =>
   cases ao with
   |cells cs e ro =>
     simp only;by_cases q:o+1<=cs.length
     .rw[if_pos q,cj om,aj om];rfl
     .rw[if_neg q,bJ om];rfl
   |_=>rfl
def Jd:h.get b=if Nat.blt b h.next then AZ h.t (gC b)else none:=by
 unfold AH.get;rw[yP];by_cases q:b<h.next
 .rw[if_pos q,if_pos (by rw[NV];exact q)]
 .rw[if_neg q,if_neg (by rw[NV];exact q)]
def Ij:Ik h a=qf h false 1 a:=by
 unfold Ik qf;cases a with
 |ptr b o =>
   show hR _ _ _=_;simp only;rw[rd1,Jd];cases Nat.blt b h.next with
   |false=>rfl
   |true =>
     simp only[if_true];show @Option.rec AO (λ_=>Nat->AH->Option (AV×AH)) _ _ (AZ h.t (gC b)) o h=_;cases AZ h.t (gC b)with
     |none=>rfl
     |some ao =>
       cases ao with
       |cells cs e ro =>
         show @Option.rec AV (λ_=>AH->Option (AV×AH)) _ _ (LD cs o) h=_;rw[DU];simp only;cases cs[o]?<;>rfl
       |_=>rfl
 |_=>rfl
noncomputable def oneC(v:AV):Bool :=
 @AV.rec (λ_=>Bool) (λ_=>PUnit) (λ_=>true) (λ_ _=>true) (λ_=>true) (λ_ _=>true) true (λ_ _ _ _=>true) true (λ_=>true) true
  (λ_ _ _=>true) (λ_=>true) true (λ_ _ _=>true) true (λ_ _=>false) (λ_ _=>false) true true PUnit.unit (λ_ _ _ _=>PUnit.unit) v
def Fx(h:oneC v=true):v.cells=[v]/\v.one=true:=by
 cases v<;>first|exact⟨rfl,rfl⟩|(cases h)
noncomputable def BU(h:AH)(a v:AV):Option (AV×AH) :=
 MY a (λb o=>hR (oneC v) (hR (Nat.blt b h.next) (@Option.rec AO (λ_=>Nat->Nat->AV->AH->Option (AV×AH)) (λ_ _ _ _=>none) (λao b o v h=>DQ ao (λcs e ro=>@Bool.rec (λ_=>Option (AV×AH))
  (@Option.rec (List AV) (λ_=>Nat->Nat->AH->Option (AV×AH)) (λ_ _ _=>none) (λcs' e b h=>some (.un,⟨h.next,setO h.t (gC b) (.cells cs' e false),h.ty⟩)) (Ez cs o v) e b h) none ro) none) (AZ h.t (gC b)) b o v h) none) (my h 1 a v)) none
def ED:BU h a v=my h 1 a v:=by
 unfold BU;cases a with
 |ptr b o =>
   show hR (oneC v) _ _=_;refine yM λh1=>?_;obtain⟨h2,h3⟩:=Fx h1;simp only[my,h2,bd,bm,gQ,vW,h3,Bool.and_true,bN,and_self,if_true];unfold bP;rw[Jd];cases Nat.blt b h.next with
   |false=>rfl
   |true =>
     simp only[if_true];show @Option.rec AO (λ_=>Nat->Nat->AV->AH->Option (AV×AH)) _ _ (AZ h.t (gC b)) b o v h=_;cases AZ h.t (gC b)with
     |none=>rfl
     |some ao =>
       cases ao with
       |cells cs e ro =>
         cases ro with
         |true=>rfl
         |false =>
           show @Option.rec (List AV) (λ_=>Nat->Nat->AH->Option (AV×AH)) _ _ (Ez cs o v) e b h=_;rw[Dz];simp only[bd,bm,bN];by_cases q:o<cs.length
           .rw[if_pos q,if_pos om,ut q];show some _=some _;rw[yl];rfl
           .rw[if_neg q,if_neg om];rfl
       |_=>rfl
 |_=>rfl
noncomputable def Ii(ag:Bool)(n:Nat)(h:AH)(a:AV):Option (AV×AH) :=
 @Bool.rec (λ_=>Nat->AH->AV->Option (AV×AH)) (λn h a=>hR (Nat.beq n 1) (Ik h a) (qf h false n a)) (λn h a=>qf h true n a) ag n h a
def Ih{ag:Bool}:Ii ag n h a=qf h ag n a:=by
 cases ag with
 |true=>rfl
 |false =>
   refine yM λq=>?_;have:=jV q;subst this;exact Ij
noncomputable def BR(n:Nat)(h:AH)(a v:AV):Option (AV×AH):=hR (Nat.beq n 1) (BU h a v) (my h n a v)
def EC:BR n h a v=my h n a v:=by
 refine yM λq=>?_;have:=jV q;subst this;exact ED
noncomputable def wH(x:Option AV)(h:AH):Option (AV×AH):=@Option.rec AV (λ_=>AH->Option (AV×AH)) (λ_=>none) (λv h=>some (v,h)) x h
def MV:wH x h=x.map (·,h):=by cases x<;>rfl
noncomputable def opF(op:ROp)(ts:Tm)(h:AH):Option (AV×AH) :=
 @ROp.rec (λ_=>Tm->AH->Option (AV×AH))
  (λx ts h=>some (evF ts x,h))
  (λc a b ts h=>wH (Ar (evF ts c) (evF ts a) (evF ts b)) h)
  (λz e _ h=>some (.ptr h.next 0,h.new (.cells z e false)))
  (λe n x ts h=>Gy h e n (evF ts x))
  (λz ps ts h=>(fill (RO.ev ts) z ps).map λcs=>(.agg cs,h))
  (λz e n ps ts h=>(fill (RO.ev ts) (cq z n) ps).map λcs=>(.sl h.next 0 n n,h.new (.cells cs e false)))
  (λag n a ts h=>Ii ag n h (evF ts a))
  (λn a v ts h=>BR n h (evF ts a) (evF ts v))
  (λx ts h=>wH (uP (evF ts x)) h)
  (λop e x y ts h=>wH (binF op e (evF ts x) (evF ts y)) h)
  (λop x ts h=>wH (unA op (evF ts x)) h)
  (λk x ts h=>wH (Jv k (evF ts x)) h)
  (λx ts h=>wH (vJ h (evF ts x)) h)
  (λx ts h=>Bq h (evF ts x))
  (λx ts h=>wH (Bp h (evF ts x)) h)
  (λt x ts h=>some (.ifc t (evF ts x),h))
  (λf cs ts h=>some (.fn f (cs.map (RO.ev ts)),h))
  (λz e bytes l c ts h=>wg h z e bytes (evF ts l) (evF ts c))
  (λx lo hi ts h=>wH (GZ (RO.ev ts) (evF ts x) lo hi) h)
  (λe x lo hi mx ts h=>wH (BW (RO.ev ts) h e (evF ts x) lo hi mx) h)
  (λn e x lo hi mx ts h=>wH (Ha (RO.ev ts) n e (evF ts x) lo hi mx) h)
  (λoff x ts h=>wH (Bd off (evF ts x)) h)
  (λag off n x ts h=>wH (FQ ag off n (evF ts x)) h)
  (λe x i ts h=>wH (jZ e (evF ts x) (evF ts i)) h)
  (λn e x i ts h=>wH (Ed n e (evF ts x) (evF ts i)) h)
  (λx i ts h=>wH (xt (evF ts x) (evF ts i)) h)
  (λag n e x i ts h=>wH (Ec ag n e (evF ts x) (evF ts i)) h)
  (λx i ts h=>wH (Jj (evF ts x) i) h)
  (λx ts h=>wH (fP (evF ts x)) h)
  (λx ts h=>wH (AE (evF ts x)) h)
  (λx ts h=>wH (Gt (evF ts x)) h)
  (λxs ts h=>wH (lR mxA (xs.map (RO.ev ts))) h)
  (λxs ts h=>wH (lR mnA (xs.map (RO.ev ts))) h)
  (λe bytes s x ts h=>gh h e bytes (evF ts s) (evF ts x))
  (λe d s ts h=>JA h e (evF ts d) (evF ts s))
  (λ_ _ _ _=>none)
  (λ_ _ _ _=>none)
  (λ_ h=>some (.mp h.next,h.new (.mapo [] 0)))
  (λx ts h=>wH (AF h (evF ts x)) h)
  (λe ok z m k ts h=>wH (oX h e ok z (evF ts m) (evF ts k)) h)
  (λe m k v ts h=>Ay h e (evF ts m) (evF ts k) (evF ts v))
  (λe z m k ts h=>Ie h e z (evF ts m) (evF ts k))
  (λm s v ts h=>HZ h (evF ts m) (evF ts s) (evF ts v))
  (λm ts h=>Ig h (evF ts m))
  (λm ts h=>HB h (evF ts m))
  (λ_ _ _=>none)
  (λit ts h=>wH (FX h (evF ts it)) h)
  (λ_ _=>none)
  (λz e t _ h=>some (.ptr h.next 0,h.newT (.cells z e false) t))
  (λz x ts h=>Cb h z (evF ts x))
  (λz b s n ts h=>zj h z b (evF ts s) (evF ts n))
  (λt s x ts h=>Es h t (evF ts s) (evF ts x))
  (λt n ts h=>Ib h t (evF ts n))
  (λx ts h=>wH (Gd h (evF ts x)) h)
  (λt n x ts h=>wH (Ge h t n (evF ts x)) h)
  (λx ts h=>wH (DG (evF ts x)) h)
  (λt x n ts h=>zI h t (evF ts x) (evF ts n)) op ts h
def Ny{op:ROp}:opF op ts h=aL (RO.ev ts) h op:=by
 cases op<;>first
  |(show wH _ _=_;rw[MV,vz];first | rfl | (rw[MR];rfl))
  |(show wH _ _=_;rw[MV];rfl)
  |(show Ii _ _ _ _=_;rw[Ih,vz];rfl)
  |(show BR _ _ _ _=_;rw[EC,vz];rfl)
  |rfl
  |(unfold opF;simp only[vz];rfl)
noncomputable def kR(b:Bool)(x y:Option KS):Option KS:=@Bool.rec (λ_=>Option KS) y x b
noncomputable def FT(o:ROper)(b:Nat)(l:List ROper)(f:Nat)(p:List Nat)(n:Nat)(ts':Tm)(h':AH)(k:List Fr):Option KS :=
 @List.rec (Nat×ROp×Option (Nat×Bool)) (λ_=>Option KS) (some ⟨.ops b l f p (n+1) ts' h',k⟩) (λ_ _ _=>kR (gZ ts' h' o.cs) (some ⟨.ops b l f p (n+1) ts' h',k⟩) none) o.cs
def Eh{ts':Tm}{h':AH}:FT o b l f p n ts' h' k=if gZ ts' h' o.cs=true then some ⟨.ops b l f p (n+1) ts' h',k⟩else none:=by
 unfold FT;cases hc:o.cs with
 |nil=>simp only[Bu,if_true]
 |cons c r =>
   show kR (gZ ts' h' (c::r)) _ _=_;cases gZ ts' h' (c::r)<;>rfl
noncomputable def kev(o:ROper)(b:Nat)(l:List ROper)(f:Nat)(p:List Nat)(n:Nat)(ts:Tm)(h:AH)(k:List Fr):Option KS :=
 @Option.rec (AV×AH) (λ_=>ROper->Nat->List ROper->Nat->List Nat->Nat->Tm->List Fr->Option KS) (λ_ _ _ _ _ _ _ _=>none)
  (λr o b l f p n ts k=>FT o b l f p n (Bl ts o.dst r.1) r.2 k)
  (@Option.rec Nat (λ_=>ROper->Nat->Tm->AH->Option (AV×AH)) (λo _ ts h=>opF o.op ts h) (λj o b ts h=>iV (RO.ev ts) h (b+j) o.op) o.nm o b ts h) o b l f p n ts k
def NI:
 kev o b l f p n ts h k=match evN b (RO.ev ts) h o with
  |some (v,h')=>if gZ (dH ts o.dst v) h' o.cs=true then some ⟨.ops b l f p (n+1) (dH ts o.dst v) h',k⟩else none
  |none=>none:=by
 have e:(@Option.rec Nat (λ_=>ROper->Nat->Tm->AH->Option (AV×AH)) (λo _ ts h=>opF o.op ts h) (λj o b ts h=>iV (RO.ev ts) h (b+j) o.op) o.nm o b ts h)=evN b (RO.ev ts) h o:=by
  unfold evN;cases o.nm with
  |none=>exact Ny
  |some j=>rfl
 unfold kev;rw[e];cases evN b (RO.ev ts) h o with
 |none=>rfl
 |some r =>
   show FT o b l f p n (Bl ts o.dst r.1) r.2 k=_;rw[Eh,Bk]
noncomputable def kcv(x:RO)(args:List RO)(o:ROper)(b:Nat)(l:List ROper)(f:Nat)(p:List Nat)(n:Nat)(ts:Tm)(h:AH)(k:List Fr):Option KS :=
 match RO.ev ts x with
 |.fn g caps=>some ⟨.call g (args.map (RO.ev ts)++caps) h,.opsK b o l f p n ts::k⟩
 |.yld c=>some ⟨.round c (args.map (RO.ev ts)) h,.opsK b o l f p n ts::k⟩
 |_=>none
noncomputable def doF(op:ROp)(o:ROper)(b:Nat)(l:List ROper)(f:Nat)(p:List Nat)(n:Nat)(ts:Tm)(h:AH)(k:List Fr):Option KS :=
 @ROp.rec (λ_=>ROper->Nat->List ROper->Nat->List Nat->Nat->Tm->AH->List Fr->Option KS)
  (λ_=>kev) (λ_ _ _=>kev) (λ_ _=>kev) (λ_ _ _=>kev) (λ_ _=>kev) (λ_ _ _ _=>kev) (λ_ _ _=>kev) (λ_ _ _=>kev) (λ_=>kev) (λ_ _ _ _=>kev) (λ_ _=>kev) (λ_ _=>kev) (λ_=>kev) (λ_=>kev) (λ_=>kev) (λ_ _=>kev) (λ_ _=>kev) (λ_ _ _ _ _=>kev) (λ_ _ _=>kev) (λ_ _ _ _ _=>kev) (λ_ _ _ _ _ _=>kev) (λ_ _=>kev) (λ_ _ _ _=>kev) (λ_ _ _=>kev) (λ_ _ _ _=>kev) (λ_ _=>kev) (λ_ _ _ _ _=>kev) (λ_ _=>kev) (λ_=>kev) (λ_=>kev) (λ_=>kev) (λ_=>kev) (λ_=>kev) (λ_ _ _ _=>kev) (λ_ _ _=>kev)
  (λg args o b l f p n ts h k=>some ⟨.call g (args.map (RO.ev ts)) h,.opsK b o l f p n ts::k⟩) kcv
  kev (λ_=>kev) (λ_ _ _ _ _=>kev) (λ_ _ _ _=>kev) (λ_ _ _ _=>kev) (λ_ _ _=>kev) (λ_=>kev) (λ_=>kev) (λ_=>kev) (λ_=>kev) kev (λ_ _ _=>kev) (λ_ _=>kev) (λ_ _ _ _=>kev) (λ_ _ _=>kev) (λ_ _=>kev) (λ_=>kev) (λ_ _ _=>kev) (λ_=>kev) (λ_ _ _=>kev) op o b l f p n ts h k
noncomputable def wR(x:Option Bool)(a b:Option KS):Option KS:=@Option.rec Bool (λ_=>Option KS->Option KS->Option KS) (λ_ _=>none) (λt a b=>@Bool.rec (λ_=>Option KS) b a t) x a b
noncomputable def Iw(b:Nat)(o:ROper)(l:List ROper)(f:Nat)(p:List Nat)(n:Nat)(ts:Tm)(h:AH)(k:List Fr):Option KS :=
 @Option.rec (Nat×Bool) (λ_=>ROper->Nat->List ROper->Nat->List Nat->Nat->Tm->AH->List Fr->Option KS) (λo=>doF o.op o)
  (λ_ o b l f p n ts h k=>wR (wanted ts o.guard) (doF o.op o b l f p n ts h k) (some ⟨.ops b l f p (n+1) (dH ts o.dst .un) h,k⟩)) o.guard o b l f p n ts h k
def NN:doF o.op o b l f p n ts h k=match o.op with
 |.call g args=>some ⟨.call g (args.map (RO.ev ts)) h,.opsK b o l f p n ts::k⟩
 |.callv x args=>match RO.ev ts x with
   |.fn g caps=>some ⟨.call g (args.map (RO.ev ts)++caps) h,.opsK b o l f p n ts::k⟩
   |.yld c=>some ⟨.round c (args.map (RO.ev ts)) h,.opsK b o l f p n ts::k⟩
   |_=>none
 |_=>match evN b (RO.ev ts) h o with
   |some (v,h')=>if gZ (dH ts o.dst v) h' o.cs=true then some ⟨.ops b l f p (n+1) (dH ts o.dst v) h',k⟩else none
   |none=>none:=by
 generalize hop:o.op=op
 cases op<;>first
  |exact NI
  |rfl
  |(show kcv _ _ _ _ _ _ _ _ _ _ _=_;unfold kcv;rfl)
def Iv:Iw b o l f p n ts h k=Ix b o l f p n ts h k:=by
 have d:=NN (b:=b) (o:=o) (l:=l) (f:=f) (p:=p) (n:=n) (ts:=ts) (h:=h) (k:=k);unfold Iw Ix;cases hg:o.guard with
 |none =>
   show doF o.op o b l f p n ts h k=_;rw[d];rfl
 |some g =>
   show wR (wanted ts o.guard) _ _=_;rw[hg];cases wanted ts (some g)with
   |none=>rfl
   |some t =>
     cases t with
     |false=>rfl
     |true=>exact d
noncomputable def cR(v:AV)(a b:Option KS):Option KS :=
 @AV.rec (λ_=>Option KS->Option KS->Option KS) (λ_=>PUnit) (λt a b=>@Bool.rec (λ_=>Option KS) b a t) (λ_ _ _ _=>none) (λ_ _ _=>none) (λ_ _ _ _=>none) (λ_ _=>none) (λ_ _ _ _ _ _=>none) (λ_ _=>none) (λ_ _ _=>none) (λ_ _=>none)
  (λ_ _ _ _ _=>none) (λ_ _ _=>none) (λ_ _=>none) (λ_ _ _ _ _=>none) (λ_ _=>none) (λ_ _ _ _=>none) (λ_ _ _ _=>none) (λ_ _=>none) (λ_ _=>none) PUnit.unit (λ_ _ _ _=>PUnit.unit) v a b
def cR_eq{a b:Option KS}:cR v a b=match v with
 |.bool true=>a
 |.bool false=>b
 |_=>none:=by
 cases v with
 |bool t=>cases t<;>rfl
 |_=>rfl
noncomputable def Iy(c:RC)(f:Nat)(p:List Nat)(ts:Tm)(h:AH)(k:List Fr):Option KS :=
 @RC.rec (λ_=>Nat->List Nat->Tm->AH->List Fr->Option KS)
  (λ_ _ ts h k=>some ⟨.out (.norm ts h),k⟩)
  (λops f p ts h k=>some ⟨.ops h.next ops f p 0 ts h,k⟩)
  (λ_ _ _ _ _ _ _ _=>none)
  (λkn ops f p ts h k=>some ⟨.ops h.next ops f p 0 ts (h.keep kn),k⟩)
  (λa b _ _ f p ts h k=>some ⟨.code a f (0::p) ts h,.seqK b f (1::p)::k⟩)
  (λc a b _ _ f p ts h k=>cR (evF ts c) (some ⟨.code a f (0::p) ts h,k⟩) (some ⟨.code b f (1::p) ts h,k⟩))
  (λid c _ f p ts h k=>some ⟨.code c f (0::p) ts h,.blockK id::k⟩)
  (λc _ f p ts h k=>some ⟨.code c f (0::p) ts h,.loopK c f (0::p)::k⟩)
  (λfn q x ps a b _ _ f p ts h k=>AM (.rangeF fn q x ps a b) f p ts h k)
  (λid _ _ ts h k=>some ⟨.out (.exit id ts h),k⟩)
  (λ_ _ ts h k=>some ⟨.out (.ret ts h),k⟩)
  (λ_ _ _ _ _=>none) c f p ts h k
def FI{c:RC}:Iy c f p ts h k=AM c f p ts h k:=by
 cases c with
 |cond c a b =>
   show cR (evF ts c) _ _=_;rw[cR_eq,vz];rfl
 |_=>rfl
noncomputable def HQ(o:Out)(nm:Tm->AH->Option KS)(ex:Nat->Tm->AH->Option KS)(rt:Tm->AH->Option KS):Option KS :=
 @Out.rec (λ_=>(Tm->AH->Option KS)->(Nat->Tm->AH->Option KS)->(Tm->AH->Option KS)->Option KS) (λts h nm _ _=>nm ts h) (λi ts h _ ex _=>ex i ts h) (λts h _ _ rt=>rt ts h) (λ_ _ _ _ _=>none) o nm ex rt
noncomputable def ND(o:Out)(f:AV->AH->Option KS):Option KS :=
 @Out.rec (λ_=>(AV->AH->Option KS)->Option KS) (λ_ _ _=>none) (λ_ _ _ _=>none) (λ_ _ _=>none) (λv h f=>f v h) o f
noncomputable def Nc(P:RP)(fr:Fr)(o:Out)(k:List Fr):Option KS :=
 @Fr.rec (λ_=>RP->Out->List Fr->Option KS)
  (λb f p _ o k=>HQ o (λts h=>some ⟨.code b f p ts h,k⟩) (λi ts h=>some ⟨.out (.exit i ts h),k⟩) (λts h=>some ⟨.out (.ret ts h),k⟩))
  (λc f p _ o k=>HQ o (λts h=>some ⟨.code c f p ts h,.loopK c f p::k⟩) (λi ts h=>some ⟨.out (.exit i ts h),k⟩) (λts h=>some ⟨.out (.ret ts h),k⟩))
  (λid _ o k=>some ⟨.out (o.unblock id),k⟩)
  (λf P o k=>qB P (.callK f) o k)
  (λb q l f p n ts _ o k=>ND o λv h=>FT q b l f p n (Bl ts q.dst v) h k)
  (λl ts P o k=>qB P (.rngK l ts) o k)
  (λb body f p P o k=>qB P (.asgK b body f p) o k)
  (λb P o k=>qB P (.rndK b) o k) fr P o k
def Iu{fr:Fr}{o:Out}:Nc P fr o k=qB P fr o k:=by
 cases fr with
 |seqK=>cases o<;>rfl
 |loopK=>cases o<;>rfl
 |opsK b q l f p n ts =>
   cases o with
   |val v h =>
     show FT q b l f p n (Bl ts q.dst v) h k=_;rw[Eh,Bk];rfl
   |_=>rfl
 |_=>rfl
noncomputable def Cw(P:RP)(S:KS):Option KS :=
 @Foc.rec (λ_=>RP->List Fr->Option KS)
  (λb l f p n ts h _ k=>@List.rec ROper (λ_=>Nat->Nat->List Nat->Nat->Tm->AH->List Fr->Option KS) (λ_ _ _ _ ts h k=>some ⟨.out (.norm ts h),k⟩) (λo l _ b f p n ts h k=>Iw b o l f p n ts h k) l b f p n ts h k)
  (λc f p ts h _ k=>Iy c f p ts h k)
  (λf args h P k=>@Option.rec RF (λ_=>Nat->List AV->AH->List Fr->Option KS) (λ_ _ _ _=>none) (λrf f args h k=>some ⟨.code rf.body f [] (bV 0 args) h,.callK f::k⟩) (P f) f args h k)
  (λb args h P k=>yI P b args h k)
  (λo P k=>@List.rec Fr (λ_=>RP->Out->Option KS) (λ_ _=>none) (λfr k _ P o=>Nc P fr o k) k P o) S.f P S.k
def FG{S:KS}:Cw P S=tF P S:=by
 obtain⟨f,k⟩:=S;cases f with
 |ops b l f p n ts h =>
   cases l with
   |nil=>rfl
   |cons o l=>exact Iv
 |code c f p ts h=>exact FI
 |call f args h =>
   show @Option.rec RF (λ_=>Nat->List AV->AH->List Fr->Option KS) _ _ (P f) f args h k=_;simp only[tF];cases P f<;>rfl
 |round=>rfl
 |out o =>
   cases k with
   |nil=>rfl
   |cons fr k=>exact Iu
noncomputable def Cx(P:RP)(n:Nat)(S:KS):Option KS :=
 @Nat.rec (λ_=>KS->Option KS) (λS=>some S) (λ_ ih S=>@Option.rec KS (λ_=>(KS->Option KS)->Option KS) (λ_=>none) (λS' ih=>ih S') (Cw P S) ih) n S
def xj{P:RP}:∀(n:Nat) (S:KS),Cx P n S=uZ P n S
 |0,_=>rfl
 |n+1,S=>by
   show @Option.rec KS (λ_=>(KS->Option KS)->Option KS) (λ_=>none) (λS' ih=>ih S') (Cw P S) (Cx P n)=_;rw[FG];simp only[uZ];cases tF P S with
   |none=>rfl
   |some S'=>exact xj n S'
noncomputable def yE(P:RP)(n:Nat)(a:PS):Bool :=
 match Cx P n (a.load P)with
 |some S=>match S.f,S.k with
   |.out (.val (.bool true) _),[]=>true
   |_,_=>false
 |none=>false
def yD{a:PS}(hl:yE P n a=true):kb P (a.load P):=by
 unfold yE at hl;rw[xj]at hl;exact yF hl
end Go.Am
