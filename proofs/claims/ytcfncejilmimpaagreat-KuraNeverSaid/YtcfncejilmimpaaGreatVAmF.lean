/- The clean machine's steps once more, each alternative closed -/
import Derived.Test.YtcfncejilmimpaaGreatVAmG
import Derived.Test.YtcfncejilmimpaaGreatVAmR
set_option linter.all false
namespace Go.Am
variable {P:RP}{a v:AV}{b f n:Nat}{d x:Option AV}{e:RE}{h:AH}{k:List Fr}{l:List ROper}{o:ROper}{op:BinOp}{p:List Nat}{ts:Tm}
noncomputable def getV(t:T AV)(p:List Bool):Option AV :=
 @T.rec AV (λ_=>List Bool->Option AV) (λ_=>none)
  (λ_ v _ il ir p=>@List.rec Bool (λ_=>Option AV) v (λb q _=>@Bool.rec (λ_=>Option AV) (ir q) (il q) b) p) t p
theorem xV:∀(t:T AV) (p:List Bool),getV t p=t.get p
 |.nil,p=>by cases p<;>rfl
 |.node l v r,[]=>rfl
 |.node l v r,true::p=>xV l p
 |.node l v r,false::p=>xV r p
noncomputable def setV(t:T AV)(p:List Bool)(x:AV):T AV :=
 @T.rec AV (λ_=>List Bool->AV->T AV) (λp x=>T.fresh x p)
  (λl v r il ir p x=>@List.rec Bool (λ_=>T AV) (.node l (some x) r) (λb q _=>@Bool.rec (λ_=>T AV) (.node l v (ir q x)) (.node (il q x) v r) b) p) t p x
theorem xl(x:AV):∀(t:T AV) (p:List Bool),setV t p x=t.set p x
 |.nil,p=>by cases p<;>rfl
 |.node l v r,[]=>rfl
 |.node l v r,true::p=>congrArg (λy=>T.node y v r) (xl x l p)
 |.node l v r,false::p=>congrArg (λy=>T.node l v y) (xl x r p)
noncomputable def zS(t:T AO)(p:List Bool):Option AO :=
 @T.rec AO (λ_=>List Bool->Option AO) (λ_=>none)
  (λ_ v _ il ir p=>@List.rec Bool (λ_=>Option AO) v (λb q _=>@Bool.rec (λ_=>Option AO) (ir q) (il q) b) p) t p
theorem xW:∀(t:T AO) (p:List Bool),zS t p=t.get p
 |.nil,p=>by cases p<;>rfl
 |.node l v r,[]=>rfl
 |.node l v r,true::p=>xW l p
 |.node l v r,false::p=>xW r p
noncomputable def setO(t:T AO)(p:List Bool)(x:AO):T AO :=
 @T.rec AO (λ_=>List Bool->AO->T AO) (λp x=>T.fresh x p)
  (λl v r il ir p x=>@List.rec Bool (λ_=>T AO) (.node l (some x) r) (λb q _=>@Bool.rec (λ_=>T AO) (.node l v (ir q x)) (.node (il q x) v r) b) p) t p x
theorem xm(x:AO):∀(t:T AO) (p:List Bool),setO t p x=t.set p x
 |.nil,p=>by cases p<;>rfl
 |.node l v r,[]=>rfl
 |.node l v r,true::p=>congrArg (λy=>T.node y v r) (xm x l p)
 |.node l v r,false::p=>congrArg (λy=>T.node l v y) (xm x r p)
noncomputable def FZ(t:Tm)(n:Nat):AV:=@Option.rec AV (λ_=>AV) AV.un (λv=>v) (getV t (fW n))
theorem FY(t:Tm)(n:Nat):FZ t n=bt t n:=by
 unfold FZ bt;rw[xV];cases T.get t (fW n)<;>rfl
noncomputable def Ah(ts:Tm)(d:Option Nat)(v:AV):Tm:=@Option.rec Nat (λ_=>Tm->AV->Tm) (λts _=>ts) (λn ts v=>setV ts (fW n) v) d ts v
theorem Ag(ts:Tm)(d:Option Nat)(v:AV):Ah ts d v=dB ts d v:=by
 cases d with
 |none=>rfl
 |some n=>exact xl v ts (fW n)
noncomputable def evF(ts:Tm)(x:RO):AV:=@RO.rec (λ_=>Tm->AV) (λn ts=>FZ ts n) (λv _=>v) (λg _=>.ptr g 0) (λf _=>.fn f []) x ts
theorem ud(ts:Tm):evF ts=RO.ev ts:=by
 funext x;cases x with
 |t n=>exact FY ts n
 |_=>rfl
noncomputable def KW(cs:List AV)(i:Nat):Option AV :=
 @List.rec AV (λ_=>Nat->Option AV) (λ_=>none) (λv _ ih i=>@Nat.rec (λ_=>Option AV) (some v) (λj _=>ih j) i) cs i
theorem CU:∀(cs:List AV) (i:Nat),KW cs i=cs[i]?
 |[],i=>by simp[KW]
 |v::cs,0=>rfl
 |v::cs,i+1=>by rw[cD];exact CU cs i
noncomputable def DC(cs:List AV)(i:Nat)(x:AV):Option (List AV) :=
 @List.rec AV (λ_=>Nat->AV->Option (List AV)) (λ_ _=>none)
  (λv r ih i x=>@Nat.rec (λ_=>Option (List AV)) (some (x::r)) (λj _=>@Option.rec (List AV) (λ_=>AV->Option (List AV)) (λ_=>none) (λr' v=>some (v::r')) (ih j x) v) i) cs i x
theorem Cv(x:AV):∀(cs:List AV) (i:Nat),DC cs i x=if i<cs.length then some (cs.set i x)else none
 |[],i=>by simp[DC]
 |v::cs,0=>by rw[if_pos (by simp)];rfl
 |v::cs,i+1=>by
   have ih:=Cv x cs i;have e:DC (v::cs) (i+1) x=@Option.rec (List AV) (λ_=>AV->Option (List AV)) (λ_=>none) (λr' v=>some (v::r')) (DC cs i x) v:=rfl;rw[e,ih];by_cases q:i<cs.length
   .rw[if_pos q,if_pos (by simpa using q)];rfl
   .rw[if_neg q,if_neg (by simpa using q)]
noncomputable def Hs(v:AV)(f:IntKind->Int->Option AV)(d:Option AV):Option AV :=
 @AV.rec (λ_=>(IntKind->Int->Option AV)->Option AV->Option AV) (λ_=>PUnit) (λ_ _ d=>d) (λk n f _=>f k n) (λ_ _ d=>d) (λ_ _ _ d=>d) (λ_ d=>d) (λ_ _ _ _ _ d=>d) (λ_ d=>d) (λ_ _ d=>d) (λ_ d=>d)
  (λ_ _ _ _ d=>d) (λ_ _ d=>d) (λ_ d=>d) (λ_ _ _ _ d=>d) (λ_ d=>d) (λ_ _ _ d=>d) (λ_ _ _ d=>d) (λ_ d=>d) (λ_ d=>d) PUnit.unit (λ_ _ _ _=>PUnit.unit) v f d
theorem tv{f:IntKind->Int->Option AV}(h:∀k n,v=.int k n->f k n=d):Hs v f d=d:=by
 cases v with
 |int k n=>exact h k n rfl
 |_=>rfl
noncomputable def Mu(v:AV)(f:Nat->Nat->Option (AV×AH))(d:Option (AV×AH)):Option (AV×AH) :=
 @AV.rec (λ_=>(Nat->Nat->Option (AV×AH))->Option (AV×AH)->Option (AV×AH)) (λ_=>PUnit) (λ_ _ d=>d) (λ_ _ _ d=>d) (λ_ _ d=>d) (λb o f _=>f b o) (λ_ d=>d) (λ_ _ _ _ _ d=>d) (λ_ d=>d) (λ_ _ d=>d) (λ_ d=>d)
  (λ_ _ _ _ d=>d) (λ_ _ d=>d) (λ_ d=>d) (λ_ _ _ _ d=>d) (λ_ d=>d) (λ_ _ _ d=>d) (λ_ _ _ d=>d) (λ_ d=>d) (λ_ d=>d) PUnit.unit (λ_ _ _ _=>PUnit.unit) v f d
noncomputable def CQ(ao:AO)(f:List AV->Nat->Bool->Option (AV×AH))(d:Option (AV×AH)):Option (AV×AH) :=
 @AO.rec (λ_=>(List AV->Nat->Bool->Option (AV×AH))->Option (AV×AH)->Option (AV×AH)) (λcs e ro f _=>f cs e ro) (λ_ d=>d) (λ_ d=>d) (λ_ _ _ d=>d) (λ_ _ _ d=>d) (λ_ _ _ _ _ d=>d) (λ_ _ _ _ _ _ _ d=>d) (λ_ d=>d) ao f d
noncomputable def ikN(k:IntKind):Nat:=@IntKind.rec (λ_=>Nat) 0 1 2 3 4 5 6 7 k
theorem Da{k k':IntKind}(h:Nat.beq (ikN k) (ikN k')=true):k=k':=by
 have:=gv h;cases k<;>cases k'<;>first|rfl|(exact absurd this (by decide))
noncomputable def natB(n:Int)(f:Nat->Option AV)(d:Option AV):Option AV:=@Int.rec (λ_=>(Nat->Option AV)->Option AV->Option AV) (λn f _=>f n) (λ_ _ d=>d) n f d
theorem vS{n:Int}{f:Nat->Option AV}(h:∀m:Nat,n=(m:Nat)->f m=d):natB n f d=d:=by
 cases n with
 |ofNat m=>exact h m rfl
 |negSucc m=>rfl
noncomputable def bR(b:Bool)(x y:Option AV):Option AV:=@Bool.rec (λ_=>Option AV) y x b
theorem oI{b:Bool}{y:Option AV}(h:b=true->x=y):bR b x y=y:=by
 cases b with
 |false=>rfl
 |true=>exact h rfl
noncomputable def Mv(op:BinOp)(k:IntKind)(m n:Nat)(d:Option AV):Option AV :=
 @BinOp.rec (λ_=>IntKind->Nat->Nat->Option AV->Option AV)
  (λk m n d=>bR (Nat.beq (ikN k) 3) (bR (Nat.blt (m+n) 9223372036854775808) (some (.int .i64 (Int.ofNat (m+n)))) d) d)
  (λk m n d=>bR (Nat.beq (ikN k) 3) (bR (Nat.ble n m) (bR (Nat.blt m 9223372036854775808) (some (.int .i64 (Int.ofNat (m-n)))) d) d) d)
  (λ_ _ _ d=>d) (λ_ _ _ d=>d) (λ_ _ _ d=>d) (λ_ _ _ d=>d) (λ_ _ _ d=>d) (λ_ _ _ d=>d) (λ_ _ _ d=>d) (λ_ _ _ d=>d) (λ_ _ _ d=>d)
  (λ_ m n _=>some (.bool (Nat.beq m n))) (λ_ m n _=>some (.bool (!Nat.beq m n))) (λ_ m n _=>some (.bool (Nat.blt m n))) (λ_ m n _=>some (.bool (Nat.ble m n))) (λ_ m n _=>some (.bool (Nat.blt n m))) (λ_ m n _=>some (.bool (Nat.ble n m))) op k m n d
theorem ik3{k:IntKind}(h:Nat.beq (ikN k) 3=true):k=.i64:=Da (k':=.i64) h
theorem Cs{n:Int}(h0:0<=n)(h1:n<9223372036854775808):IntKind.i64.wrap n=n:=by
 unfold IntKind.wrap;have e:(2^IntKind.i64.bits:Int)=18446744073709551616:=by decide
 have e2:(2^(IntKind.i64.bits-1):Int)=9223372036854775808:=by decide
 rw[e,e2,Int.emod_eq_of_lt h0 om];simp only[IntKind.signed,kH,ge_iff_le,aN];rw[if_neg om]
theorem HB{k:IntKind}{m n:Nat}:Mv op k m n (fj op e (.int k (m:Nat)) (.int k (n:Nat)))=fj op e (.int k (m:Nat)) (.int k (n:Nat)):=by
 cases op with
 |add =>
   refine oI λh=>oI λh2=>?_;cases ik3 h;have h2:m+n<9223372036854775808:=bQ (Jv _) (mE h2);simp only[fj,fL,reduceCtorEq,or_self,if_false,if_true];rw[Cs om om];rfl
 |sub =>
   refine oI λh=>oI λh2=>oI λh3=>?_;cases ik3 h;have h2:n<=m:=mE h2;have h3:m<9223372036854775808:=bQ (Jv _) (mE h3);simp only[fj,fL,reduceCtorEq,or_self,if_false,if_true];rw[Cs om om];rw[<-Int.ofNat_sub h2];rfl
 |eql =>
   show some (AV.bool (Nat.beq m n))=_;simp only[fj,fL,reduceCtorEq,or_self,if_false,if_true];congr 2;rw[dp,Nat.beq_eq];simp only[beq_iff_eq];omega
 |neq =>
   show some (AV.bool (!Nat.beq m n))=_;simp only[fj,fL,reduceCtorEq,or_self,if_false,if_true];congr 2;rw[dp,dT,<-sC,Nat.beq_eq];simp only[bne_iff_ne];omega
 |lss =>
   show some (AV.bool (Nat.blt m n))=_;simp only[fj,fL,reduceCtorEq,or_self,if_false,if_true];congr 2;rw[dp,uG];simp only[aN];omega
 |leq =>
   show some (AV.bool (Nat.ble m n))=_;simp only[fj,fL,reduceCtorEq,or_self,if_false,if_true];congr 2;rw[dp,Nat.ble_eq];simp only[aN];omega
 |gtr =>
   show some (AV.bool (Nat.blt n m))=_;simp only[fj,fL,reduceCtorEq,or_self,if_false,if_true];congr 2;rw[dp,uG];simp only[aN,gt_iff_lt];omega
 |geq =>
   show some (AV.bool (Nat.ble n m))=_;simp only[fj,fL,reduceCtorEq,or_self,if_false,if_true];congr 2;rw[dp,Nat.ble_eq];simp only[aN,ge_iff_le];omega
 |_=>rfl
noncomputable def binF(op:BinOp)(e:RE)(x y:AV):Option AV :=
 Hs x (λk a=>Hs y (λk' b=>bR (Nat.beq (ikN k) (ikN k')) (natB a (λm=>natB b (λn=>Mv op k m n (fj op e x y)) (fj op e x y)) (fj op e x y)) (fj op e x y)) (fj op e x y)) (fj op e x y)
theorem Mg{x y:AV}:binF op e x y=fj op e x y:=by
 unfold binF;refine tv λk a ha=>tv λk' b hb=>oI λhk=>vS λm hm=>vS λn hn=>?_;have:=Da hk;subst this hm hn ha hb;exact HB
noncomputable def hR(b:Bool)(x y:Option (AV×AH)):Option (AV×AH):=@Bool.rec (λ_=>Option (AV×AH)) y x b
theorem xU{b:Bool}{x y:Option (AV×AH)}(h:b=true->x=y):hR b x y=y:=by
 cases b with
 |false=>rfl
 |true=>exact h rfl
noncomputable def HN(h:AH)(a:AV):Option (AV×AH) :=
 Mu a (λb o=>hR (Nat.blt b h.next) (@Option.rec AO (λ_=>Nat->AH->Option (AV×AH)) (λ_ _=>none) (λao o h=>CQ ao (λcs _ _=>@Option.rec AV (λ_=>AH->Option (AV×AH)) (λ_=>none) (λv h=>some (v,h)) (KW cs o) h) none) (zS h.t (fW b)) o h) none) none
theorem rd1{o:Nat}:ar h b o 1=match h.get b with
 |some (.cells cs _ _)=>(cs[o]?).map λv=>[v]
 |_=>none:=by
 unfold ar;cases h.get b with
 |none=>rfl
 |some ao =>
   cases ao with
   |cells cs e ro =>
     simp only;by_cases q:o+1<=cs.length
     .rw[if_pos q,cr om,ae om];rfl
     .rw[if_neg q,bA om];rfl
   |_=>rfl
theorem Iv:h.get b=if Nat.blt b h.next then zS h.t (fW b)else none:=by
 unfold AH.get;rw[xW];by_cases q:b<h.next
 .rw[if_pos q,if_pos (by rw[uG];exact q)]
 .rw[if_neg q,if_neg (by rw[uG];exact q)]
theorem HM:HN h a=oV h false 1 a:=by
 unfold HN oV;cases a with
 |ptr b o =>
   show hR _ _ _=_;simp only;rw[rd1,Iv];cases Nat.blt b h.next with
   |false=>rfl
   |true =>
     simp only[if_true];show @Option.rec AO (λ_=>Nat->AH->Option (AV×AH)) _ _ (zS h.t (fW b)) o h=_;cases zS h.t (fW b)with
     |none=>rfl
     |some ao =>
       cases ao with
       |cells cs e ro =>
         show @Option.rec AV (λ_=>AH->Option (AV×AH)) _ _ (KW cs o) h=_;rw[CU];simp only;cases cs[o]?<;>rfl
       |_=>rfl
 |_=>rfl
noncomputable def oneC(v:AV):Bool :=
 @AV.rec (λ_=>Bool) (λ_=>PUnit) (λ_=>true) (λ_ _=>true) (λ_=>true) (λ_ _=>true) true (λ_ _ _ _=>true) true (λ_=>true) true
  (λ_ _ _=>true) (λ_=>true) true (λ_ _ _=>true) true (λ_ _=>false) (λ_ _=>false) true true PUnit.unit (λ_ _ _ _=>PUnit.unit) v
theorem Ez(h:oneC v=true):v.cells=[v]/\v.one=true:=by
 cases v<;>first|exact⟨rfl,rfl⟩|(cases h)
noncomputable def AL(h:AH)(a v:AV):Option (AV×AH) :=
 Mu a (λb o=>hR (oneC v) (hR (Nat.blt b h.next) (@Option.rec AO (λ_=>Nat->Nat->AV->AH->Option (AV×AH)) (λ_ _ _ _=>none) (λao b o v h=>CQ ao (λcs e ro=>@Bool.rec (λ_=>Option (AV×AH))
  (@Option.rec (List AV) (λ_=>Nat->Nat->AH->Option (AV×AH)) (λ_ _ _=>none) (λcs' e b h=>some (.un,⟨h.next,setO h.t (fW b) (.cells cs' e false),h.ty⟩)) (DC cs o v) e b h) none ro) none) (zS h.t (fW b)) b o v h) none) (lO h 1 a v)) none
theorem DF:AL h a v=lO h 1 a v:=by
 unfold AL;cases a with
 |ptr b o =>
   show hR (oneC v) _ _=_;refine xU λh1=>?_;obtain⟨h2,h3⟩:=Ez h1;simp only[lO,h2,aA,aQ,kC,List.all_nil,h3,fA,bX,and_self,if_true];unfold bV;rw[Iv];cases Nat.blt b h.next with
   |false=>rfl
   |true =>
     simp only[if_true];show @Option.rec AO (λ_=>Nat->Nat->AV->AH->Option (AV×AH)) _ _ (zS h.t (fW b)) b o v h=_;cases zS h.t (fW b)with
     |none=>rfl
     |some ao =>
       cases ao with
       |cells cs e ro =>
         cases ro with
         |true=>rfl
         |false =>
           show @Option.rec (List AV) (λ_=>Nat->Nat->AH->Option (AV×AH)) _ _ (DC cs o v) e b h=_;rw[Cv];simp only[aA,aQ,bX];by_cases q:o<cs.length
           .rw[if_pos q,if_pos om,sV q];show some _=some _;rw[xm];rfl
           .rw[if_neg q,if_neg om];rfl
       |_=>rfl
 |_=>rfl
noncomputable def HL(ag:Bool)(n:Nat)(h:AH)(a:AV):Option (AV×AH) :=
 @Bool.rec (λ_=>Nat->AH->AV->Option (AV×AH)) (λn h a=>hR (Nat.beq n 1) (HN h a) (oV h false n a)) (λn h a=>oV h true n a) ag n h a
theorem HK{ag:Bool}:HL ag n h a=oV h ag n a:=by
 cases ag with
 |true=>rfl
 |false =>
   refine xU λq=>?_;have:=gv q;subst this;exact HM
noncomputable def AJ(n:Nat)(h:AH)(a v:AV):Option (AV×AH):=hR (Nat.beq n 1) (AL h a v) (lO h n a v)
theorem DE:AJ n h a v=lO h n a v:=by
 refine xU λq=>?_;have:=gv q;subst this;exact DF
noncomputable def wH(x:Option AV)(h:AH):Option (AV×AH):=@Option.rec AV (λ_=>AH->Option (AV×AH)) (λ_=>none) (λv h=>some (v,h)) x h
theorem Mn:wH x h=x.map (·,h):=by cases x<;>rfl
noncomputable def opF(op:ROp)(ts:Tm)(h:AH):Option (AV×AH) :=
 @ROp.rec (λ_=>Tm->AH->Option (AV×AH))
  (λx ts h=>some (evF ts x,h))
  (λc a b ts h=>wH (zg (evF ts c) (evF ts a) (evF ts b)) h)
  (λz e _ h=>some (.ptr h.next 0,h.new (.cells z e false)))
  (λe n x ts h=>FE h e n (evF ts x))
  (λz ps ts h=>(fill (RO.ev ts) z ps).map λcs=>(.agg cs,h))
  (λz e n ps ts h=>(fill (RO.ev ts) (df z n) ps).map λcs=>(.sl h.next 0 n n,h.new (.cells cs e false)))
  (λag n a ts h=>HL ag n h (evF ts a))
  (λn a v ts h=>AJ n h (evF ts a) (evF ts v))
  (λx ts h=>wH (tA (evF ts x)) h)
  (λop e x y ts h=>wH (binF op e (evF ts x) (evF ts y)) h)
  (λop x ts h=>wH (unA op (evF ts x)) h)
  (λk x ts h=>wH (IL k (evF ts x)) h)
  (λx ts h=>wH (ul h (evF ts x)) h)
  (λx ts h=>Ap h (evF ts x))
  (λx ts h=>wH (Ao h (evF ts x)) h)
  (λt x ts h=>some (.ifc t (evF ts x),h))
  (λf cs ts h=>some (.fn f (cs.map (RO.ev ts)),h))
  (λz e bytes l c ts h=>BA h z e bytes (evF ts l) (evF ts c))
  (λx lo hi ts h=>wH (Gk (RO.ev ts) (evF ts x) lo hi) h)
  (λe x lo hi mx ts h=>wH (AN (RO.ev ts) h e (evF ts x) lo hi mx) h)
  (λn e x lo hi mx ts h=>wH (Gl (RO.ev ts) n e (evF ts x) lo hi mx) h)
  (λoff x ts h=>wH (zY off (evF ts x)) h)
  (λag off n x ts h=>wH (Lu ag off n (evF ts x)) h)
  (λe x i ts h=>wH (iQ e (evF ts x) (evF ts i)) h)
  (λn e x i ts h=>wH (Db n e (evF ts x) (evF ts i)) h)
  (λx i ts h=>wH (wC (evF ts x) (evF ts i)) h)
  (λag n e x i ts h=>wH (zN ag n e (evF ts x) (evF ts i)) h)
  (λx i ts h=>wH (IA (evF ts x) i) h)
  (λx ts h=>wH (jb (evF ts x)) h)
  (λx ts h=>wH (zD (evF ts x)) h)
  (λx ts h=>wH (Jb (evF ts x)) h)
  (λxs ts h=>wH (jR mxA (xs.map (RO.ev ts))) h)
  (λxs ts h=>wH (jR mnA (xs.map (RO.ev ts))) h)
  (λe bytes s x ts h=>gI h e bytes (evF ts s) (evF ts x))
  (λe d s ts h=>IQ h e (evF ts d) (evF ts s))
  (λ_ _ _ _=>none)
  (λ_ _ _ _=>none)
  (λ_ h=>some (.mp h.next,h.new (.mapo [] 0)))
  (λx ts h=>wH (tF h (evF ts x)) h)
  (λe ok z m k ts h=>wH (pq h e ok z (evF ts m) (evF ts k)) h)
  (λe m k v ts h=>uW h e (evF ts m) (evF ts k) (evF ts v))
  (λe z m k ts h=>xE h e z (evF ts m) (evF ts k))
  (λm s v ts h=>zt h (evF ts m) (evF ts s) (evF ts v))
  (λm ts h=>HJ h (evF ts m))
  (λm ts h=>GQ h (evF ts m))
  (λ_ _ _=>none)
  (λit ts h=>wH (Fb h (evF ts it)) h)
  (λ_ _=>none)
  (λz e t _ h=>some (.ptr h.next 0,h.newT (.cells z e false) t))
  (λz x ts h=>GF h z (evF ts x))
  (λz b s n ts h=>Cn h z b (evF ts s) (evF ts n))
  (λt s x ts h=>Ds h t (evF ts s) (evF ts x))
  (λt n ts h=>HF h t (evF ts n))
  (λx ts h=>wH (Fl h (evF ts x)) h)
  (λt n x ts h=>wH (Fm h t n (evF ts x)) h)
  (λx ts h=>wH (CD (evF ts x)) h)
  (λt x n ts h=>yI h t (evF ts x) (evF ts n)) op ts h
theorem Nj{op:ROp}:opF op ts h=aJ (RO.ev ts) h op:=by
 cases op<;>first
  |(show wH _ _=_;rw[Mn,ud];first | rfl | (rw[Mg];rfl))
  |(show wH _ _=_;rw[Mn];rfl)
  |(show HL _ _ _ _=_;rw[HK,ud];rfl)
  |(show AJ _ _ _ _=_;rw[DE,ud];rfl)
  |rfl
  |(unfold opF;simp only[ud];rfl)
noncomputable def kR(b:Bool)(x y:Option KS):Option KS:=@Bool.rec (λ_=>Option KS) y x b
noncomputable def EU(o:ROper)(b:Nat)(l:List ROper)(f:Nat)(p:List Nat)(n:Nat)(ts':Tm)(h':AH)(k:List Fr):Option KS :=
 @List.rec (Nat×ROp×Option (Nat×Bool)) (λ_=>Option KS) (some ⟨.ops b l f p (n+1) ts' h',k⟩) (λ_ _ _=>kR (fZ ts' h' o.cs) (some ⟨.ops b l f p (n+1) ts' h',k⟩) none) o.cs
theorem De{ts':Tm}{h':AH}:EU o b l f p n ts' h' k=if fZ ts' h' o.cs=true then some ⟨.ops b l f p (n+1) ts' h',k⟩else none:=by
 unfold EU;cases hc:o.cs with
 |nil=>simp only[As,if_true]
 |cons c r =>
   show kR (fZ ts' h' (c::r)) _ _=_;cases fZ ts' h' (c::r)<;>rfl
noncomputable def kev(o:ROper)(b:Nat)(l:List ROper)(f:Nat)(p:List Nat)(n:Nat)(ts:Tm)(h:AH)(k:List Fr):Option KS :=
 @Option.rec (AV×AH) (λ_=>ROper->Nat->List ROper->Nat->List Nat->Nat->Tm->List Fr->Option KS) (λ_ _ _ _ _ _ _ _=>none)
  (λr o b l f p n ts k=>EU o b l f p n (Ah ts o.dst r.1) r.2 k)
  (@Option.rec Nat (λ_=>ROper->Nat->Tm->AH->Option (AV×AH)) (λo _ ts h=>opF o.op ts h) (λj o b ts h=>iR (RO.ev ts) h (b+j) o.op) o.nm o b ts h) o b l f p n ts k
theorem Nz:
 kev o b l f p n ts h k=match evN b (RO.ev ts) h o with
  |some (v,h')=>if fZ (dB ts o.dst v) h' o.cs=true then some ⟨.ops b l f p (n+1) (dB ts o.dst v) h',k⟩else none
  |none=>none:=by
 have e:(@Option.rec Nat (λ_=>ROper->Nat->Tm->AH->Option (AV×AH)) (λo _ ts h=>opF o.op ts h) (λj o b ts h=>iR (RO.ev ts) h (b+j) o.op) o.nm o b ts h)=evN b (RO.ev ts) h o:=by
  unfold evN;cases o.nm with
  |none=>exact Nj
  |some j=>rfl
 unfold kev;rw[e];cases evN b (RO.ev ts) h o with
 |none=>rfl
 |some r =>
   show EU o b l f p n (Ah ts o.dst r.1) r.2 k=_;rw[De,Ag]
noncomputable def kcv(x:RO)(args:List RO)(o:ROper)(b:Nat)(l:List ROper)(f:Nat)(p:List Nat)(n:Nat)(ts:Tm)(h:AH)(k:List Fr):Option KS :=
 match RO.ev ts x with
 |.fn g caps=>some ⟨.call g (args.map (RO.ev ts)++caps) h,.opsK b o l f p n ts::k⟩
 |.yld c=>some ⟨.round c (args.map (RO.ev ts)) h,.opsK b o l f p n ts::k⟩
 |_=>none
noncomputable def doF(op:ROp)(o:ROper)(b:Nat)(l:List ROper)(f:Nat)(p:List Nat)(n:Nat)(ts:Tm)(h:AH)(k:List Fr):Option KS :=
 @ROp.rec (λ_=>ROper->Nat->List ROper->Nat->List Nat->Nat->Tm->AH->List Fr->Option KS)
  (λ_=>kev) (λ_ _ _=>kev) (λ_ _=>kev) (λ_ _ _=>kev) (λ_ _=>kev) (λ_ _ _ _=>kev) (λ_ _ _=>kev) (λ_ _ _=>kev) (λ_=>kev) (λ_ _ _ _=>kev) (λ_ _=>kev) (λ_ _=>kev) (λ_=>kev) (λ_=>kev) (λ_=>kev) (λ_ _=>kev) (λ_ _=>kev) (λ_ _ _ _ _=>kev) (λ_ _ _=>kev) (λ_ _ _ _ _=>kev) (λ_ _ _ _ _ _=>kev) (λ_ _=>kev) (λ_ _ _ _=>kev) (λ_ _ _=>kev) (λ_ _ _ _=>kev) (λ_ _=>kev) (λ_ _ _ _ _=>kev) (λ_ _=>kev) (λ_=>kev) (λ_=>kev) (λ_=>kev) (λ_=>kev) (λ_=>kev) (λ_ _ _ _=>kev) (λ_ _ _=>kev)
  (λg args o b l f p n ts h k=>some ⟨.call g (args.map (RO.ev ts)) h,.opsK b o l f p n ts::k⟩) kcv
  kev (λ_=>kev) (λ_ _ _ _ _=>kev) (λ_ _ _ _=>kev) (λ_ _ _ _=>kev) (λ_ _ _=>kev) (λ_=>kev) (λ_=>kev) (λ_=>kev) (λ_=>kev) kev (λ_ _ _=>kev) (λ_ _=>kev) (λ_ _ _ _=>kev) (λ_ _ _=>kev) (λ_ _=>kev) (λ_=>kev) (λ_ _ _=>kev) (λ_=>kev) (λ_ _ _=>kev) op o b l f p n ts h k
noncomputable def wR(x:Option Bool)(a b:Option KS):Option KS:=@Option.rec Bool (λ_=>Option KS->Option KS->Option KS) (λ_ _=>none) (λt a b=>@Bool.rec (λ_=>Option KS) b a t) x a b
noncomputable def HX(b:Nat)(o:ROper)(l:List ROper)(f:Nat)(p:List Nat)(n:Nat)(ts:Tm)(h:AH)(k:List Fr):Option KS :=
 @Option.rec (Nat×Bool) (λ_=>ROper->Nat->List ROper->Nat->List Nat->Nat->Tm->AH->List Fr->Option KS) (λo=>doF o.op o)
  (λ_ o b l f p n ts h k=>wR (wanted ts o.guard) (doF o.op o b l f p n ts h k) (some ⟨.ops b l f p (n+1) (dB ts o.dst .un) h,k⟩)) o.guard o b l f p n ts h k
theorem NO:doF o.op o b l f p n ts h k=match o.op with
 |.call g args=>some ⟨.call g (args.map (RO.ev ts)) h,.opsK b o l f p n ts::k⟩
 |.callv x args=>match RO.ev ts x with
   |.fn g caps=>some ⟨.call g (args.map (RO.ev ts)++caps) h,.opsK b o l f p n ts::k⟩
   |.yld c=>some ⟨.round c (args.map (RO.ev ts)) h,.opsK b o l f p n ts::k⟩
   |_=>none
 |_=>match evN b (RO.ev ts) h o with
   |some (v,h')=>if fZ (dB ts o.dst v) h' o.cs=true then some ⟨.ops b l f p (n+1) (dB ts o.dst v) h',k⟩else none
   |none=>none:=by
 generalize hop:o.op=op
 cases op<;>first
  |exact Nz
  |rfl
  |(show kcv _ _ _ _ _ _ _ _ _ _ _=_;unfold kcv;rfl)
theorem HW:HX b o l f p n ts h k=EN b o l f p n ts h k:=by
 have d:=NO (b:=b) (o:=o) (l:=l) (f:=f) (p:=p) (n:=n) (ts:=ts) (h:=h) (k:=k);unfold HX EN;cases hg:o.guard with
 |none =>
   show doF o.op o b l f p n ts h k=_;rw[d];rfl
 |some g =>
   show wR (wanted ts o.guard) _ _=_;rw[hg];cases wanted ts (some g)with
   |none=>rfl
   |some t =>
     cases t with
     |false=>rfl
     |true=>exact d
noncomputable def cR(v:AV)(a b:Option KS):Option KS :=
 @AV.rec (λ_=>Option KS->Option KS->Option KS) (λ_=>PUnit) (λt a b=>@Bool.rec (λ_=>Option KS) b a t) (λ_ _ _ _=>none) (λ_ _ _=>none) (λ_ _ _ _=>none) (λ_ _=>none) (λ_ _ _ _ _ _=>none) (λ_ _=>none) (λ_ _ _=>none) (λ_ _=>none)
  (λ_ _ _ _ _=>none) (λ_ _ _=>none) (λ_ _=>none) (λ_ _ _ _ _=>none) (λ_ _=>none) (λ_ _ _ _=>none) (λ_ _ _ _=>none) (λ_ _=>none) (λ_ _=>none) PUnit.unit (λ_ _ _ _=>PUnit.unit) v a b
theorem cR_eq{a b:Option KS}:cR v a b=match v with
 |.bool true=>a
 |.bool false=>b
 |_=>none:=by
 cases v with
 |bool t=>cases t<;>rfl
 |_=>rfl
noncomputable def HZ(c:RC)(f:Nat)(p:List Nat)(ts:Tm)(h:AH)(k:List Fr):Option KS :=
 @RC.rec (λ_=>Nat->List Nat->Tm->AH->List Fr->Option KS)
  (λ_ _ ts h k=>some ⟨.out (.norm ts h),k⟩)
  (λops f p ts h k=>some ⟨.ops h.next ops f p 0 ts h,k⟩)
  (λ_ _ _ _ _ _ _ _=>none)
  (λkn ops f p ts h k=>some ⟨.ops h.next ops f p 0 ts (h.keep kn),k⟩)
  (λa b _ _ f p ts h k=>some ⟨.code a f (0::p) ts h,.seqK b f (1::p)::k⟩)
  (λc a b _ _ f p ts h k=>cR (evF ts c) (some ⟨.code a f (0::p) ts h,k⟩) (some ⟨.code b f (1::p) ts h,k⟩))
  (λid c _ f p ts h k=>some ⟨.code c f (0::p) ts h,.blockK id::k⟩)
  (λc _ f p ts h k=>some ⟨.code c f (0::p) ts h,.loopK c f (0::p)::k⟩)
  (λfn q x ps a b _ _ f p ts h k=>wg (.rangeF fn q x ps a b) f p ts h k)
  (λid _ _ ts h k=>some ⟨.out (.exit id ts h),k⟩)
  (λ_ _ ts h k=>some ⟨.out (.ret ts h),k⟩)
  (λ_ _ _ _ _=>none) c f p ts h k
theorem EP{c:RC}:HZ c f p ts h k=wg c f p ts h k:=by
 cases c with
 |cond c a b =>
   show cR (evF ts c) _ _=_;rw[cR_eq,ud];rfl
 |_=>rfl
noncomputable def Hr(o:Out)(nm:Tm->AH->Option KS)(ex:Nat->Tm->AH->Option KS)(rt:Tm->AH->Option KS):Option KS :=
 @Out.rec (λ_=>(Tm->AH->Option KS)->(Nat->Tm->AH->Option KS)->(Tm->AH->Option KS)->Option KS) (λts h nm _ _=>nm ts h) (λi ts h _ ex _=>ex i ts h) (λts h _ _ rt=>rt ts h) (λ_ _ _ _ _=>none) o nm ex rt
noncomputable def Nn(o:Out)(f:AV->AH->Option KS):Option KS :=
 @Out.rec (λ_=>(AV->AH->Option KS)->Option KS) (λ_ _ _=>none) (λ_ _ _ _=>none) (λ_ _ _=>none) (λv h f=>f v h) o f
noncomputable def MA(P:RP)(fr:Fr)(o:Out)(k:List Fr):Option KS :=
 @Fr.rec (λ_=>RP->Out->List Fr->Option KS)
  (λb f p _ o k=>Hr o (λts h=>some ⟨.code b f p ts h,k⟩) (λi ts h=>some ⟨.out (.exit i ts h),k⟩) (λts h=>some ⟨.out (.ret ts h),k⟩))
  (λc f p _ o k=>Hr o (λts h=>some ⟨.code c f p ts h,.loopK c f p::k⟩) (λi ts h=>some ⟨.out (.exit i ts h),k⟩) (λts h=>some ⟨.out (.ret ts h),k⟩))
  (λid _ o k=>some ⟨.out (o.unblock id),k⟩)
  (λf P o k=>lh P (.callK f) o k)
  (λb q l f p n ts _ o k=>Nn o λv h=>EU q b l f p n (Ah ts q.dst v) h k)
  (λl ts P o k=>lh P (.rngK l ts) o k)
  (λb body f p P o k=>lh P (.asgK b body f p) o k)
  (λb P o k=>lh P (.rndK b) o k) fr P o k
theorem HV{fr:Fr}{o:Out}:MA P fr o k=lh P fr o k:=by
 cases fr with
 |seqK=>cases o<;>rfl
 |loopK=>cases o<;>rfl
 |opsK b q l f p n ts =>
   cases o with
   |val v h =>
     show EU q b l f p n (Ah ts q.dst v) h k=_;rw[De,Ag];rfl
   |_=>rfl
 |_=>rfl
noncomputable def tJ(P:RP)(S:KS):Option KS :=
 @Foc.rec (λ_=>RP->List Fr->Option KS)
  (λb l f p n ts h _ k=>@List.rec ROper (λ_=>Nat->Nat->List Nat->Nat->Tm->AH->List Fr->Option KS) (λ_ _ _ _ ts h k=>some ⟨.out (.norm ts h),k⟩) (λo l _ b f p n ts h k=>HX b o l f p n ts h k) l b f p n ts h k)
  (λc f p ts h _ k=>HZ c f p ts h k)
  (λf args h P k=>@Option.rec RF (λ_=>Nat->List AV->AH->List Fr->Option KS) (λ_ _ _ _=>none) (λrf f args h k=>some ⟨.code rf.body f [] (bL 0 args) h,.callK f::k⟩) (P f) f args h k)
  (λb args h P k=>tL P b args h k)
  (λo P k=>@List.rec Fr (λ_=>RP->Out->Option KS) (λ_ _=>none) (λfr k _ P o=>MA P fr o k) k P o) S.f P S.k
theorem vX{S:KS}:tJ P S=jy P S:=by
 obtain⟨f,k⟩:=S;cases f with
 |ops b l f p n ts h =>
   cases l with
   |nil=>rfl
   |cons o l=>exact HW
 |code c f p ts h=>exact EP
 |call f args h =>
   show @Option.rec RF (λ_=>Nat->List AV->AH->List Fr->Option KS) _ _ (P f) f args h k=_;simp only[jy];cases P f<;>rfl
 |round=>rfl
 |out o =>
   cases k with
   |nil=>rfl
   |cons fr k=>exact HV
noncomputable def qK(P:RP)(n:Nat)(S:KS):Option KS :=
 @Nat.rec (λ_=>KS->Option KS) (λS=>some S) (λ_ ih S=>@Option.rec KS (λ_=>(KS->Option KS)->Option KS) (λ_=>none) (λS' ih=>ih S') (tJ P S) ih) n S
theorem oA{P:RP}:∀(n:Nat) (S:KS),qK P n S=nl P n S
 |0,_=>rfl
 |n+1,S=>by
   show @Option.rec KS (λ_=>(KS->Option KS)->Option KS) (λ_=>none) (λS' ih=>ih S') (tJ P S) (qK P n)=_;rw[vX];simp only[nl];cases jy P S with
   |none=>rfl
   |some S'=>exact oA n S'
def frT(n:Nat):Nat->Nat->Nat->T AO
 |0,_,_=>.nil
 |f+1,a,b=>bif Nat.blt b n then .node (frT n f (2*a) (a+b)) (bif Nat.blt b 8 then none else some .resv) (frT n f (2*a) (2*a+b))else .nil
def frH(n:Nat):AH:=⟨n,frT n 32 1 0,.nil⟩
noncomputable def pU(P:RP)(n:Nat)(G:List Nat)(a b:PS):Bool :=
 match qK P n (a.load P)with
 |some S=>um G b S
 |none=>false
theorem fR{G:List Nat}{a b:PS}(hl:pU P n G a b=true)(hg:GoodS P (b.load P)):GoodS P (a.load P):=by
 unfold pU at hl;rw[oA]at hl;exact EI hl hg
noncomputable def xL(P:RP)(n:Nat)(a:PS):Bool :=
 match qK P n (a.load P)with
 |some S=>match S.f,S.k with
   |.out (.val (.bool true) _),[]=>true
   |_,_=>false
 |none=>false
theorem xK{a:PS}(hl:xL P n a=true):GoodS P (a.load P):=by
 unfold xL at hl;rw[oA]at hl;exact xM hl
noncomputable def wh(P:RP)(test:KS->Bool)(n:Nat)(S:KS):Bool :=
 @Nat.rec (λ_=>KS->Bool) (λS=>test S)
  (λ_ ih S=>@Bool.rec (λ_=>(KS->Bool)->KS->Bool)
   (λih S=>@Option.rec KS (λ_=>(KS->Bool)->KS->Bool) (λih S=>@Option.rec (List KS) (λ_=>(KS->Bool)->Bool) (λ_=>false) (λL ih=>L.all ih) (knx S) ih) (λS' ih _=>ih S') (tJ P S) ih S)
   (λ_ _=>true) (test S) ih S) n S
theorem tO{P:RP}{test:KS->Bool}:∀(n:Nat) (S:KS),wh P test n S=zI P test n S
 |0,_=>rfl
 |n+1,S=>by
   show @Bool.rec (λ_=>(KS->Bool)->KS->Bool) _ _ (test S) (wh P test n) S=_;unfold zI;cases test S with
   |true=>rfl
   |false =>
     show @Option.rec KS (λ_=>(KS->Bool)->KS->Bool) _ _ (tJ P S) (wh P test n) S=_;rw[vX];simp only;cases jy P S with
     |some S'=>exact tO n S'
     |none =>
       simp only;cases knx S with
       |none=>rfl
       |some L =>
         show L.all (wh P test n)=L.all (zI P test n);rw[show wh P test n=zI P test n from funext λS=>tO n S]
noncomputable def BC(P:RP)(m n d:Nat)(G:List Nat)(a b:PS)(i:Nat):Bool :=
 match qK P m (a.load P)with
 |some S=>match knx S with
   |some L=>match L[i]? with
     |some S'=>wh P (MI d G b) n S'
     |none=>false
   |none=>false
 |none=>false
noncomputable def legN(P:RP)(m:Nat)(a:PS)(N:Nat):Bool :=
 match qK P m (a.load P)with
 |some S=>match knx S with
   |some L=>Nat.beq L.length N
   |none=>false
 |none=>false
theorem EJ{m d N:Nat}{G:List Nat}{a b:PS}(hN:legN P m a N=true)(hl:∀i,i<N->BC P m n d G a b i=true)(hg:GoodS P (b.load P)):GoodS P (a.load P):=by
 unfold legN at hN;unfold BC at hl;rw[oA]at hN hl;cases h1:nl P m (a.load P)with
 |none=>rw[h1]at hN;cases hN
 |some S =>
   rw[h1]at hN hl;simp only at hN hl;cases h2:knx S with
   |none=>rw[h2]at hN;cases hN
   |some L =>
     rw[h2]at hN hl;simp only at hN hl;have hlen:=gv hN;refine lK h1 (vY h2 λS' hm=>?_);obtain⟨i,hi,rfl⟩:=fQ.1 hm;have:=hl i om;rw[ae hi]at this;simp only at this;rw[tO]at this;refine pu (λS ho ht=>?_) n _ (HY h2 (tK h1 (PS.load_ok P a)) _ hm) this;unfold MI at ht;split at ht
     .rw[aK]at ht;exact sa ho ht.2 hg
     .cases ht
theorem lt5{Q:Nat->Prop}(h0:Q 0)(h1:Q 1)(h2:Q 2)(h3:Q 3)(h4:Q 4):∀i,i<5->Q i:=by
 intro i hi
 match i,hi with
 |0,_=>exact h0
 |1,_=>exact h1
 |2,_=>exact h2
 |3,_=>exact h3
 |4,_=>exact h4
end Go.Am
