/- The clean machine's steps once more, each alternative closed -/
import Derived.Test.YthbmhbldmcbnpaaGreatDoorYAmG
import Derived.Test.YthbmhbldmcbnpaaGreatDoorYAmR
set_option linter.all false
namespace Go.Am
noncomputable def getV (t:T AV) (p:List Bool):Option AV :=
 @T.rec AV (λ_=>List Bool→Option AV) (λ_=>none)
  (λ_ v _ il ir p=>@List.rec Bool (λ_=>Option AV) v (λb q _=>@Bool.rec (λ_=>Option AV) (ir q) (il q) b) p) t p
theorem vP:∀ (t:T AV) (p:List Bool),getV t p=t.get p
 | .nil,p=>by cases p<;>rfl
 | .node l v r,[]=>rfl
 | .node l v r,true::p=>vP l p
 | .node l v r,false::p=>vP r p
noncomputable def setV (t:T AV) (p:List Bool) (x:AV):T AV :=
 @T.rec AV (λ_=>List Bool→AV→T AV) (λp x=>T.fresh x p)
  (λl v r il ir p x=>@List.rec Bool (λ_=>T AV) (.node l (some x) r) (λb q _=>@Bool.rec (λ_=>T AV) (.node l v (ir q x)) (.node (il q x) v r) b) p) t p x
theorem vk (x:AV):∀ (t:T AV) (p:List Bool),setV t p x=t.set p x
 | .nil,p=>by cases p<;>rfl
 | .node l v r,[]=>rfl
 | .node l v r,true::p=>congrArg (λy=>T.node y v r) (vk x l p)
 | .node l v r,false::p=>congrArg (λy=>T.node l v y) (vk x r p)
noncomputable def xU (t:T AO) (p:List Bool):Option AO :=
 @T.rec AO (λ_=>List Bool→Option AO) (λ_=>none)
  (λ_ v _ il ir p=>@List.rec Bool (λ_=>Option AO) v (λb q _=>@Bool.rec (λ_=>Option AO) (ir q) (il q) b) p) t p
theorem vQ:∀ (t:T AO) (p:List Bool),xU t p=t.get p
 | .nil,p=>by cases p<;>rfl
 | .node l v r,[]=>rfl
 | .node l v r,true::p=>vQ l p
 | .node l v r,false::p=>vQ r p
noncomputable def setO (t:T AO) (p:List Bool) (x:AO):T AO :=
 @T.rec AO (λ_=>List Bool→AO→T AO) (λp x=>T.fresh x p)
  (λl v r il ir p x=>@List.rec Bool (λ_=>T AO) (.node l (some x) r) (λb q _=>@Bool.rec (λ_=>T AO) (.node l v (ir q x)) (.node (il q x) v r) b) p) t p x
theorem vl (x:AO):∀ (t:T AO) (p:List Bool),setO t p x=t.set p x
 | .nil,p=>by cases p<;>rfl
 | .node l v r,[]=>rfl
 | .node l v r,true::p=>congrArg (λy=>T.node y v r) (vl x l p)
 | .node l v r,false::p=>congrArg (λy=>T.node l v y) (vl x r p)
noncomputable def DI (t:Tm) (n:Nat):AV:=@Option.rec AV (λ_=>AV) AV.un (λv=>v) (getV t (eY n))
theorem DH (t:Tm) (n:Nat):DI t n=cG t n:=by
 unfold DI cG
 rw[vP]
 cases T.get t (eY n)<;>rfl
noncomputable def yh (ts:Tm) (d:Option Nat) (v:AV):Tm:=@Option.rec Nat (λ_=>Tm→AV→Tm) (λts _=>ts) (λn ts v=>setV ts (eY n) v) d ts v
theorem yg (ts:Tm) (d:Option Nat) (v:AV):yh ts d v=cD ts d v:=by
 cases d with
 | none=>rfl
 | some n=>exact vk v ts (eY n)
noncomputable def evF (ts:Tm) (x:RO):AV:=@RO.rec (λ_=>Tm→AV) (λn ts=>DI ts n) (λv _=>v) (λg _=>.ptr g 0) (λf _=>.fn f []) x ts
theorem sB (ts:Tm):evF ts=RO.ev ts:=by
 funext x
 cases x with
 | t n=>exact DH ts n
 | _=>rfl
noncomputable def Jd (cs:List AV) (i:Nat):Option AV :=
 @List.rec AV (λ_=>Nat→Option AV) (λ_=>none) (λv _ ih i=>@Nat.rec (λ_=>Option AV) (some v) (λj _=>ih j) i) cs i
theorem AN:∀ (cs:List AV) (i:Nat),Jd cs i=cs[i]?
 | [],i=>by simp [Jd]
 | v::cs,0=>rfl
 | v::cs,i+1=>by rw[dy]; exact AN cs i
noncomputable def Br (cs:List AV) (i:Nat) (x:AV):Option (List AV) :=
 @List.rec AV (λ_=>Nat→AV→Option (List AV)) (λ_ _=>none)
  (λv r ih i x=>@Nat.rec (λ_=>Option (List AV)) (some (x::r)) (λj _=>@Option.rec (List AV) (λ_=>AV→Option (List AV)) (λ_=>none) (λr' v=>some (v::r')) (ih j x) v) i) cs i x
theorem Ak (x:AV):∀ (cs:List AV) (i:Nat),Br cs i x=if i<cs.length then some (cs.set i x) else none
 | [],i=>by simp [Br]
 | v::cs,0=>by rw[if_pos (by simp)]; rfl
 | v::cs,i+1=>by
   have ih:=Ak x cs i
   have e:Br (v::cs) (i+1) x=@Option.rec (List AV) (λ_=>AV→Option (List AV)) (λ_=>none) (λr' v=>some (v::r')) (Br cs i x) v:=rfl
   rw[e,ih]
   by_cases q:i<cs.length
   ·rw[if_pos q,if_pos (by simpa using q)]; rfl
   ·rw[if_neg q,if_neg (by simpa using q)]
noncomputable def Fb (v:AV) (f:IntKind→Int→Option AV) (d:Option AV):Option AV :=
 @AV.rec (λ_=>(IntKind→Int→Option AV)→Option AV→Option AV) (λ_=>PUnit) (λ_ _ d=>d) (λk n f _=>f k n) (λ_ _ d=>d) (λ_ _ _ d=>d) (λ_ d=>d) (λ_ _ _ _ _ d=>d) (λ_ d=>d) (λ_ _ d=>d) (λ_ d=>d)
  (λ_ _ _ _ d=>d) (λ_ _ d=>d) (λ_ d=>d) (λ_ _ _ _ d=>d) (λ_ d=>d) (λ_ _ _ d=>d) (λ_ _ _ d=>d) (λ_ d=>d) (λ_ d=>d) PUnit.unit (λ_ _ _ _=>PUnit.unit) v f d
theorem rH {v:AV}{f:IntKind→Int→Option AV}{d:Option AV} (h:∀ k n,v=.int k n→f k n=d):Fb v f d=d:=by
 cases v with
 | int k n=>exact h k n rfl
 | _=>rfl
noncomputable def MT (v:AV) (f:Nat→Nat→Option (AV×AH)) (d:Option (AV×AH)):Option (AV×AH) :=
 @AV.rec (λ_=>(Nat→Nat→Option (AV×AH))→Option (AV×AH)→Option (AV×AH)) (λ_=>PUnit) (λ_ _ d=>d) (λ_ _ _ d=>d) (λ_ _ d=>d) (λb o f _=>f b o) (λ_ d=>d) (λ_ _ _ _ _ d=>d) (λ_ d=>d) (λ_ _ d=>d) (λ_ d=>d)
  (λ_ _ _ _ d=>d) (λ_ _ d=>d) (λ_ d=>d) (λ_ _ _ _ d=>d) (λ_ d=>d) (λ_ _ _ d=>d) (λ_ _ _ d=>d) (λ_ d=>d) (λ_ d=>d) PUnit.unit (λ_ _ _ _=>PUnit.unit) v f d
noncomputable def AG (ao:AO) (f:List AV→Nat→Bool→Option (AV×AH)) (d:Option (AV×AH)):Option (AV×AH) :=
 @AO.rec (λ_=>(List AV→Nat→Bool→Option (AV×AH))→Option (AV×AH)→Option (AV×AH)) (λcs e ro f _=>f cs e ro) (λ_ d=>d) (λ_ d=>d) (λ_ _ _ d=>d) (λ_ _ _ d=>d) (λ_ _ _ _ _ d=>d) (λ_ _ _ _ _ _ _ d=>d) (λ_ d=>d) ao f d
noncomputable def ikN (k:IntKind):Nat:=@IntKind.rec (λ_=>Nat) 0 1 2 3 4 5 6 7 k
theorem AX {k k':IntKind} (h:Nat.beq (ikN k) (ikN k')=true):k=k':=by
 have:=gO h
 cases k<;>cases k'<;>first|rfl|(exact absurd this (by decide))
noncomputable def natB (n:Int) (f:Nat→Option AV) (d:Option AV):Option AV:=@Int.rec (λ_=>(Nat→Option AV)→Option AV→Option AV) (λn f _=>f n) (λ_ _ d=>d) n f d
theorem ue {n:Int}{f:Nat→Option AV}{d:Option AV} (h:∀ m:Nat,n=(m:Nat)→f m=d):natB n f d=d:=by
 cases n with
 | ofNat m=>exact h m rfl
 | negSucc m=>rfl
noncomputable def bR (b:Bool) (x y:Option AV):Option AV:=@Bool.rec (λ_=>Option AV) y x b
theorem mR {b:Bool}{x y:Option AV} (h:b=true→x=y):bR b x y=y:=by
 cases b with
 | false=>rfl
 | true=>exact h rfl
noncomputable def MU (op:BinOp) (k:IntKind) (m n:Nat) (d:Option AV):Option AV :=
 @BinOp.rec (λ_=>IntKind→Nat→Nat→Option AV→Option AV)
  (λk m n d=>bR (Nat.beq (ikN k) 3) (bR (Nat.blt (m+n) 9223372036854775808) (some (.int .i64 (Int.ofNat (m+n)))) d) d)
  (λk m n d=>bR (Nat.beq (ikN k) 3) (bR (Nat.ble n m) (bR (Nat.blt m 9223372036854775808) (some (.int .i64 (Int.ofNat (m-n)))) d) d) d)
  (λ_ _ _ d=>d) (λ_ _ _ d=>d) (λ_ _ _ d=>d) (λ_ _ _ d=>d) (λ_ _ _ d=>d) (λ_ _ _ d=>d) (λ_ _ _ d=>d) (λ_ _ _ d=>d) (λ_ _ _ d=>d)
  (λ_ m n _=>some (.bool (Nat.beq m n))) (λ_ m n _=>some (.bool (!Nat.beq m n))) (λ_ m n _=>some (.bool (Nat.blt m n))) (λ_ m n _=>some (.bool (Nat.ble m n))) (λ_ m n _=>some (.bool (Nat.blt n m))) (λ_ m n _=>some (.bool (Nat.ble n m))) op k m n d
theorem ik3 {k:IntKind} (h:Nat.beq (ikN k) 3=true):k=.i64:=AX (k':=.i64) h
theorem Aj {n:Int} (h0:0≤n) (h1:n<9223372036854775808):IntKind.i64.wrap n=n:=by
 unfold IntKind.wrap
 have e:(2 ^ IntKind.i64.bits:Int)=18446744073709551616:=by decide
 have e2:(2 ^ (IntKind.i64.bits-1):Int)=9223372036854775808:=by decide
 rw[e,e2,Int.emod_eq_of_lt h0 om]
 simp only[IntKind.signed,fK,ge_iff_le,az]
 rw[if_neg om]
theorem Fh {op:BinOp}{e:RE}{k:IntKind}{m n:Nat}:MU op k m n (du op e (.int k (m:Nat)) (.int k (n:Nat)))=du op e (.int k (m:Nat)) (.int k (n:Nat)):=by
 cases op with
 | add =>
   refine mR λh=>mR λh2=>?_
   cases ik3 h
   have h2:m+n<9223372036854775808:=cY (GI _) (kV h2)
   simp only[du,eL,reduceCtorEq,or_self,if_false,if_true]
   rw[Aj om om]
   rfl
 | sub =>
   refine mR λh=>mR λh2=>mR λh3=>?_
   cases ik3 h
   have h2:n≤m:=kV h2
   have h3:m<9223372036854775808:=cY (GI _) (kV h3)
   simp only[du,eL,reduceCtorEq,or_self,if_false,if_true]
   rw[Aj om om]
   rw[← Int.ofNat_sub h2]
   rfl
 | eql =>
   show some (AV.bool (Nat.beq m n))=_
   simp only[du,eL,reduceCtorEq,or_self,if_false,if_true]
   congr 2
   rw[cW,Nat.beq_eq]
   simp only[beq_iff_eq]
   omega
 | neq =>
   show some (AV.bool (!Nat.beq m n))=_
   simp only[du,eL,reduceCtorEq,or_self,if_false,if_true]
   congr 2
   rw[cW,dL,← qE,Nat.beq_eq]
   simp only[bne_iff_ne]
   omega
 | lss =>
   show some (AV.bool (Nat.blt m n))=_
   simp only[du,eL,reduceCtorEq,or_self,if_false,if_true]
   congr 2
   rw[cW,td]
   simp only[az]
   omega
 | leq =>
   show some (AV.bool (Nat.ble m n))=_
   simp only[du,eL,reduceCtorEq,or_self,if_false,if_true]
   congr 2
   rw[cW,Nat.ble_eq]
   simp only[az]
   omega
 | gtr =>
   show some (AV.bool (Nat.blt n m))=_
   simp only[du,eL,reduceCtorEq,or_self,if_false,if_true]
   congr 2
   rw[cW,td]
   simp only[az,gt_iff_lt]
   omega
 | geq =>
   show some (AV.bool (Nat.ble n m))=_
   simp only[du,eL,reduceCtorEq,or_self,if_false,if_true]
   congr 2
   rw[cW,Nat.ble_eq]
   simp only[az,ge_iff_le]
   omega
 | _=>rfl
noncomputable def binF (op:BinOp) (e:RE) (x y:AV):Option AV :=
 Fb x (λk a=>Fb y (λk' b=>bR (Nat.beq (ikN k) (ikN k')) (natB a (λm=>natB b (λn=>MU op k m n (du op e x y)) (du op e x y)) (du op e x y)) (du op e x y)) (du op e x y)) (du op e x y)
theorem Kg {op:BinOp}{e:RE}{x y:AV}:binF op e x y=du op e x y:=by
 unfold binF
 refine rH λk a ha=>rH λk' b hb=>mR λhk=>ue λm hm=>ue λn hn=>?_
 have:=AX hk
 subst this hm hn ha hb
 exact Fh
noncomputable def hR (b:Bool) (x y:Option (AV×AH)):Option (AV×AH):=@Bool.rec (λ_=>Option (AV×AH)) y x b
theorem vN {b:Bool}{x y:Option (AV×AH)} (h:b=true→x=y):hR b x y=y:=by
 cases b with
 | false=>rfl
 | true=>exact h rfl
noncomputable def Fs (h:AH) (a:AV):Option (AV×AH) :=
 MT a (λb o=>hR (Nat.blt b h.next) (@Option.rec AO (λ_=>Nat→AH→Option (AV×AH)) (λ_ _=>none) (λao o h=>AG ao (λcs _ _=>@Option.rec AV (λ_=>AH→Option (AV×AH)) (λ_=>none) (λv h=>some (v,h)) (Jd cs o) h) none) (xU h.t (eY b)) o h) none) none
theorem rd1 {h:AH}{b o:Nat}:aj h b o 1=match h.get b with
 | some (.cells cs _ _)=>(cs[o]?).map λv=>[v]
 | _=>none:=by
 unfold aj
 cases h.get b with
 | none=>rfl
 | some ao =>
   cases ao with
   | cells cs e ro =>
     simp only
     by_cases q:o+1≤cs.length
     ·rw[if_pos q,dH om,au om]
      rfl
     ·rw[if_neg q,bu om]
      rfl
   | _=>rfl
theorem FS {h:AH}{b:Nat}:h.get b=if Nat.blt b h.next then xU h.t (eY b) else none:=by
 unfold AH.get
 rw[vQ]
 by_cases q:b<h.next
 ·rw[if_pos q,if_pos (by rw[td]; exact q)]
 ·rw[if_neg q,if_neg (by rw[td]; exact q)]
theorem Fq {h:AH}{a:AV}:Fs h a=nq h false 1 a:=by
 unfold Fs nq
 cases a with
 | ptr b o =>
   show hR _ _ _=_
   simp only
   rw[rd1,FS]
   cases Nat.blt b h.next with
   | false=>rfl
   | true =>
     simp only[if_true]
     show @Option.rec AO (λ_=>Nat→AH→Option (AV×AH)) _ _ (xU h.t (eY b)) o h=_
     cases xU h.t (eY b) with
     | none=>rfl
     | some ao =>
       cases ao with
       | cells cs e ro =>
         show @Option.rec AV (λ_=>AH→Option (AV×AH)) _ _ (Jd cs o) h=_
         rw[AN]
         simp only
         cases cs[o]?<;>rfl
       | _=>rfl
 | _=>rfl
noncomputable def oneC (v:AV):Bool :=
 @AV.rec (λ_=>Bool) (λ_=>PUnit) (λ_=>true) (λ_ _=>true) (λ_=>true) (λ_ _=>true) true (λ_ _ _ _=>true) true (λ_=>true) true
  (λ_ _ _=>true) (λ_=>true) true (λ_ _ _=>true) true (λ_ _=>false) (λ_ _=>false) true true PUnit.unit (λ_ _ _ _=>PUnit.unit) v
theorem Cl {v:AV} (h:oneC v=true):v.cells=[v]∧v.one=true:=by
 cases v<;>first|exact⟨rfl,rfl⟩|(cases h)
noncomputable def yK (h:AH) (a v:AV):Option (AV×AH) :=
 MT a (λb o=>hR (oneC v) (hR (Nat.blt b h.next) (@Option.rec AO (λ_=>Nat→Nat→AV→AH→Option (AV×AH)) (λ_ _ _ _=>none) (λao b o v h=>AG ao (λcs e ro=>@Bool.rec (λ_=>Option (AV×AH))
  (@Option.rec (List AV) (λ_=>Nat→Nat→AH→Option (AV×AH)) (λ_ _ _=>none) (λcs' e b h=>some (.un,⟨h.next,setO h.t (eY b) (.cells cs' e false),h.ty⟩)) (Br cs o v) e b h) none ro) none) (xU h.t (eY b)) b o v h) none) (jm h 1 a v)) none
theorem Bx {h:AH}{a v:AV}:yK h a v=jm h 1 a v:=by
 unfold yK
 cases a with
 | ptr b o =>
   show hR (oneC v) _ _=_
   refine vN λh1=>?_
   obtain⟨h2,h3⟩:=Cl h1
   simp only[jm,h2,aR,bo,gu,DC,h3,iW,bM,and_self,if_true]
   unfold bD
   rw[FS]
   cases Nat.blt b h.next with
   | false=>rfl
   | true =>
     simp only[if_true]
     show @Option.rec AO (λ_=>Nat→Nat→AV→AH→Option (AV×AH)) _ _ (xU h.t (eY b)) b o v h=_
     cases xU h.t (eY b) with
     | none=>rfl
     | some ao =>
       cases ao with
       | cells cs e ro =>
         cases ro with
         | true=>rfl
         | false =>
           show @Option.rec (List AV) (λ_=>Nat→Nat→AH→Option (AV×AH)) _ _ (Br cs o v) e b h=_
           rw[Ak]
           simp only[aR,bo,bM]
           by_cases q:o<cs.length
           ·rw[if_pos q,if_pos om,qS q]
            show some _=some _
            rw[vl]
            rfl
           ·rw[if_neg q,if_neg om]
            rfl
       | _=>rfl
 | _=>rfl
noncomputable def Fp (ag:Bool) (n:Nat) (h:AH) (a:AV):Option (AV×AH) :=
 @Bool.rec (λ_=>Nat→AH→AV→Option (AV×AH)) (λn h a=>hR (Nat.beq n 1) (Fs h a) (nq h false n a)) (λn h a=>nq h true n a) ag n h a
theorem Fo {ag:Bool}{n:Nat}{h:AH}{a:AV}:Fp ag n h a=nq h ag n a:=by
 cases ag with
 | true=>rfl
 | false =>
   refine vN λq=>?_
   have:=gO q
   subst this
   exact Fq
noncomputable def yI (n:Nat) (h:AH) (a v:AV):Option (AV×AH):=hR (Nat.beq n 1) (yK h a v) (jm h n a v)
theorem Bw {n:Nat}{h:AH}{a v:AV}:yI n h a v=jm h n a v:=by
 refine vN λq=>?_
 have:=gO q
 subst this
 exact Bx
noncomputable def wH (x:Option AV) (h:AH):Option (AV×AH):=@Option.rec AV (λ_=>AH→Option (AV×AH)) (λ_=>none) (λv h=>some (v,h)) x h
theorem Kj {x:Option AV}{h:AH}:wH x h=x.map (·,h):=by cases x<;>rfl
noncomputable def opF (op:ROp) (ts:Tm) (h:AH):Option (AV×AH) :=
 @ROp.rec (λ_=>Tm→AH→Option (AV×AH))
  (λx ts h=>some (evF ts x,h))
  (λc a b ts h=>wH (xv (evF ts c) (evF ts a) (evF ts b)) h)
  (λz e _ h=>some (.ptr h.next 0,h.new (.cells z e false)))
  (λe n x ts h=>Dm h e n (evF ts x))
  (λz ps ts h=>(fill (RO.ev ts) z ps).map λcs=>(.agg cs,h))
  (λz e n ps ts h=>(fill (RO.ev ts) (bX z n) ps).map λcs=>(.sl h.next 0 n n,h.new (.cells cs e false)))
  (λag n a ts h=>Fp ag n h (evF ts a))
  (λn a v ts h=>yI n h (evF ts a) (evF ts v))
  (λx ts h=>wH (rM (evF ts x)) h)
  (λop e x y ts h=>wH (binF op e (evF ts x) (evF ts y)) h)
  (λop x ts h=>wH (unA op (evF ts x)) h)
  (λk x ts h=>wH (zH k (evF ts x)) h)
  (λx ts h=>wH (sI h (evF ts x)) h)
  (λx ts h=>ym h (evF ts x))
  (λx ts h=>wH (yl h (evF ts x)) h)
  (λt x ts h=>some (.ifc t (evF ts x),h))
  (λf cs ts h=>some (.fn f (cs.map (RO.ev ts)),h))
  (λz e bytes l c ts h=>xC h z e bytes (evF ts l) (evF ts c))
  (λx lo hi ts h=>wH (DY (RO.ev ts) (evF ts x) lo hi) h)
  (λe x lo hi mx ts h=>wH (yT (RO.ev ts) h e (evF ts x) lo hi mx) h)
  (λn e x lo hi mx ts h=>wH (DZ (RO.ev ts) n e (evF ts x) lo hi mx) h)
  (λoff x ts h=>wH (xY off (evF ts x)) h)
  (λag off n x ts h=>wH (Jv ag off n (evF ts x)) h)
  (λe x i ts h=>wH (jV e (evF ts x) (evF ts i)) h)
  (λn e x i ts h=>wH (uA n e (evF ts x) (evF ts i)) h)
  (λx i ts h=>wH (uz (evF ts x) (evF ts i)) h)
  (λag n e x i ts h=>wH (AY ag n e (evF ts x) (evF ts i)) h)
  (λx i ts h=>wH (FY (evF ts x) i) h)
  (λx ts h=>wH (gD (evF ts x)) h)
  (λx ts h=>wH (xI (evF ts x)) h)
  (λx ts h=>wH (JN (evF ts x)) h)
  (λxs ts h=>wH (kM mxA (xs.map (RO.ev ts))) h)
  (λxs ts h=>wH (kM mnA (xs.map (RO.ev ts))) h)
  (λe bytes s x ts h=>lP h e bytes (evF ts s) (evF ts x))
  (λe d s ts h=>CY h e (evF ts d) (evF ts s))
  (λ_ _ _ _=>none)
  (λ_ _ _ _=>none)
  (λ_ h=>some (.mp h.next,h.new (.mapo [] 0)))
  (λx ts h=>wH (kJ h (evF ts x)) h)
  (λe ok z m k ts h=>wH (fZ h e ok z (evF ts m) (evF ts k)) h)
  (λe m k v ts h=>mj h e (evF ts m) (evF ts k) (evF ts v))
  (λe z m k ts h=>tj h e z (evF ts m) (evF ts k))
  (λm s v ts h=>vC h (evF ts m) (evF ts s) (evF ts v))
  (λm ts h=>Cs h (evF ts m))
  (λm ts h=>vp h (evF ts m))
  (λ_ _ _=>none)
  (λit ts h=>wH (vW h (evF ts it)) h)
  (λ_ _=>none)
  (λz e t _ h=>some (.ptr h.next 0,h.newT (.cells z e false) t))
  (λz x ts h=>BO h z (evF ts x))
  (λz b s n ts h=>Dv h z b (evF ts s) (evF ts n))
  (λt s x ts h=>yt h t (evF ts s) (evF ts x))
  (λt n ts h=>Cp h t (evF ts n))
  (λx ts h=>wH (CV h (evF ts x)) h)
  (λt n x ts h=>wH (CW h t n (evF ts x)) h)
  (λx ts h=>wH (Ay (evF ts x)) h)
  (λt x n ts h=>tz h t (evF ts x) (evF ts n)) op ts h
theorem Nt {op:ROp}{ts:Tm}{h:AH}:opF op ts h=aC (RO.ev ts) h op:=by
 cases op<;>first
  | (show wH _ _=_; rw[Kj,sB]; first | rfl | (rw[Kg]; rfl))
  | (show wH _ _=_; rw[Kj]; rfl)
  | (show Fp _ _ _ _=_; rw[Fo,sB]; rfl)
  | (show yI _ _ _ _=_; rw[Bw,sB]; rfl)
  | rfl
  | (unfold opF; simp only[sB]; rfl)
noncomputable def kR (b:Bool) (x y:Option KS):Option KS:=@Bool.rec (λ_=>Option KS) y x b
noncomputable def CM (o:ROper) (b:Nat) (l:List ROper) (f:Nat) (p:List Nat) (n:Nat) (ts':Tm) (h':AH) (k:List Fr):Option KS :=
 @List.rec (Nat×ROp×Option (Nat×Bool)) (λ_=>Option KS) (some ⟨.ops b l f p (n+1) ts' h',k⟩) (λ_ _ _=>kR (eW ts' h' o.cs) (some ⟨.ops b l f p (n+1) ts' h',k⟩) none) o.cs
theorem Bb {o:ROper}{b:Nat}{l:List ROper}{f:Nat}{p:List Nat}{n:Nat}{ts':Tm}{h':AH}{k:List Fr}:CM o b l f p n ts' h' k=if eW ts' h' o.cs=true then some ⟨.ops b l f p (n+1) ts' h',k⟩ else none:=by
 unfold CM
 cases hc:o.cs with
 | nil=>simp only[yo,if_true]
 | cons c r =>
   show kR (eW ts' h' (c::r)) _ _=_
   cases eW ts' h' (c::r)<;>rfl
noncomputable def kev (o:ROper) (b:Nat) (l:List ROper) (f:Nat) (p:List Nat) (n:Nat) (ts:Tm) (h:AH) (k:List Fr):Option KS :=
 @Option.rec (AV×AH) (λ_=>ROper→Nat→List ROper→Nat→List Nat→Nat→Tm→List Fr→Option KS) (λ_ _ _ _ _ _ _ _=>none)
  (λr o b l f p n ts k=>CM o b l f p n (yh ts o.dst r.1) r.2 k)
  (@Option.rec Nat (λ_=>ROper→Nat→Tm→AH→Option (AV×AH)) (λo _ ts h=>opF o.op ts h) (λj o b ts h=>fU (RO.ev ts) h (b+j) o.op) o.nm o b ts h) o b l f p n ts k
theorem NF {o:ROper}{b:Nat}{l:List ROper}{f:Nat}{p:List Nat}{n:Nat}{ts:Tm}{h:AH}{k:List Fr} :
 kev o b l f p n ts h k=match evN b (RO.ev ts) h o with
  | some (v,h')=>if eW (cD ts o.dst v) h' o.cs=true then some ⟨.ops b l f p (n+1) (cD ts o.dst v) h',k⟩ else none
  | none=>none:=by
 have e:(@Option.rec Nat (λ_=>ROper→Nat→Tm→AH→Option (AV×AH)) (λo _ ts h=>opF o.op ts h) (λj o b ts h=>fU (RO.ev ts) h (b+j) o.op) o.nm o b ts h)=evN b (RO.ev ts) h o:=by
  unfold evN
  cases o.nm with
  | none=>exact Nt
  | some j=>rfl
 unfold kev
 rw[e]
 cases evN b (RO.ev ts) h o with
 | none=>rfl
 | some r =>
   show CM o b l f p n (yh ts o.dst r.1) r.2 k=_
   rw[Bb,yg]
noncomputable def kcv (x:RO) (args:List RO) (o:ROper) (b:Nat) (l:List ROper) (f:Nat) (p:List Nat) (n:Nat) (ts:Tm) (h:AH) (k:List Fr):Option KS :=
 match RO.ev ts x with
 | .fn g caps=>some ⟨.call g (args.map (RO.ev ts)++caps) h,.opsK b o l f p n ts::k⟩
 | .yld c=>some ⟨.round c (args.map (RO.ev ts)) h,.opsK b o l f p n ts::k⟩
 | _=>none
noncomputable def doF (op:ROp) (o:ROper) (b:Nat) (l:List ROper) (f:Nat) (p:List Nat) (n:Nat) (ts:Tm) (h:AH) (k:List Fr):Option KS :=
 @ROp.rec (λ_=>ROper→Nat→List ROper→Nat→List Nat→Nat→Tm→AH→List Fr→Option KS)
  (λ_=>kev) (λ_ _ _=>kev) (λ_ _=>kev) (λ_ _ _=>kev) (λ_ _=>kev) (λ_ _ _ _=>kev) (λ_ _ _=>kev) (λ_ _ _=>kev) (λ_=>kev) (λ_ _ _ _=>kev) (λ_ _=>kev) (λ_ _=>kev) (λ_=>kev) (λ_=>kev) (λ_=>kev) (λ_ _=>kev) (λ_ _=>kev) (λ_ _ _ _ _=>kev) (λ_ _ _=>kev) (λ_ _ _ _ _=>kev) (λ_ _ _ _ _ _=>kev) (λ_ _=>kev) (λ_ _ _ _=>kev) (λ_ _ _=>kev) (λ_ _ _ _=>kev) (λ_ _=>kev) (λ_ _ _ _ _=>kev) (λ_ _=>kev) (λ_=>kev) (λ_=>kev) (λ_=>kev) (λ_=>kev) (λ_=>kev) (λ_ _ _ _=>kev) (λ_ _ _=>kev)
  (λg args o b l f p n ts h k=>some ⟨.call g (args.map (RO.ev ts)) h,.opsK b o l f p n ts::k⟩) kcv
  kev (λ_=>kev) (λ_ _ _ _ _=>kev) (λ_ _ _ _=>kev) (λ_ _ _ _=>kev) (λ_ _ _=>kev) (λ_=>kev) (λ_=>kev) (λ_=>kev) (λ_=>kev) kev (λ_ _ _=>kev) (λ_ _=>kev) (λ_ _ _ _=>kev) (λ_ _ _=>kev) (λ_ _=>kev) (λ_=>kev) (λ_ _ _=>kev) (λ_=>kev) (λ_ _ _=>kev) op o b l f p n ts h k
noncomputable def wR (x:Option Bool) (a b:Option KS):Option KS:=@Option.rec Bool (λ_=>Option KS→Option KS→Option KS) (λ_ _=>none) (λt a b=>@Bool.rec (λ_=>Option KS) b a t) x a b
noncomputable def FB (b:Nat) (o:ROper) (l:List ROper) (f:Nat) (p:List Nat) (n:Nat) (ts:Tm) (h:AH) (k:List Fr):Option KS :=
 @Option.rec (Nat×Bool) (λ_=>ROper→Nat→List ROper→Nat→List Nat→Nat→Tm→AH→List Fr→Option KS) (λo=>doF o.op o)
  (λ_ o b l f p n ts h k=>wR (wanted ts o.guard) (doF o.op o b l f p n ts h k) (some ⟨.ops b l f p (n+1) (cD ts o.dst .un) h,k⟩)) o.guard o b l f p n ts h k
theorem NK {b:Nat}{o:ROper}{l:List ROper}{f:Nat}{p:List Nat}{n:Nat}{ts:Tm}{h:AH}{k:List Fr}:doF o.op o b l f p n ts h k=match o.op with
 | .call g args=>some ⟨.call g (args.map (RO.ev ts)) h,.opsK b o l f p n ts::k⟩
 | .callv x args=>match RO.ev ts x with
   | .fn g caps=>some ⟨.call g (args.map (RO.ev ts)++caps) h,.opsK b o l f p n ts::k⟩
   | .yld c=>some ⟨.round c (args.map (RO.ev ts)) h,.opsK b o l f p n ts::k⟩
   | _=>none
 | _=>match evN b (RO.ev ts) h o with
   | some (v,h')=>if eW (cD ts o.dst v) h' o.cs=true then some ⟨.ops b l f p (n+1) (cD ts o.dst v) h',k⟩ else none
   | none=>none:=by
 generalize hop:o.op=op
 cases op<;>first
  | exact NF
  | rfl
  | (show kcv _ _ _ _ _ _ _ _ _ _ _=_; unfold kcv; rfl)
theorem FA {b:Nat}{o:ROper}{l:List ROper}{f:Nat}{p:List Nat}{n:Nat}{ts:Tm}{h:AH}{k:List Fr}:FB b o l f p n ts h k=CD b o l f p n ts h k:=by
 have d:=NK (b:=b) (o:=o) (l:=l) (f:=f) (p:=p) (n:=n) (ts:=ts) (h:=h) (k:=k)
 unfold FB CD
 cases hg:o.guard with
 | none =>
   show doF o.op o b l f p n ts h k=_
   rw[d]
   rfl
 | some g =>
   show wR (wanted ts o.guard) _ _=_
   rw[hg]
   cases wanted ts (some g) with
   | none=>rfl
   | some t =>
     cases t with
     | false=>rfl
     | true=>exact d
noncomputable def cR (v:AV) (a b:Option KS):Option KS :=
 @AV.rec (λ_=>Option KS→Option KS→Option KS) (λ_=>PUnit) (λt a b=>@Bool.rec (λ_=>Option KS) b a t) (λ_ _ _ _=>none) (λ_ _ _=>none) (λ_ _ _ _=>none) (λ_ _=>none) (λ_ _ _ _ _ _=>none) (λ_ _=>none) (λ_ _ _=>none) (λ_ _=>none)
  (λ_ _ _ _ _=>none) (λ_ _ _=>none) (λ_ _=>none) (λ_ _ _ _ _=>none) (λ_ _=>none) (λ_ _ _ _=>none) (λ_ _ _ _=>none) (λ_ _=>none) (λ_ _=>none) PUnit.unit (λ_ _ _ _=>PUnit.unit) v a b
theorem cR_eq {v:AV}{a b:Option KS}:cR v a b=match v with
 | .bool true=>a
 | .bool false=>b
 | _=>none:=by
 cases v with
 | bool t=>cases t<;>rfl
 | _=>rfl
noncomputable def FD (c:RC) (f:Nat) (p:List Nat) (ts:Tm) (h:AH) (k:List Fr):Option KS :=
 @RC.rec (λ_=>Nat→List Nat→Tm→AH→List Fr→Option KS)
  (λ_ _ ts h k=>some ⟨.out (.norm ts h),k⟩)
  (λops f p ts h k=>some ⟨.ops h.next ops f p 0 ts h,k⟩)
  (λ_ _ _ _ _ _ _ _=>none)
  (λkn ops f p ts h k=>some ⟨.ops h.next ops f p 0 ts (h.keep kn),k⟩)
  (λa b _ _ f p ts h k=>some ⟨.code a f (0::p) ts h,.seqK b f (1::p)::k⟩)
  (λc a b _ _ f p ts h k=>cR (evF ts c) (some ⟨.code a f (0::p) ts h,k⟩) (some ⟨.code b f (1::p) ts h,k⟩))
  (λid c _ f p ts h k=>some ⟨.code c f (0::p) ts h,.blockK id::k⟩)
  (λc _ f p ts h k=>some ⟨.code c f (0::p) ts h,.loopK c f (0::p)::k⟩)
  (λfn q x ps a b _ _ f p ts h k=>ul (.rangeF fn q x ps a b) f p ts h k)
  (λid _ _ ts h k=>some ⟨.out (.exit id ts h),k⟩)
  (λ_ _ ts h k=>some ⟨.out (.ret ts h),k⟩)
  (λ_ _ _ _ _=>none) c f p ts h k
theorem CG {c:RC}{f:Nat}{p:List Nat}{ts:Tm}{h:AH}{k:List Fr}:FD c f p ts h k=ul c f p ts h k:=by
 cases c with
 | cond c a b =>
   show cR (evF ts c) _ _=_
   rw[cR_eq,sB]
   rfl
 | _=>rfl
noncomputable def Fa (o:Out) (nm:Tm→AH→Option KS) (ex:Nat→Tm→AH→Option KS) (rt:Tm→AH→Option KS):Option KS :=
 @Out.rec (λ_=>(Tm→AH→Option KS)→(Nat→Tm→AH→Option KS)→(Tm→AH→Option KS)→Option KS) (λts h nm _ _=>nm ts h) (λi ts h _ ex _=>ex i ts h) (λts h _ _ rt=>rt ts h) (λ_ _ _ _ _=>none) o nm ex rt
noncomputable def Ny (o:Out) (f:AV→AH→Option KS):Option KS :=
 @Out.rec (λ_=>(AV→AH→Option KS)→Option KS) (λ_ _ _=>none) (λ_ _ _ _=>none) (λ_ _ _=>none) (λv h f=>f v h) o f
noncomputable def MW (P:RP) (fr:Fr) (o:Out) (k:List Fr):Option KS :=
 @Fr.rec (λ_=>RP→Out→List Fr→Option KS)
  (λb f p _ o k=>Fa o (λts h=>some ⟨.code b f p ts h,k⟩) (λi ts h=>some ⟨.out (.exit i ts h),k⟩) (λts h=>some ⟨.out (.ret ts h),k⟩))
  (λc f p _ o k=>Fa o (λts h=>some ⟨.code c f p ts h,.loopK c f p::k⟩) (λi ts h=>some ⟨.out (.exit i ts h),k⟩) (λts h=>some ⟨.out (.ret ts h),k⟩))
  (λid _ o k=>some ⟨.out (o.unblock id),k⟩)
  (λf P o k=>jv P (.callK f) o k)
  (λb q l f p n ts _ o k=>Ny o λv h=>CM q b l f p n (yh ts q.dst v) h k)
  (λl ts P o k=>jv P (.rngK l ts) o k)
  (λb body f p P o k=>jv P (.asgK b body f p) o k)
  (λb P o k=>jv P (.rndK b) o k) fr P o k
theorem Fz {P:RP}{fr:Fr}{o:Out}{k:List Fr}:MW P fr o k=jv P fr o k:=by
 cases fr with
 | seqK=>cases o<;>rfl
 | loopK=>cases o<;>rfl
 | opsK b q l f p n ts =>
   cases o with
   | val v h =>
     show CM q b l f p n (yh ts q.dst v) h k=_
     rw[Bb,yg]
     rfl
   | _=>rfl
 | _=>rfl
noncomputable def rZ (P:RP) (S:KS):Option KS :=
 @Foc.rec (λ_=>RP→List Fr→Option KS)
  (λb l f p n ts h _ k=>@List.rec ROper (λ_=>Nat→Nat→List Nat→Nat→Tm→AH→List Fr→Option KS) (λ_ _ _ _ ts h k=>some ⟨.out (.norm ts h),k⟩) (λo l _ b f p n ts h k=>FB b o l f p n ts h k) l b f p n ts h k)
  (λc f p ts h _ k=>FD c f p ts h k)
  (λf args h P k=>@Option.rec RF (λ_=>Nat→List AV→AH→List Fr→Option KS) (λ_ _ _ _=>none) (λrf f args h k=>some ⟨.code rf.body f [] (bI 0 args) h,.callK f::k⟩) (P f) f args h k)
  (λb args h P k=>sd P b args h k)
  (λo P k=>@List.rec Fr (λ_=>RP→Out→Option KS) (λ_ _=>none) (λfr k _ P o=>MW P fr o k) k P o) S.f P S.k
theorem uk {P:RP}{S:KS}:rZ P S=gU P S:=by
 obtain⟨f,k⟩:=S
 cases f with
 | ops b l f p n ts h =>
   cases l with
   | nil=>rfl
   | cons o l=>exact FA
 | code c f p ts h=>exact CG
 | call f args h =>
   show @Option.rec RF (λ_=>Nat→List AV→AH→List Fr→Option KS) _ _ (P f) f args h k=_
   simp only[gU]
   cases P f<;>rfl
 | round=>rfl
 | out o =>
   cases k with
   | nil=>rfl
   | cons fr k=>exact Fz
noncomputable def vL (P:RP) (n:Nat) (S:KS):Option KS :=
 @Nat.rec (λ_=>KS→Option KS) (λS=>some S) (λ_ ih S=>@Option.rec KS (λ_=>(KS→Option KS)→Option KS) (λ_=>none) (λS' ih=>ih S') (rZ P S) ih) n S
theorem pq {P:RP}:∀ (n:Nat) (S:KS),vL P n S=mw P n S
 | 0,_=>rfl
 | n+1,S=>by
   show @Option.rec KS (λ_=>(KS→Option KS)→Option KS) (λ_=>none) (λS' ih=>ih S') (rZ P S) (vL P n)=_
   rw[uk]
   simp only[mw]
   cases gU P S with
   | none=>rfl
   | some S'=>exact pq n S'
def frT (n:Nat):Nat→Nat→Nat→T AO
 | 0,_,_=>.nil
 | f+1,a,b=>bif Nat.blt b n then .node (frT n f (2*a) (a+b)) (bif Nat.blt b 8 then none else some .resv) (frT n f (2*a) (2*a+b)) else .nil
def frH (n:Nat):AH:=⟨n,frT n 32 1 0,.nil⟩
noncomputable def gQ (P:RP) (n:Nat) (G:List Nat) (a b:PS):Bool :=
 match vL P n (a.load P) with
 | some S=>sJ G b S
 | none=>false
theorem cH {P:RP}{n:Nat}{G:List Nat}{a b:PS} (hl:gQ P n G a b=true) (hg:GoodS P (b.load P)):GoodS P (a.load P):=by
 unfold gQ at hl
 rw[pq] at hl
 exact Cx hl hg
noncomputable def vH (P:RP) (n:Nat) (a:PS):Bool :=
 match vL P n (a.load P) with
 | some S=>match S.f,S.k with
   | .out (.val (.bool true) _),[]=>true
   | _,_=>false
 | none=>false
theorem vG {P:RP}{n:Nat}{a:PS} (hl:vH P n a=true):GoodS P (a.load P):=by
 unfold vH at hl
 rw[pq] at hl
 exact vI hl
noncomputable def um (P:RP) (test:KS→Bool) (n:Nat) (S:KS):Bool :=
 @Nat.rec (λ_=>KS→Bool) (λS=>test S)
  (λ_ ih S=>@Bool.rec (λ_=>(KS→Bool)→KS→Bool)
   (λih S=>@Option.rec KS (λ_=>(KS→Bool)→KS→Bool) (λih S=>@Option.rec (List KS) (λ_=>(KS→Bool)→Bool) (λ_=>false) (λL ih=>L.all ih) (knx S) ih) (λS' ih _=>ih S') (rZ P S) ih S)
   (λ_ _=>true) (test S) ih S) n S
theorem sg {P:RP}{test:KS→Bool}:∀ (n:Nat) (S:KS),um P test n S=vM P test n S
 | 0,_=>rfl
 | n+1,S=>by
   show @Bool.rec (λ_=>(KS→Bool)→KS→Bool) _ _ (test S) (um P test n) S=_
   unfold vM
   cases test S with
   | true=>rfl
   | false =>
     show @Option.rec KS (λ_=>(KS→Bool)→KS→Bool) _ _ (rZ P S) (um P test n) S=_
     rw[uk]
     simp only
     cases gU P S with
     | some S'=>exact sg n S'
     | none =>
       simp only
       cases knx S with
       | none=>rfl
       | some L =>
         show L.all (um P test n)=L.all (vM P test n)
         rw[show um P test n=vM P test n from funext λS=>sg n S]
noncomputable def fq (P:RP) (n d:Nat) (G:List Nat) (a b:PS):Bool:=um P (GB d G b) n (a.load P)
theorem cy {P:RP}{n d:Nat}{G:List Nat}{a b:PS} (hl:fq P n d G a b=true) (hg:GoodS P (b.load P)):GoodS P (a.load P):=by
 unfold fq at hl
 rw[sg] at hl
 exact Cy hl hg
end Go.Am
