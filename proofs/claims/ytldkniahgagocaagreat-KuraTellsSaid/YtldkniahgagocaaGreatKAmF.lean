/-
  The clean machine's steps once more, each alternative closed: the kernel carries them out quicker.
-/
import Derived.Test.YtldkniahgagocaaGreatKAmG
import Derived.Test.YtldkniahgagocaaGreatKAmR
set_option linter.all false
namespace Go.Am
noncomputable def getV (t:T AV) (p:List Bool):Option AV :=
 @T.rec AV (fun _=>List Bool→Option AV) (fun _=>none)
  (fun _ v _ il ir p=>@List.rec Bool (fun _=>Option AV) v (fun b q _=>@Bool.rec (fun _=>Option AV) (ir q) (il q) b) p) t p
theorem getV_eq:∀ (t:T AV) (p:List Bool),getV t p=t.get p
 | .nil,p=>by cases p<;>rfl
 | .node l v r,[]=>rfl
 | .node l v r,true::p=>getV_eq l p
 | .node l v r,false::p=>getV_eq r p
noncomputable def setV (t:T AV) (p:List Bool) (x:AV):T AV :=
 @T.rec AV (fun _=>List Bool→AV→T AV) (fun p x=>T.fresh x p)
  (fun l v r il ir p x=>@List.rec Bool (fun _=>T AV) (.node l (some x) r) (fun b q _=>@Bool.rec (fun _=>T AV) (.node l v (ir q x)) (.node (il q x) v r) b) p) t p x
theorem setV_eq (x:AV):∀ (t:T AV) (p:List Bool),setV t p x=t.set p x
 | .nil,p=>by cases p<;>rfl
 | .node l v r,[]=>rfl
 | .node l v r,true::p=>congrArg (fun y=>T.node y v r) (setV_eq x l p)
 | .node l v r,false::p=>congrArg (fun y=>T.node l v y) (setV_eq x r p)
noncomputable def getO (t:T AO) (p:List Bool):Option AO :=
 @T.rec AO (fun _=>List Bool→Option AO) (fun _=>none)
  (fun _ v _ il ir p=>@List.rec Bool (fun _=>Option AO) v (fun b q _=>@Bool.rec (fun _=>Option AO) (ir q) (il q) b) p) t p
theorem getO_eq:∀ (t:T AO) (p:List Bool),getO t p=t.get p
 | .nil,p=>by cases p<;>rfl
 | .node l v r,[]=>rfl
 | .node l v r,true::p=>getO_eq l p
 | .node l v r,false::p=>getO_eq r p
noncomputable def setO (t:T AO) (p:List Bool) (x:AO):T AO :=
 @T.rec AO (fun _=>List Bool→AO→T AO) (fun p x=>T.fresh x p)
  (fun l v r il ir p x=>@List.rec Bool (fun _=>T AO) (.node l (some x) r) (fun b q _=>@Bool.rec (fun _=>T AO) (.node l v (ir q x)) (.node (il q x) v r) b) p) t p x
theorem setO_eq (x:AO):∀ (t:T AO) (p:List Bool),setO t p x=t.set p x
 | .nil,p=>by cases p<;>rfl
 | .node l v r,[]=>rfl
 | .node l v r,true::p=>congrArg (fun y=>T.node y v r) (setO_eq x l p)
 | .node l v r,false::p=>congrArg (fun y=>T.node l v y) (setO_eq x r p)
noncomputable def tgetF (t:Tm) (n:Nat):AV:=@Option.rec AV (fun _=>AV) AV.un (fun v=>v) (getV t (path n))
theorem tgetF_eq (t:Tm) (n:Nat):tgetF t n=tget t n:=by
 unfold tgetF tget
 rw[getV_eq]
 cases T.get t (path n)<;>rfl
noncomputable def dputF (ts:Tm) (d:Option Nat) (v:AV):Tm:=@Option.rec Nat (fun _=>Tm→AV→Tm) (fun ts _=>ts) (fun n ts v=>setV ts (path n) v) d ts v
theorem dputF_eq (ts:Tm) (d:Option Nat) (v:AV):dputF ts d v=dput ts d v:=by
 cases d with
 | none=>rfl
 | some n=>exact setV_eq v ts (path n)
noncomputable def evF (ts:Tm) (x:RO):AV:=@RO.rec (fun _=>Tm→AV) (fun n ts=>tgetF ts n) (fun v _=>v) (fun g _=>.ptr g 0) (fun f _=>.fn f []) x ts
theorem evF_eq (ts:Tm):evF ts=RO.ev ts:=by
 funext x
 cases x with
 | t n=>exact tgetF_eq ts n
 | _=>rfl
noncomputable def nthV (cs:List AV) (i:Nat):Option AV :=
 @List.rec AV (fun _=>Nat→Option AV) (fun _=>none) (fun v _ ih i=>@Nat.rec (fun _=>Option AV) (some v) (fun j _=>ih j) i) cs i
theorem nthV_eq:∀ (cs:List AV) (i:Nat),nthV cs i=cs[i]?
 | [],i=>by simp [nthV]
 | v::cs,0=>rfl
 | v::cs,i+1=>by rw[List.getElem?_cons_succ]; exact nthV_eq cs i
noncomputable def updV (cs:List AV) (i:Nat) (x:AV):Option (List AV) :=
 @List.rec AV (fun _=>Nat→AV→Option (List AV)) (fun _ _=>none)
  (fun v r ih i x=>@Nat.rec (fun _=>Option (List AV)) (some (x::r)) (fun j _=>@Option.rec (List AV) (fun _=>AV→Option (List AV)) (fun _=>none) (fun r' v=>some (v::r')) (ih j x) v) i) cs i x
theorem updV_eq (x:AV):∀ (cs:List AV) (i:Nat),updV cs i x=if i<cs.length then some (cs.set i x) else none
 | [],i=>by simp [updV]
 | v::cs,0=>by rw[if_pos (by simp)]; rfl
 | v::cs,i+1=>by
   have ih:=updV_eq x cs i
   have e:updV (v::cs) (i+1) x=@Option.rec (List AV) (fun _=>AV→Option (List AV)) (fun _=>none) (fun r' v=>some (v::r')) (updV cs i x) v:=rfl
   rw[e,ih]
   by_cases q:i<cs.length
   ·rw[if_pos q,if_pos (by simpa using q)]; rfl
   ·rw[if_neg q,if_neg (by simpa using q)]
noncomputable def onInt (v:AV) (f:IntKind→Int→Option AV) (d:Option AV):Option AV :=
 @AV.rec (fun _=>(IntKind→Int→Option AV)→Option AV→Option AV) (fun _=>PUnit) (fun _ _ d=>d) (fun k n f _=>f k n) (fun _ _ d=>d) (fun _ _ _ d=>d) (fun _ d=>d) (fun _ _ _ _ _ d=>d) (fun _ d=>d) (fun _ _ d=>d) (fun _ d=>d)
  (fun _ _ _ _ d=>d) (fun _ _ d=>d) (fun _ d=>d) (fun _ _ _ _ d=>d) (fun _ d=>d) (fun _ _ _ d=>d) (fun _ _ _ d=>d) (fun _ d=>d) (fun _ d=>d) PUnit.unit (fun _ _ _ _=>PUnit.unit) v f d
theorem onInt_self {v:AV}{f:IntKind→Int→Option AV}{d:Option AV} (h:∀ k n,v=.int k n→f k n=d):onInt v f d=d:=by
 cases v with
 | int k n=>exact h k n rfl
 | _=>rfl
noncomputable def onPtr (v:AV) (f:Nat→Nat→Option (AV×AH)) (d:Option (AV×AH)):Option (AV×AH) :=
 @AV.rec (fun _=>(Nat→Nat→Option (AV×AH))→Option (AV×AH)→Option (AV×AH)) (fun _=>PUnit) (fun _ _ d=>d) (fun _ _ _ d=>d) (fun _ _ d=>d) (fun b o f _=>f b o) (fun _ d=>d) (fun _ _ _ _ _ d=>d) (fun _ d=>d) (fun _ _ d=>d) (fun _ d=>d)
  (fun _ _ _ _ d=>d) (fun _ _ d=>d) (fun _ d=>d) (fun _ _ _ _ d=>d) (fun _ d=>d) (fun _ _ _ d=>d) (fun _ _ _ d=>d) (fun _ d=>d) (fun _ d=>d) PUnit.unit (fun _ _ _ _=>PUnit.unit) v f d
noncomputable def onCells (ao:AO) (f:List AV→Nat→Bool→Option (AV×AH)) (d:Option (AV×AH)):Option (AV×AH) :=
 @AO.rec (fun _=>(List AV→Nat→Bool→Option (AV×AH))→Option (AV×AH)→Option (AV×AH)) (fun cs e ro f _=>f cs e ro) (fun _ d=>d) (fun _ d=>d) (fun _ _ _ d=>d) (fun _ _ _ d=>d) (fun _ _ _ _ _ d=>d) (fun _ _ _ _ _ _ _ d=>d) (fun _ d=>d) ao f d
noncomputable def ikN (k:IntKind):Nat:=@IntKind.rec (fun _=>Nat) 0 1 2 3 4 5 6 7 k
theorem ikN_inj {k k':IntKind} (h:Nat.beq (ikN k) (ikN k')=true):k=k':=by
 have:=Nat.eq_of_beq_eq_true h
 cases k<;>cases k'<;>first|rfl|(exact absurd this (by decide))
noncomputable def natB (n:Int) (f:Nat→Option AV) (d:Option AV):Option AV:=@Int.rec (fun _=>(Nat→Option AV)→Option AV→Option AV) (fun n f _=>f n) (fun _ _ d=>d) n f d
theorem natB_self {n:Int}{f:Nat→Option AV}{d:Option AV} (h:∀ m:Nat,n=(m:Nat)→f m=d):natB n f d=d:=by
 cases n with
 | ofNat m=>exact h m rfl
 | negSucc m=>rfl
noncomputable def bR (b:Bool) (x y:Option AV):Option AV:=@Bool.rec (fun _=>Option AV) y x b
theorem bR_self {b:Bool}{x y:Option AV} (h:b=true→x=y):bR b x y=y:=by
 cases b with
 | false=>rfl
 | true=>exact h rfl
noncomputable def natOp (op:BinOp) (k:IntKind) (m n:Nat) (d:Option AV):Option AV :=
 @BinOp.rec (fun _=>IntKind→Nat→Nat→Option AV→Option AV)
  (fun k m n d=>bR (Nat.beq (ikN k) 3) (bR (Nat.blt (m+n) 9223372036854775808) (some (.int .i64 (Int.ofNat (m+n)))) d) d)
  (fun k m n d=>bR (Nat.beq (ikN k) 3) (bR (Nat.ble n m) (bR (Nat.blt m 9223372036854775808) (some (.int .i64 (Int.ofNat (m-n)))) d) d) d)
  (fun _ _ _ d=>d) (fun _ _ _ d=>d) (fun _ _ _ d=>d) (fun _ _ _ d=>d) (fun _ _ _ d=>d) (fun _ _ _ d=>d) (fun _ _ _ d=>d) (fun _ _ _ d=>d) (fun _ _ _ d=>d)
  (fun _ m n _=>some (.bool (Nat.beq m n))) (fun _ m n _=>some (.bool (!Nat.beq m n))) (fun _ m n _=>some (.bool (Nat.blt m n))) (fun _ m n _=>some (.bool (Nat.ble m n))) (fun _ m n _=>some (.bool (Nat.blt n m))) (fun _ m n _=>some (.bool (Nat.ble n m))) op k m n d
theorem ik3 {k:IntKind} (h:Nat.beq (ikN k) 3=true):k=.i64:=ikN_inj (k':=.i64) h
theorem wrap_in {n:Int} (h0:0≤n) (h1:n<9223372036854775808):IntKind.i64.wrap n=n:=by
 unfold IntKind.wrap
 have e:(2 ^ IntKind.i64.bits:Int)=18446744073709551616:=by decide
 have e2:(2 ^ (IntKind.i64.bits-1):Int)=9223372036854775808:=by decide
 rw[e,e2,Int.emod_eq_of_lt h0 (by omega)]
 simp only[IntKind.signed,Bool.true_and,ge_iff_le,decide_eq_true_eq]
 rw[if_neg (by omega)]
theorem natOp_eq {op:BinOp}{e:RE}{k:IntKind}{m n:Nat}:natOp op k m n (binA op e (.int k (m:Nat)) (.int k (n:Nat)))=binA op e (.int k (m:Nat)) (.int k (n:Nat)):=by
 cases op with
 | add =>
   refine bR_self fun h=>bR_self fun h2=>?_
   cases ik3 h
   have h2:m+n<9223372036854775808:=Nat.lt_of_lt_of_le (Nat.lt_succ_self _) (Nat.le_of_ble_eq_true h2)
   simp only[binA,binInt,reduceCtorEq,or_self,if_false,if_true]
   rw[wrap_in (by omega) (by omega)]
   rfl
 | sub =>
   refine bR_self fun h=>bR_self fun h2=>bR_self fun h3=>?_
   cases ik3 h
   have h2:n≤m:=Nat.le_of_ble_eq_true h2
   have h3:m<9223372036854775808:=Nat.lt_of_lt_of_le (Nat.lt_succ_self _) (Nat.le_of_ble_eq_true h3)
   simp only[binA,binInt,reduceCtorEq,or_self,if_false,if_true]
   rw[wrap_in (by omega) (by omega)]
   rw[← Int.ofNat_sub h2]
   rfl
 | eql =>
   show some (AV.bool (Nat.beq m n))=_
   simp only[binA,binInt,reduceCtorEq,or_self,if_false,if_true]
   congr 2
   rw[Bool.eq_iff_iff,Nat.beq_eq]
   simp only[beq_iff_eq]
   omega
 | neq =>
   show some (AV.bool (!Nat.beq m n))=_
   simp only[binA,binInt,reduceCtorEq,or_self,if_false,if_true]
   congr 2
   rw[Bool.eq_iff_iff,Bool.not_eq_true',← Bool.not_eq_true,Nat.beq_eq]
   simp only[bne_iff_ne]
   omega
 | lss =>
   show some (AV.bool (Nat.blt m n))=_
   simp only[binA,binInt,reduceCtorEq,or_self,if_false,if_true]
   congr 2
   rw[Bool.eq_iff_iff,Nat.blt_eq]
   simp only[decide_eq_true_eq]
   omega
 | leq =>
   show some (AV.bool (Nat.ble m n))=_
   simp only[binA,binInt,reduceCtorEq,or_self,if_false,if_true]
   congr 2
   rw[Bool.eq_iff_iff,Nat.ble_eq]
   simp only[decide_eq_true_eq]
   omega
 | gtr =>
   show some (AV.bool (Nat.blt n m))=_
   simp only[binA,binInt,reduceCtorEq,or_self,if_false,if_true]
   congr 2
   rw[Bool.eq_iff_iff,Nat.blt_eq]
   simp only[decide_eq_true_eq,gt_iff_lt]
   omega
 | geq =>
   show some (AV.bool (Nat.ble n m))=_
   simp only[binA,binInt,reduceCtorEq,or_self,if_false,if_true]
   congr 2
   rw[Bool.eq_iff_iff,Nat.ble_eq]
   simp only[decide_eq_true_eq,ge_iff_le]
   omega
 | _=>rfl
noncomputable def binF (op:BinOp) (e:RE) (x y:AV):Option AV :=
 onInt x (fun k a=>onInt y (fun k' b=>bR (Nat.beq (ikN k) (ikN k')) (natB a (fun m=>natB b (fun n=>natOp op k m n (binA op e x y)) (binA op e x y)) (binA op e x y)) (binA op e x y)) (binA op e x y)) (binA op e x y)
theorem binF_eq {op:BinOp}{e:RE}{x y:AV}:binF op e x y=binA op e x y:=by
 unfold binF
 refine onInt_self fun k a ha=>onInt_self fun k' b hb=>bR_self fun hk=>natB_self fun m hm=>natB_self fun n hn=>?_
 have:=ikN_inj hk
 subst this hm hn ha hb
 exact natOp_eq
noncomputable def hR (b:Bool) (x y:Option (AV×AH)):Option (AV×AH):=@Bool.rec (fun _=>Option (AV×AH)) y x b
theorem hR_self {b:Bool}{x y:Option (AV×AH)} (h:b=true→x=y):hR b x y=y:=by
 cases b with
 | false=>rfl
 | true=>exact h rfl
noncomputable def load1 (h:AH) (a:AV):Option (AV×AH) :=
 onPtr a (fun b o=>hR (Nat.blt b h.next) (@Option.rec AO (fun _=>Nat→AH→Option (AV×AH)) (fun _ _=>none) (fun ao o h=>onCells ao (fun cs _ _=>@Option.rec AV (fun _=>AH→Option (AV×AH)) (fun _=>none) (fun v h=>some (v,h)) (nthV cs o) h) none) (getO h.t (path b)) o h) none) none
theorem rd1 {h:AH}{b o:Nat}:rdCells h b o 1=match h.get b with
 | some (.cells cs _ _)=>(cs[o]?).map fun v=>[v]
 | _=>none:=by
 unfold rdCells
 cases h.get b with
 | none=>rfl
 | some ao =>
   cases ao with
   | cells cs e ro =>
     simp only
     by_cases q:o+1≤cs.length
     ·rw[if_pos q,List.drop_eq_getElem_cons (by omega),List.getElem?_eq_getElem (by omega)]
      rfl
     ·rw[if_neg q,List.getElem?_eq_none (by omega)]
      rfl
   | _=>rfl
theorem get_eq {h:AH}{b:Nat}:h.get b=if Nat.blt b h.next then getO h.t (path b) else none:=by
 unfold AH.get
 rw[getO_eq]
 by_cases q:b<h.next
 ·rw[if_pos q,if_pos (by rw[Nat.blt_eq]; exact q)]
 ·rw[if_neg q,if_neg (by rw[Nat.blt_eq]; exact q)]
theorem load1_eq {h:AH}{a:AV}:load1 h a=loadA h false 1 a:=by
 unfold load1 loadA
 cases a with
 | ptr b o =>
   show hR _ _ _=_
   simp only
   rw[rd1,get_eq]
   cases Nat.blt b h.next with
   | false=>rfl
   | true =>
     simp only[if_true]
     show @Option.rec AO (fun _=>Nat→AH→Option (AV×AH)) _ _ (getO h.t (path b)) o h=_
     cases getO h.t (path b) with
     | none=>rfl
     | some ao =>
       cases ao with
       | cells cs e ro =>
         show @Option.rec AV (fun _=>AH→Option (AV×AH)) _ _ (nthV cs o) h=_
         rw[nthV_eq]
         simp only
         cases cs[o]?<;>rfl
       | _=>rfl
 | _=>rfl
noncomputable def oneC (v:AV):Bool :=
 @AV.rec (fun _=>Bool) (fun _=>PUnit) (fun _=>true) (fun _ _=>true) (fun _=>true) (fun _ _=>true) true (fun _ _ _ _=>true) true (fun _=>true) true
  (fun _ _ _=>true) (fun _=>true) true (fun _ _ _=>true) true (fun _ _=>false) (fun _ _=>false) true true PUnit.unit (fun _ _ _ _=>PUnit.unit) v
theorem oneC_spec {v:AV} (h:oneC v=true):v.cells=[v]∧v.one=true:=by
 cases v<;>first|exact⟨rfl,rfl⟩|(cases h)
noncomputable def store1 (h:AH) (a v:AV):Option (AV×AH) :=
 onPtr a (fun b o=>hR (oneC v) (hR (Nat.blt b h.next) (@Option.rec AO (fun _=>Nat→Nat→AV→AH→Option (AV×AH)) (fun _ _ _ _=>none) (fun ao b o v h=>onCells ao (fun cs e ro=>@Bool.rec (fun _=>Option (AV×AH))
  (@Option.rec (List AV) (fun _=>Nat→Nat→AH→Option (AV×AH)) (fun _ _ _=>none) (fun cs' e b h=>some (.un,⟨h.next,setO h.t (path b) (.cells cs' e false),h.ty⟩)) (updV cs o v) e b h) none ro) none) (getO h.t (path b)) b o v h) none) (storeA h 1 a v)) none
theorem store1_eq {h:AH}{a v:AV}:store1 h a v=storeA h 1 a v:=by
 unfold store1
 cases a with
 | ptr b o =>
   show hR (oneC v) _ _=_
   refine hR_self fun h1=>?_
   obtain⟨h2,h3⟩:=oneC_spec h1
   simp only[storeA,h2,List.length_cons,List.length_nil,List.all_cons,List.all_nil,h3,Bool.and_true,Nat.zero_add,and_self,if_true]
   unfold wrCells
   rw[get_eq]
   cases Nat.blt b h.next with
   | false=>rfl
   | true =>
     simp only[if_true]
     show @Option.rec AO (fun _=>Nat→Nat→AV→AH→Option (AV×AH)) _ _ (getO h.t (path b)) b o v h=_
     cases getO h.t (path b) with
     | none=>rfl
     | some ao =>
       cases ao with
       | cells cs e ro =>
         cases ro with
         | true=>rfl
         | false =>
           show @Option.rec (List AV) (fun _=>Nat→Nat→AH→Option (AV×AH)) _ _ (updV cs o v) e b h=_
           rw[updV_eq]
           simp only[List.length_cons,List.length_nil,Nat.zero_add]
           by_cases q:o<cs.length
           ·rw[if_pos q,if_pos (by omega),splice_set q]
            show some _=some _
            rw[setO_eq]
            rfl
           ·rw[if_neg q,if_neg (by omega)]
            rfl
       | _=>rfl
 | _=>rfl
noncomputable def loadF (ag:Bool) (n:Nat) (h:AH) (a:AV):Option (AV×AH) :=
 @Bool.rec (fun _=>Nat→AH→AV→Option (AV×AH)) (fun n h a=>hR (Nat.beq n 1) (load1 h a) (loadA h false n a)) (fun n h a=>loadA h true n a) ag n h a
theorem loadF_eq {ag:Bool}{n:Nat}{h:AH}{a:AV}:loadF ag n h a=loadA h ag n a:=by
 cases ag with
 | true=>rfl
 | false =>
   refine hR_self fun q=>?_
   have:=Nat.eq_of_beq_eq_true q
   subst this
   exact load1_eq
noncomputable def storeF (n:Nat) (h:AH) (a v:AV):Option (AV×AH):=hR (Nat.beq n 1) (store1 h a v) (storeA h n a v)
theorem storeF_eq {n:Nat}{h:AH}{a v:AV}:storeF n h a v=storeA h n a v:=by
 refine hR_self fun q=>?_
 have:=Nat.eq_of_beq_eq_true q
 subst this
 exact store1_eq
noncomputable def wH (x:Option AV) (h:AH):Option (AV×AH):=@Option.rec AV (fun _=>AH→Option (AV×AH)) (fun _=>none) (fun v h=>some (v,h)) x h
theorem wH_eq {x:Option AV}{h:AH}:wH x h=x.map (·,h):=by cases x<;>rfl
noncomputable def opF (op:ROp) (ts:Tm) (h:AH):Option (AV×AH) :=
 @ROp.rec (fun _=>Tm→AH→Option (AV×AH))
  (fun x ts h=>some (evF ts x,h))
  (fun c a b ts h=>wH (pickA (evF ts c) (evF ts a) (evF ts b)) h)
  (fun z e _ h=>some (.ptr h.next 0,h.new (.cells z e false)))
  (fun e n x ts h=>boxA h e n (evF ts x))
  (fun z ps ts h=>(fill (RO.ev ts) z ps).map fun cs=>(.agg cs,h))
  (fun z e n ps ts h=>(fill (RO.ev ts) (repl z n) ps).map fun cs=>(.sl h.next 0 n n,h.new (.cells cs e false)))
  (fun ag n a ts h=>loadF ag n h (evF ts a))
  (fun n a v ts h=>storeF n h (evF ts a) (evF ts v))
  (fun x ts h=>wH (nilckA (evF ts x)) h)
  (fun op e x y ts h=>wH (binF op e (evF ts x) (evF ts y)) h)
  (fun op x ts h=>wH (unA op (evF ts x)) h)
  (fun k x ts h=>wH (cvIA k (evF ts x)) h)
  (fun x ts h=>wH (cvBSA h (evF ts x)) h)
  (fun x ts h=>cvSBA h (evF ts x))
  (fun x ts h=>wH (cvSSA h (evF ts x)) h)
  (fun t x ts h=>some (.ifc t (evF ts x),h))
  (fun f cs ts h=>some (.fn f (cs.map (RO.ev ts)),h))
  (fun z e bytes l c ts h=>mksA h z e bytes (evF ts l) (evF ts c))
  (fun x lo hi ts h=>wH (slSA (RO.ev ts) (evF ts x) lo hi) h)
  (fun e x lo hi mx ts h=>wH (slLA (RO.ev ts) h e (evF ts x) lo hi mx) h)
  (fun n e x lo hi mx ts h=>wH (slAA (RO.ev ts) n e (evF ts x) lo hi mx) h)
  (fun off x ts h=>wH (fadrA off (evF ts x)) h)
  (fun ag off n x ts h=>wH (fldA ag off n (evF ts x)) h)
  (fun e x i ts h=>wH (iadrL e (evF ts x) (evF ts i)) h)
  (fun n e x i ts h=>wH (iadrR n e (evF ts x) (evF ts i)) h)
  (fun x i ts h=>wH (idxSA (evF ts x) (evF ts i)) h)
  (fun ag n e x i ts h=>wH (idxAA ag n e (evF ts x) (evF ts i)) h)
  (fun x i ts h=>wH (extA (evF ts x) i) h)
  (fun x ts h=>wH (lenLA (evF ts x)) h)
  (fun x ts h=>wH (lenSA (evF ts x)) h)
  (fun x ts h=>wH (capA (evF ts x)) h)
  (fun xs ts h=>wH (foldA mxA (xs.map (RO.ev ts))) h)
  (fun xs ts h=>wH (foldA mnA (xs.map (RO.ev ts))) h)
  (fun e bytes s x ts h=>appA h e bytes (evF ts s) (evF ts x))
  (fun e d s ts h=>cpyA h e (evF ts d) (evF ts s))
  (fun _ _ _ _=>none)
  (fun _ _ _ _=>none)
  (fun _ h=>some (.mp h.next,h.new (.mapo [] 0)))
  (fun x ts h=>wH (lenMA h (evF ts x)) h)
  (fun e ok z m k ts h=>wH (mlkA h e ok z (evF ts m) (evF ts k)) h)
  (fun e m k v ts h=>mupA h e (evF ts m) (evF ts k) (evF ts v))
  (fun e z m k ts h=>menA h e z (evF ts m) (evF ts k))
  (fun m s v ts h=>mstA h (evF ts m) (evF ts s) (evF ts v))
  (fun m ts h=>mclA h (evF ts m))
  (fun m ts h=>rgMA h (evF ts m))
  (fun _ _ _=>none)
  (fun it ts h=>wH (entA h (evF ts it)) h)
  (fun _ _=>none)
  (fun z e t _ h=>some (.ptr h.next 0,h.newT (.cells z e false) t))
  (fun z x ts h=>sclA h z (evF ts x))
  (fun z b s n ts h=>apzA h z b (evF ts s) (evF ts n))
  (fun t s x ts h=>appBA h t (evF ts s) (evF ts x))
  (fun t n ts h=>mkzA h t (evF ts n))
  (fun x ts h=>wH (cvUA h (evF ts x)) h)
  (fun t n x ts h=>wH (cvPA h t n (evF ts x)) h)
  (fun x ts h=>wH (sdatA (evF ts x)) h)
  (fun t x n ts h=>ustrA h t (evF ts x) (evF ts n)) op ts h
theorem opF_eq {op:ROp}{ts:Tm}{h:AH}:opF op ts h=evOp (RO.ev ts) h op:=by
 cases op<;>first
  | (show wH _ _=_; rw[wH_eq,evF_eq]; first | rfl | (rw[binF_eq]; rfl))
  | (show wH _ _=_; rw[wH_eq]; rfl)
  | (show loadF _ _ _ _=_; rw[loadF_eq,evF_eq]; rfl)
  | (show storeF _ _ _ _=_; rw[storeF_eq,evF_eq]; rfl)
  | rfl
  | (unfold opF; simp only[evF_eq]; rfl)
noncomputable def kR (b:Bool) (x y:Option KS):Option KS:=@Bool.rec (fun _=>Option KS) y x b
noncomputable def finF (o:ROper) (b:Nat) (l:List ROper) (f:Nat) (p:List Nat) (n:Nat) (ts':Tm) (h':AH) (k:List Fr):Option KS :=
 @List.rec (Nat×ROp×Option (Nat×Bool)) (fun _=>Option KS) (some ⟨.ops b l f p (n+1) ts' h',k⟩) (fun _ _ _=>kR (chks ts' h' o.cs) (some ⟨.ops b l f p (n+1) ts' h',k⟩) none) o.cs
theorem finF_eq {o:ROper}{b:Nat}{l:List ROper}{f:Nat}{p:List Nat}{n:Nat}{ts':Tm}{h':AH}{k:List Fr}:finF o b l f p n ts' h' k=if chks ts' h' o.cs=true then some ⟨.ops b l f p (n+1) ts' h',k⟩ else none:=by
 unfold finF
 cases hc:o.cs with
 | nil=>simp only[chks_nil,if_true]
 | cons c r =>
   show kR (chks ts' h' (c::r)) _ _=_
   cases chks ts' h' (c::r)<;>rfl
noncomputable def kev (o:ROper) (b:Nat) (l:List ROper) (f:Nat) (p:List Nat) (n:Nat) (ts:Tm) (h:AH) (k:List Fr):Option KS :=
 @Option.rec (AV×AH) (fun _=>ROper→Nat→List ROper→Nat→List Nat→Nat→Tm→List Fr→Option KS) (fun _ _ _ _ _ _ _ _=>none)
  (fun r o b l f p n ts k=>finF o b l f p n (dputF ts o.dst r.1) r.2 k)
  (@Option.rec Nat (fun _=>ROper→Nat→Tm→AH→Option (AV×AH)) (fun o _ ts h=>opF o.op ts h) (fun j o b ts h=>evNew (RO.ev ts) h (b+j) o.op) o.nm o b ts h) o b l f p n ts k
theorem kev_eq {o:ROper}{b:Nat}{l:List ROper}{f:Nat}{p:List Nat}{n:Nat}{ts:Tm}{h:AH}{k:List Fr} :
 kev o b l f p n ts h k=match evN b (RO.ev ts) h o with
  | some (v,h')=>if chks (dput ts o.dst v) h' o.cs=true then some ⟨.ops b l f p (n+1) (dput ts o.dst v) h',k⟩ else none
  | none=>none:=by
 have e:(@Option.rec Nat (fun _=>ROper→Nat→Tm→AH→Option (AV×AH)) (fun o _ ts h=>opF o.op ts h) (fun j o b ts h=>evNew (RO.ev ts) h (b+j) o.op) o.nm o b ts h)=evN b (RO.ev ts) h o:=by
  unfold evN
  cases o.nm with
  | none=>exact opF_eq
  | some j=>rfl
 unfold kev
 rw[e]
 cases evN b (RO.ev ts) h o with
 | none=>rfl
 | some r =>
   show finF o b l f p n (dputF ts o.dst r.1) r.2 k=_
   rw[finF_eq,dputF_eq]
noncomputable def kcv (x:RO) (args:List RO) (o:ROper) (b:Nat) (l:List ROper) (f:Nat) (p:List Nat) (n:Nat) (ts:Tm) (h:AH) (k:List Fr):Option KS :=
 match RO.ev ts x with
 | .fn g caps=>some ⟨.call g (args.map (RO.ev ts)++caps) h,.opsK b o l f p n ts::k⟩
 | .yld c=>some ⟨.round c (args.map (RO.ev ts)) h,.opsK b o l f p n ts::k⟩
 | _=>none
noncomputable def doF (op:ROp) (o:ROper) (b:Nat) (l:List ROper) (f:Nat) (p:List Nat) (n:Nat) (ts:Tm) (h:AH) (k:List Fr):Option KS :=
 @ROp.rec (fun _=>ROper→Nat→List ROper→Nat→List Nat→Nat→Tm→AH→List Fr→Option KS)
  (fun _=>kev) (fun _ _ _=>kev) (fun _ _=>kev) (fun _ _ _=>kev) (fun _ _=>kev) (fun _ _ _ _=>kev) (fun _ _ _=>kev) (fun _ _ _=>kev) (fun _=>kev) (fun _ _ _ _=>kev) (fun _ _=>kev) (fun _ _=>kev) (fun _=>kev) (fun _=>kev) (fun _=>kev) (fun _ _=>kev) (fun _ _=>kev) (fun _ _ _ _ _=>kev) (fun _ _ _=>kev) (fun _ _ _ _ _=>kev) (fun _ _ _ _ _ _=>kev) (fun _ _=>kev) (fun _ _ _ _=>kev) (fun _ _ _=>kev) (fun _ _ _ _=>kev) (fun _ _=>kev) (fun _ _ _ _ _=>kev) (fun _ _=>kev) (fun _=>kev) (fun _=>kev) (fun _=>kev) (fun _=>kev) (fun _=>kev) (fun _ _ _ _=>kev) (fun _ _ _=>kev)
  (fun g args o b l f p n ts h k=>some ⟨.call g (args.map (RO.ev ts)) h,.opsK b o l f p n ts::k⟩) kcv
  kev (fun _=>kev) (fun _ _ _ _ _=>kev) (fun _ _ _ _=>kev) (fun _ _ _ _=>kev) (fun _ _ _=>kev) (fun _=>kev) (fun _=>kev) (fun _=>kev) (fun _=>kev) kev (fun _ _ _=>kev) (fun _ _=>kev) (fun _ _ _ _=>kev) (fun _ _ _=>kev) (fun _ _=>kev) (fun _=>kev) (fun _ _ _=>kev) (fun _=>kev) (fun _ _ _=>kev) op o b l f p n ts h k
noncomputable def wR (x:Option Bool) (a b:Option KS):Option KS:=@Option.rec Bool (fun _=>Option KS→Option KS→Option KS) (fun _ _=>none) (fun t a b=>@Bool.rec (fun _=>Option KS) b a t) x a b
noncomputable def kopsF (b:Nat) (o:ROper) (l:List ROper) (f:Nat) (p:List Nat) (n:Nat) (ts:Tm) (h:AH) (k:List Fr):Option KS :=
 @Option.rec (Nat×Bool) (fun _=>ROper→Nat→List ROper→Nat→List Nat→Nat→Tm→AH→List Fr→Option KS) (fun o=>doF o.op o)
  (fun _ o b l f p n ts h k=>wR (wanted ts o.guard) (doF o.op o b l f p n ts h k) (some ⟨.ops b l f p (n+1) (dput ts o.dst .un) h,k⟩)) o.guard o b l f p n ts h k
theorem doF_eq {b:Nat}{o:ROper}{l:List ROper}{f:Nat}{p:List Nat}{n:Nat}{ts:Tm}{h:AH}{k:List Fr}:doF o.op o b l f p n ts h k=match o.op with
 | .call g args=>some ⟨.call g (args.map (RO.ev ts)) h,.opsK b o l f p n ts::k⟩
 | .callv x args=>match RO.ev ts x with
   | .fn g caps=>some ⟨.call g (args.map (RO.ev ts)++caps) h,.opsK b o l f p n ts::k⟩
   | .yld c=>some ⟨.round c (args.map (RO.ev ts)) h,.opsK b o l f p n ts::k⟩
   | _=>none
 | _=>match evN b (RO.ev ts) h o with
   | some (v,h')=>if chks (dput ts o.dst v) h' o.cs=true then some ⟨.ops b l f p (n+1) (dput ts o.dst v) h',k⟩ else none
   | none=>none:=by
 generalize hop:o.op=op
 cases op<;>first
  | exact kev_eq
  | rfl
  | (show kcv _ _ _ _ _ _ _ _ _ _ _=_; unfold kcv; rfl)
theorem kopsF_eq {b:Nat}{o:ROper}{l:List ROper}{f:Nat}{p:List Nat}{n:Nat}{ts:Tm}{h:AH}{k:List Fr}:kopsF b o l f p n ts h k=kops b o l f p n ts h k:=by
 have d:=doF_eq (b:=b) (o:=o) (l:=l) (f:=f) (p:=p) (n:=n) (ts:=ts) (h:=h) (k:=k)
 unfold kopsF kops
 cases hg:o.guard with
 | none =>
   show doF o.op o b l f p n ts h k=_
   rw[d]
   rfl
 | some g =>
   show wR (wanted ts o.guard) _ _=_
   rw[hg]
   cases wanted ts (some g) with
   | none=>rfl
   | some t =>
     cases t with
     | false=>rfl
     | true=>exact d
noncomputable def cR (v:AV) (a b:Option KS):Option KS :=
 @AV.rec (fun _=>Option KS→Option KS→Option KS) (fun _=>PUnit) (fun t a b=>@Bool.rec (fun _=>Option KS) b a t) (fun _ _ _ _=>none) (fun _ _ _=>none) (fun _ _ _ _=>none) (fun _ _=>none) (fun _ _ _ _ _ _=>none) (fun _ _=>none) (fun _ _ _=>none) (fun _ _=>none)
  (fun _ _ _ _ _=>none) (fun _ _ _=>none) (fun _ _=>none) (fun _ _ _ _ _=>none) (fun _ _=>none) (fun _ _ _ _=>none) (fun _ _ _ _=>none) (fun _ _=>none) (fun _ _=>none) PUnit.unit (fun _ _ _ _=>PUnit.unit) v a b
theorem cR_eq {v:AV}{a b:Option KS}:cR v a b=match v with
 | .bool true=>a
 | .bool false=>b
 | _=>none:=by
 cases v with
 | bool t=>cases t<;>rfl
 | _=>rfl
noncomputable def kcodeF (c:RC) (f:Nat) (p:List Nat) (ts:Tm) (h:AH) (k:List Fr):Option KS :=
 @RC.rec (fun _=>Nat→List Nat→Tm→AH→List Fr→Option KS)
  (fun _ _ ts h k=>some ⟨.out (.norm ts h),k⟩)
  (fun ops f p ts h k=>some ⟨.ops h.next ops f p 0 ts h,k⟩)
  (fun _ _ _ _ _ _ _ _=>none)
  (fun kn ops f p ts h k=>some ⟨.ops h.next ops f p 0 ts (h.keep kn),k⟩)
  (fun a b _ _ f p ts h k=>some ⟨.code a f (0::p) ts h,.seqK b f (1::p)::k⟩)
  (fun c a b _ _ f p ts h k=>cR (evF ts c) (some ⟨.code a f (0::p) ts h,k⟩) (some ⟨.code b f (1::p) ts h,k⟩))
  (fun id c _ f p ts h k=>some ⟨.code c f (0::p) ts h,.blockK id::k⟩)
  (fun c _ f p ts h k=>some ⟨.code c f (0::p) ts h,.loopK c f (0::p)::k⟩)
  (fun fn q x ps a b _ _ f p ts h k=>kcode (.rangeF fn q x ps a b) f p ts h k)
  (fun id _ _ ts h k=>some ⟨.out (.exit id ts h),k⟩)
  (fun _ _ ts h k=>some ⟨.out (.ret ts h),k⟩)
  (fun _ _ _ _ _=>none) c f p ts h k
theorem kcodeF_eq {c:RC}{f:Nat}{p:List Nat}{ts:Tm}{h:AH}{k:List Fr}:kcodeF c f p ts h k=kcode c f p ts h k:=by
 cases c with
 | cond c a b =>
   show cR (evF ts c) _ _=_
   rw[cR_eq,evF_eq]
   rfl
 | _=>rfl
noncomputable def onOutK (o:Out) (nm:Tm→AH→Option KS) (ex:Nat→Tm→AH→Option KS) (rt:Tm→AH→Option KS):Option KS :=
 @Out.rec (fun _=>(Tm→AH→Option KS)→(Nat→Tm→AH→Option KS)→(Tm→AH→Option KS)→Option KS) (fun ts h nm _ _=>nm ts h) (fun i ts h _ ex _=>ex i ts h) (fun ts h _ _ rt=>rt ts h) (fun _ _ _ _ _=>none) o nm ex rt
noncomputable def onValK (o:Out) (f:AV→AH→Option KS):Option KS :=
 @Out.rec (fun _=>(AV→AH→Option KS)→Option KS) (fun _ _ _=>none) (fun _ _ _ _=>none) (fun _ _ _=>none) (fun v h f=>f v h) o f
noncomputable def koutF (P:RP) (fr:Fr) (o:Out) (k:List Fr):Option KS :=
 @Fr.rec (fun _=>RP→Out→List Fr→Option KS)
  (fun b f p _ o k=>onOutK o (fun ts h=>some ⟨.code b f p ts h,k⟩) (fun i ts h=>some ⟨.out (.exit i ts h),k⟩) (fun ts h=>some ⟨.out (.ret ts h),k⟩))
  (fun c f p _ o k=>onOutK o (fun ts h=>some ⟨.code c f p ts h,.loopK c f p::k⟩) (fun i ts h=>some ⟨.out (.exit i ts h),k⟩) (fun ts h=>some ⟨.out (.ret ts h),k⟩))
  (fun id _ o k=>some ⟨.out (o.unblock id),k⟩)
  (fun f P o k=>kout P (.callK f) o k)
  (fun b q l f p n ts _ o k=>onValK o fun v h=>finF q b l f p n (dputF ts q.dst v) h k)
  (fun l ts P o k=>kout P (.rngK l ts) o k)
  (fun b body f p P o k=>kout P (.asgK b body f p) o k)
  (fun b P o k=>kout P (.rndK b) o k) fr P o k
theorem koutF_eq {P:RP}{fr:Fr}{o:Out}{k:List Fr}:koutF P fr o k=kout P fr o k:=by
 cases fr with
 | seqK=>cases o<;>rfl
 | loopK=>cases o<;>rfl
 | opsK b q l f p n ts =>
   cases o with
   | val v h =>
     show finF q b l f p n (dputF ts q.dst v) h k=_
     rw[finF_eq,dputF_eq]
     rfl
   | _=>rfl
 | _=>rfl
noncomputable def kstepF (P:RP) (S:KS):Option KS :=
 @Foc.rec (fun _=>RP→List Fr→Option KS)
  (fun b l f p n ts h _ k=>@List.rec ROper (fun _=>Nat→Nat→List Nat→Nat→Tm→AH→List Fr→Option KS) (fun _ _ _ _ ts h k=>some ⟨.out (.norm ts h),k⟩) (fun o l _ b f p n ts h k=>kopsF b o l f p n ts h k) l b f p n ts h k)
  (fun c f p ts h _ k=>kcodeF c f p ts h k)
  (fun f args h P k=>@Option.rec RF (fun _=>Nat→List AV→AH→List Fr→Option KS) (fun _ _ _ _=>none) (fun rf f args h k=>some ⟨.code rf.body f [] (initTm 0 args) h,.callK f::k⟩) (P f) f args h k)
  (fun b args h P k=>kround P b args h k)
  (fun o P k=>@List.rec Fr (fun _=>RP→Out→Option KS) (fun _ _=>none) (fun fr k _ P o=>koutF P fr o k) k P o) S.f P S.k
theorem kstepF_eq {P:RP}{S:KS}:kstepF P S=kstep P S:=by
 obtain⟨f,k⟩:=S
 cases f with
 | ops b l f p n ts h =>
   cases l with
   | nil=>rfl
   | cons o l=>exact kopsF_eq
 | code c f p ts h=>exact kcodeF_eq
 | call f args h =>
   show @Option.rec RF (fun _=>Nat→List AV→AH→List Fr→Option KS) _ _ (P f) f args h k=_
   simp only[kstep]
   cases P f<;>rfl
 | round=>rfl
 | out o =>
   cases k with
   | nil=>rfl
   | cons fr k=>exact koutF_eq
noncomputable def krunsF (P:RP) (n:Nat) (S:KS):Option KS :=
 @Nat.rec (fun _=>KS→Option KS) (fun S=>some S) (fun _ ih S=>@Option.rec KS (fun _=>(KS→Option KS)→Option KS) (fun _=>none) (fun S' ih=>ih S') (kstepF P S) ih) n S
theorem krunsF_eq {P:RP}:∀ (n:Nat) (S:KS),krunsF P n S=kruns P n S
 | 0,_=>rfl
 | n+1,S=>by
   show @Option.rec KS (fun _=>(KS→Option KS)→Option KS) (fun _=>none) (fun S' ih=>ih S') (kstepF P S) (krunsF P n)=_
   rw[kstepF_eq]
   simp only[kruns]
   cases kstep P S with
   | none=>rfl
   | some S'=>exact krunsF_eq n S'
def frT (n:Nat):Nat→Nat→Nat→T AO
 | 0,_,_=>.nil
 | f+1,a,b=>bif Nat.blt b n then .node (frT n f (2*a) (a+b)) (bif Nat.blt b 8 then none else some .resv) (frT n f (2*a) (2*a+b)) else .nil
def frH (n:Nat):AH:=⟨n,frT n 32 1 0,.nil⟩
noncomputable def legF (P:RP) (n:Nat) (G:List Nat) (a b:PS):Bool :=
 match krunsF P n (a.load P) with
 | some S=>coverS G b S
 | none=>false
theorem legF_good {P:RP}{n:Nat}{G:List Nat}{a b:PS} (hl:legF P n G a b=true) (hg:GoodS P (b.load P)):GoodS P (a.load P):=by
 unfold legF at hl
 rw[krunsF_eq] at hl
 exact legS_good hl hg
noncomputable def legFEnd (P:RP) (n:Nat) (a:PS):Bool :=
 match krunsF P n (a.load P) with
 | some S=>match S.f,S.k with
   | .out (.val (.bool true) _),[]=>true
   | _,_=>false
 | none=>false
theorem legFEnd_good {P:RP}{n:Nat}{a:PS} (hl:legFEnd P n a=true):GoodS P (a.load P):=by
 unfold legFEnd at hl
 rw[krunsF_eq] at hl
 exact legEnd_goodS hl
noncomputable def kallF (P:RP) (test:KS→Bool) (n:Nat) (S:KS):Bool :=
 @Nat.rec (fun _=>KS→Bool) (fun S=>test S)
  (fun _ ih S=>@Bool.rec (fun _=>(KS→Bool)→KS→Bool)
   (fun ih S=>@Option.rec KS (fun _=>(KS→Bool)→KS→Bool) (fun ih S=>@Option.rec (List KS) (fun _=>(KS→Bool)→Bool) (fun _=>false) (fun L ih=>L.all ih) (knx S) ih) (fun S' ih _=>ih S') (kstepF P S) ih S)
   (fun _ _=>true) (test S) ih S) n S
theorem kallF_eq {P:RP}{test:KS→Bool}:∀ (n:Nat) (S:KS),kallF P test n S=kall P test n S
 | 0,_=>rfl
 | n+1,S=>by
   show @Bool.rec (fun _=>(KS→Bool)→KS→Bool) _ _ (test S) (kallF P test n) S=_
   unfold kall
   cases test S with
   | true=>rfl
   | false =>
     show @Option.rec KS (fun _=>(KS→Bool)→KS→Bool) _ _ (kstepF P S) (kallF P test n) S=_
     rw[kstepF_eq]
     simp only
     cases kstep P S with
     | some S'=>exact kallF_eq n S'
     | none =>
       simp only
       cases knx S with
       | none=>rfl
       | some L =>
         show L.all (kallF P test n)=L.all (kall P test n)
         rw[show kallF P test n=kall P test n from funext fun S=>kallF_eq n S]
noncomputable def legC (P:RP) (m n d:Nat) (G:List Nat) (a b:PS) (i:Nat):Bool :=
 match krunsF P m (a.load P) with
 | some S=>match knx S with
   | some L=>match L[i]? with
     | some S'=>kallF P (atEnd d G b) n S'
     | none=>false
   | none=>false
 | none=>false
noncomputable def legN (P:RP) (m:Nat) (a:PS) (N:Nat):Bool :=
 match krunsF P m (a.load P) with
 | some S=>match knx S with
   | some L=>Nat.beq L.length N
   | none=>false
 | none=>false
theorem legC_good {P:RP}{m n d N:Nat}{G:List Nat}{a b:PS} (hN:legN P m a N=true) (hl:∀ i,i<N→legC P m n d G a b i=true) (hg:GoodS P (b.load P)):GoodS P (a.load P):=by
 unfold legN at hN
 unfold legC at hl
 rw[krunsF_eq] at hN hl
 cases h1:kruns P m (a.load P) with
 | none=>rw[h1] at hN; cases hN
 | some S =>
   rw[h1] at hN hl
   simp only at hN hl
   cases h2:knx S with
   | none=>rw[h2] at hN; cases hN
   | some L =>
     rw[h2] at hN hl
     simp only at hN hl
     have hlen:=Nat.eq_of_beq_eq_true hN
     refine kruns_goodS h1 (knx_goodS h2 fun S' hm=>?_)
     obtain⟨i,hi,rfl⟩:=List.mem_iff_getElem.1 hm
     have:=hl i (by omega)
     rw[List.getElem?_eq_getElem hi] at this
     simp only at this
     rw[kallF_eq] at this
     refine kall_goodS (fun S ho ht=>?_) n _ (knx_ok h2 (kruns_ok h1 (PS.load_ok P a)) _ hm) this
     unfold atEnd at ht
     split at ht
     ·rw[Bool.and_eq_true] at ht
      exact coverS_good ho ht.2 hg
     ·cases ht
theorem lt5 {Q:Nat→Prop} (h0:Q 0) (h1:Q 1) (h2:Q 2) (h3:Q 3) (h4:Q 4):∀ i,i<5→Q i:=by
 intro i hi
 match i,hi with
 | 0,_=>exact h0
 | 1,_=>exact h1
 | 2,_=>exact h2
 | 3,_=>exact h3
 | 4,_=>exact h4
end Go.Am
