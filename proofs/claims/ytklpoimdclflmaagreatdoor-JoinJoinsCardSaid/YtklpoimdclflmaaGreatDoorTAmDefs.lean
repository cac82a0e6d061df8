/- A machine of our own over clean data (lists, tries), for one -/
import GoSem.Step
set_option linter.all false
namespace Go
def om{p:Prop}(h:p:=by omega):p:=h
def aa:=@Option.some.injEq
def ab:=@Nat.le_refl
def ah:=@List.length_map
def aj:=@List.getElem?_eq_getElem
def aq:=@Prod.mk.injEq
def ar:=@List.getElem_mem
def au:=@List.getElem?_eq_some_iff
def aw:=@decide_eq_false
def aA:=@List.getD_eq_getElem?_getD
def aF:=@List.mem_cons
def aG:=@Option.map_eq_some_iff
def aH:=@decide_eq_true
def aI:=@List.take_succ_eq_append_getElem
def aJ:=@List.length_append
def aK:=@decide_eq_true_eq
def aM:=@List.mem_cons_self
def aN:=@List.mem_cons_of_mem
def aO:=@Int.toNat_natCast
def aP:=@Nat.mul_one
def aQ:=@Option.map_some
def aS:=@List.length_take
def aU:=@Bool.and_eq_true
def aV:=@List.getElem?_map
def aW:=@List.length_eq_zero_iff
def aX:=@List.mem_range
def aY:=@of_decide_eq_true
def aZ:=@List.mem_append
def bd:=@List.length_cons
def bh:=@Int.natCast_zero
def bm:=@List.length_nil
def bo:=@of_decide_eq_false
def bp:=@List.mem_map
def br:=@List.flatMap_append
def bt:=@List.take_length
def bw:=@List.getElem?_append_right
def bA:=@List.not_mem_nil
def bB:=@List.mem_filter
def bC:=@List.getElem?_append_left
def bD:=@List.getElem?_cons_zero
def bE:=@Int.ofNat_lt
def bF:=@List.append_nil
def bH:=@List.flatMap_cons
def bJ:=@List.getElem?_eq_none
def bK:=@List.all_eq_true
def bL:=@List.append_assoc
def bN:=@Nat.zero_add
def bO:=@List.map_cons
def bQ:=@List.nodup_append
def bS:=@List.map_append
def bT:=@Bool.false_eq_true
def bU:=@Array.length_toList
def bW:=@Option.map_none
def bX:=@List.cons_append
def ce:=@decide_eq_false_iff_not
def cj:=@List.drop_eq_getElem_cons
def cn:=@List.nodup_cons
def cr:=@List.nil_append
def ct:=@Array.getElem?_eq_some_iff
def cu:=@Nat.le_trans
def cw:=@List.length_range
def cx:=@List.length_set
def cy:=@List.cons.injEq
def cz:=@List.getElem?_replicate
def cA:=@List.length_replicate
def cB:=@List.filter_append
def cD:=@Nat.min_eq_left
def cH:=@List.take_append_drop
def cI:=@List.length_drop
def cJ:=@List.getElem?_cons_succ
def cL:=@Option.getD_some
def cM:=@List.mem_flatMap
def cP:=@List.range_succ
def cQ:=@Nat.mul_div_cancel
def cS:=@List.getElem?_take
def cT:=@List.map_congr_left
def cU:=@List.getElem?_set
def cV:=@List.ext_getElem?
def cW:=@List.mem_append_left
def cX:=@List.length_filter_le
def da:=@List.getElem?_range
def de:=@List.map_map
def df:=@List.drop_zero
def dg:=@List.size_toArray
def dh:=@List.pairwise_cons
def dj:=@List.eq_nil_iff_forall_not_mem
def dm:=@Bool.or_eq_true
def dp:=@Bool.not_true
def dq:=@List.getElem?_set_ne
def du:=@Nat.lt_of_lt_of_le
def dv:=@Nat.zero_le
def dx:=@List.take_of_length_le
def dy:=@List.drop_eq_nil_of_le
def dz:=@List.getElem_map
def dF:=@Nat.add_mul
def dL:=@List.countP_cons
def dM:=@Bool.eq_iff_iff
def dN:=@Nat.div_one
def dP:=@List.getElem?_set_self
def dU:=@Array.getD_eq_getD_getElem?
def dV:=@Nat.sub_self
def dZ:=@Bool.not_eq_true'
def eB:=@Nat.add_zero
def eC:=@List.mem_singleton
def eD:=@List.take_zero
def eF:=@Bool.false_and
def eH:=@List.take_succ_cons
def eJ:=@Array.getElem?_toList
def eN:=@List.pairwise_map
def eO:=@Nat.add_sub_cancel_left
def eP:=@List.mem_of_getElem?
def eW:=@Nat.lt_or_ge
def eX:=@List.flatten_nil
def eY:=@List.flatMap_nil
def eZ:=@Array.getElem?_eq_getElem
def fk:=@List.nodup_nil
def fw:=@Array.getElem?_setIfInBounds
def fx:=@List.filter_cons
def fy:=@List.contains_eq_mem
def fF:=@Nat.add_assoc
def fI:=@Bool.not_false
def fJ:=@Array.getElem?_append_left
def fS:=@List.getElem?_drop
def fW:=@Nat.mul_le_mul_right
def gp:=@List.foldl_append
def gq:=@List.count_append
def gr:=@List.countP_cons_of_pos
def gz:=@Nat.not_lt_zero
def gI:=@List.map_take
def gJ:=@List.map_drop
def gQ:=@List.all_cons
def hU:=@List.mem_append_right
def ij:=@Array.getElem?_modify
def iu:=@List.pairwise_iff_getElem
def iH:=@List.foldl_cons
def iI:=@List.mem_iff_getElem
def iJ:=@List.flatten_cons
def iW:=@List.getElem_of_mem
def iY:=@List.pairwise_mergeSort
def iZ:=@List.mem_flatten
def jc:=@List.flatMap_eq_nil_iff
def je:=@List.filter_cons_of_pos
def jh:=@List.filter_cons_of_neg
def jC:=@Option.isSome_none
def jD:=@List.singleton_sublist
def jV:=@Nat.eq_of_beq_eq_true
def kG:=@List.perm_ext_iff_of_nodup
def kH:=@List.mem_of_mem_take
def kI:=@Bool.and_false
def kP:=@List.mergeSort_perm
def kQ:=@List.map_eq_nil_iff
def kU:=@List.flatten_append
def kV:=@List.countP_pos_iff
def kX:=@List.countP_eq_zero
def kY:=@Int.toNat_of_nonneg
def lC:=@Nat.one_ne_zero
def lZ:=@Option.bind_eq_some_iff
def ma:=@List.map_id
def md:=@List.countP_cons_of_neg
def mI:=@Nat.lt_trichotomy
def mJ:=@List.filter_congr
def mK:=@List.append_eq_nil_iff
def mL:=@Array.size_append
def ng:=@Nat.le_of_ble_eq_true
def nh:=@List.getElem?_toArray
def ni:=@List.countP_le_length
def nj:=@Bool.and_eq_false_iff
def oj:=@Nat.lt_succ_self
def oq:=@List.nodup_range
def ou:=@List.drop_length
def ow:=@Bool.not_eq_true
def oB:=@Bool.true_and
def oH:=@Nat.one_mul
def oI:=@List.count_eq_zero_of_not_mem
def px:=@List.count_cons
def pV:=@Nat.zero_mul
def qP:=@List.take_left
def qQ:=@List.tail_drop
def qR:=@List.drop_left
def qS:=@List.count_pos_iff
def qT:=@List.append_of_mem
def sh:=@List.extract_eq_take_drop
def sj:=@Nat.le_succ_of_le
def sm:=@List.any_eq_false
def td:=@List.filterMap_cons_some
def te:=@Bool.and_self
def tV:=@Option.bind_some
def tW:=@Nat.min_eq_right
def tX:=@List.isEmpty_iff
def tY:=@List.getElem_inj
def vT:=@Nat.zero_div
def vU:=@Nat.le_of_lt
def vV:=@List.map_set
def vW:=@List.all_nil
def vX:=@Int.natCast_one
def wm:=@List.set_append_right
def wo:=@List.length_mergeSort
def zA:=@List.set_append_left
def zB:=@List.pairwise_append
def zC:=@List.forall_mem_cons
def zD:=@List.count_le_length
def BJ:=@List.toList_toArray
def BK:=@List.filter_eq_self
def BN:=@Bool.false_or
def Dr:=@List.mem_filterMap
def Ds:=@List.flatMap_assoc
def Dt:=@List.filter_filter
def Du:=@List.countP_append
def Dv:=@Array.size_reverse
def GE:=@Nat.sub_zero
def GF:=@List.map_nil
def GG:=@List.idxOf_append
def GI:=@Int.le_of_lt
def Kh:=@List.reverse_nil
def Ki:=@List.flatMap_map
def Kj:=@List.any_eq_true
def NU:=@Nat.mod_lt
def NV:=@Nat.blt_eq
def NW:=@List.take_take
def NX:=@List.drop_drop
end Go
namespace Go.Am
inductive T(α:Type) where
 |nil
 |node (l:T α) (v:Option α) (r:T α)
namespace T
variable {α:Type}
def get:T α->List Bool->Option α
 |.nil,_=>none
 |.node _ v _,[]=>v
 |.node l _ _,true::p=>l.get p
 |.node _ _ r,false::p=>r.get p
def fresh(x:α):List Bool->T α
 |[]=>.node .nil (some x) .nil
 |true::p=>.node (fresh x p) none .nil
 |false::p=>.node .nil none (fresh x p)
def set:T α->List Bool->α->T α
 |.nil,p,x=>fresh x p
 |.node l _ r,[],x=>.node l (some x) r
 |.node l v r,true::p,x=>.node (l.set p x) v r
 |.node l v r,false::p,x=>.node l v (r.set p x)
def sS(x:α):∀p q,(fresh x p).get q=if p=q then some x else none
 |[],[]=>by simp[fresh,get]
 |[],b::q=>by cases b<;>simp[fresh,get]
 |true::p,[]=>by simp[fresh,get]
 |false::p,[]=>by simp[fresh,get]
 |true::p,true::q=>by simp[fresh,get,sS x p q]
 |true::p,false::q=>by simp[fresh,get]
 |false::p,true::q=>by simp[fresh,get]
 |false::p,false::q=>by simp[fresh,get,sS x p q]
def get_set(x:α):∀(t:T α) p q,(t.set p x).get q=if p=q then some x else t.get q
 |.nil,p,q=>by simp[set,sS,get]
 |.node l v r,[],[]=>by simp[set,get]
 |.node l v r,[],b::q=>by cases b<;>simp[set,get]
 |.node l v r,true::p,[]=>by simp[set,get]
 |.node l v r,false::p,[]=>by simp[set,get]
 |.node l v r,true::p,true::q=>by simp[set,get,get_set x l p q]
 |.node l v r,true::p,false::q=>by simp[set,get]
 |.node l v r,false::p,true::q=>by simp[set,get]
 |.node l v r,false::p,false::q=>by simp[set,get,get_set x r p q]
end T
def DL:Nat->Nat->List Bool
 |0,_=>[]
 |f+1,n=>if n=0 then []else(n%2==1)::DL f ((n-1)/2)
def gC(n:Nat):List Bool:=DL (n+1) n
def uj:List Bool->Nat
 |[]=>0
 |b::p=>2*uj p+(if b then 1 else 2)
def ny:∀f n,n<f->uj (DL f n)=n
 |0,n,h=>by omega
 |f+1,n,h=>by
   unfold DL;by_cases hn:n=0
   .simp[hn,uj]
   .simp only[hn,if_false,uj,ny f ((n-1)/2) om];by_cases h2:n%2=1
    .simp[h2];omega
    .simp[h2];omega
def iM{m n:Nat}:gC m=gC n↔m=n:=by
 constructor
 .intro h;have:=congrArg uj h;unfold gC at this;rwa [ny _ _ om,ny _ _ om]at this
 .rintro rfl;rfl
inductive AV where
 |bool (b:Bool)
 |int (k:IntKind) (n:Int)
 |str (s:List UInt8)
 |ptr (b o:Nat)
 |nilp
 |sl (b o len cap:Nat)
 |nils
 |mp (b:Nat)
 |nilm
 |fn (f:FuncId) (caps:List AV)
 |yld (l:Nat)
 |nilf
 |ifc (t:TypeId) (v:AV)
 |nili
 |agg (cs:List AV)
 |tup (vs:List AV)
 |any
 |emp
instance :Inhabited AV:=⟨.nilp⟩
def AV.cells:AV->List AV
 |.agg cs=>cs
 |v=>[v]
def AV.un:AV:=.tup []
abbrev Tm:=T AV
def db(t:Tm)(n:Nat):AV:=(t.get (gC n)).getD AV.un
def qV(t:Tm)(n:Nat)(v:AV):Tm:=t.set (gC n) v
def fD(t:Tm)(n m:Nat)(v:AV):db (qV t n v) m=if n=m then v else db t m:=by
 unfold db qV;simp only[T.get_set,iM];by_cases e:n=m<;>simp[e]
inductive LS where
 |ready | busy | done | over
 deriving DecidableEq
inductive AO where
 |cells (cs:List AV) (esz:Nat) (ro:Bool)
 |dead
 |resv
 |mapo (es:List (AV×AV×Nat)) (clock:Nat)
 |sit (s:List UInt8) (pos:Nat)
 |mit (m:Option Nat) (since:Nat) (seen:List Nat) (last:Nat)
 |lp (fn:FuncId) (at_:List Bool) (ts:Tm) (ps:List Nat) (st:LS) (pend:Option (Option Nat))
 |other
structure AH where
 next:Nat
 t:T AO
 ty:T Nat
namespace AH
def get(h:AH)(b:Nat):Option AO:=if b<h.next then h.t.get (gC b)else none
def put(h:AH)(b:Nat)(o:AO):AH:={ h with t:=h.t.set (gC b) o}
def new(h:AH)(o:AO):AH:={ next:=h.next+1,t:=h.t.set (gC h.next) o,ty:=h.ty}
def tyOf(h:AH)(b:Nat):Option Nat:=h.ty.get (gC b)
def newT(h:AH)(o:AO)(t:Nat):AH:={ h.new o with ty:=h.ty.set (gC h.next) t}
@[simp] def next_put (h:AH) (b:Nat) (o:AO):(h.put b o).next=h.next:=rfl
@[simp] def next_new (h:AH) (o:AO):(h.new o).next=h.next+1:=rfl
def get_put(h:AH)(b c:Nat)(o:AO)(hb:b<h.next):(h.put b o).get c=if b=c then some o else h.get c:=by
 unfold get put;simp only[T.get_set,iM];by_cases e:b=c
 .subst e;simp[hb]
 .simp[e]
def get_new(h:AH)(c:Nat)(o:AO):(h.new o).get c=if c=h.next then some o else h.get c:=by
 unfold get new;simp only[T.get_set,iM];by_cases e:c=h.next
 .subst e;simp
 .have e':¬h.next=c:=λx=>e x.symm;by_cases h1:c<h.next
  .simp[e,e',h1];intro h2;omega
  .have:¬c<h.next+1:=om;simp[e,h1,this]
def newG(h:AH)(o:AO):Option Nat->AH
 |none=>h.new o
 |some t=>h.newT o t
def putG(h:AH)(n:Nat)(o:AO):Option Nat->AH
 |none=>h.put n o
 |some t=>{ h.put n o with ty:=h.ty.set (gC n) t}
def keep(h:AH):Nat->AH
 |0=>h
 |k+1=>(h.new .resv).keep k
def Jb(h:AH)(c:Nat)(o:AO)(t:Nat):(h.newT o t).get c=if c=h.next then some o else h.get c:=get_new h c o
@[simp] def NZ (h:AH) (o:AO) (t:Nat):(h.newT o t).next=h.next+1:=rfl
def GM(h:AH)(b c:Nat)(o:AO):(h.put b o).tyOf c=h.tyOf c:=rfl
def tyOf_newT(h:AH)(c:Nat)(o:AO)(t:Nat):(h.newT o t).tyOf c=if h.next=c then some t else h.tyOf c:=by
 show(h.ty.set (gC h.next) t).get (gC c)=_;rw[T.get_set];simp only[iM];rfl
def lt_of_get{h:AH}{b:Nat}{o:AO}(hg:h.get b=some o):b<h.next:=by
 unfold get at hg;by_cases h1:b<h.next
 .exact h1
 .simp[h1]at hg
end AH
def NG:Nat:=8
inductive RO where
 |t (n:Nat)
 |c (v:AV)
 |gl (g:Nat)
 |fu (f:FuncId)
def RO.ev(ts:Tm):RO->AV
 |.t n=>db ts n
 |.c v=>v
 |.gl n=>.ptr n 0
 |.fu n=>.fn n []
inductive RE where
 |no
 |ki
 |ks
 |bl
 |ptr
 |nls
 |nlm
 |flat (ns:List IntKind)
inductive ROp where
 |mov (x:RO)
 |pick (c a b:RO)
 |new (zero:List AV) (esz:Nat)
 |box (esz n:Nat) (x:RO)
 |build (zero:List AV) (DM:List (Nat×Nat×RO))
 |mksl (zero:List AV) (esz len:Nat) (DM:List (Nat×Nat×RO))
 |load (agg:Bool) (n:Nat) (a:RO)
 |store (n:Nat) (a v:RO)
 |nilck (x:RO)
 |bin (op:BinOp) (e:RE) (x y:RO)
 |un (op:UnOp) (x:RO)
 |cvI (k:IntKind) (x:RO)
 |cvBS (x:RO)
 |cvSB (x:RO)
 |cvSS (x:RO)
 |mki (t:TypeId) (x:RO)
 |mkf (f:FuncId) (caps:List RO)
 |mks (zero:List AV) (esz bytes:Nat) (l c:RO)
 |slS (x:RO) (lo hi:Option RO)
 |slL (esz:Nat) (x:RO) (lo hi mx:Option RO)
 |slA (n esz:Nat) (x:RO) (lo hi mx:Option RO)
 |fadr (off:Nat) (x:RO)
 |fld (agg:Bool) (off n:Nat) (x:RO)
 |iadr (esz:Nat) (x i:RO)
 |iadrA (len esz:Nat) (x i:RO)
 |idxS (x i:RO)
 |idxA (agg:Bool) (len esz:Nat) (x i:RO)
 |ext (x:RO) (i:Nat)
 |lenL (x:RO)
 |lenS (x:RO)
 |capL (x:RO)
 |mx (xs:List RO)
 |mn (xs:List RO)
 |app (esz bytes:Nat) (s x:RO)
 |cpy (esz:Nat) (d s:RO)
 |call (f:FuncId) (args:List RO)
 |callv (f:RO) (args:List RO)
 |mkmap
 |lenM (x:RO)
 |mlk (e:RE) (ok:Bool) (zero:AV) (m k:RO)
 |mup (e:RE) (m k v:RO)
 |men (e:RE) (zero:AV) (m k:RO)
 |mst (m s v:RO)
 |mcl (m:RO)
 |rgM (m:RO)
 |nxM (it:RO)
 |ent (it:RO)
 |bad
 |newT (zero:List AV) (esz t:Nat)
 |scl (zero:List AV) (x:RO)
 |apz (zero:List AV) (bytes:Nat) (s n:RO)
 |appB (t:Nat) (s x:RO)
 |mkz (t:Nat) (n:RO)
 |cvU (x:RO)
 |cvP (t n:Nat) (x:RO)
 |sdat (x:RO)
 |ustr (t:Nat) (x n:RO)
structure ROper where
 dst:Option Nat
 op:ROp
 guard:Option (Nat×Bool)
 nm:Option Nat
 cs:List (Nat×ROp×Option (Nat×Bool))
def ai(h:AH)(b o n:Nat):Option (List AV) :=
 match h.get b with
 |some (.cells cs _ _)=>if o+n<=cs.length then some ((cs.drop o).take n)else none
 |_=>none
def dG(cs:List AV)(o:Nat)(vs:List AV):List AV:=cs.take o++vs++cs.drop (o+vs.length)
def bP(h:AH)(b o:Nat)(vs:List AV):Option AH :=
 match h.get b with
 |some (.cells cs e false)=>if o+vs.length<=cs.length then some (h.put b (.cells (dG cs o vs) e false))else none
 |_=>none
def AV.one:AV->Bool
 |.agg _=>false
 |.tup _=>false
 |_=>true
def fill(ev:RO->AV):List AV->List (Nat×Nat×RO)->Option (List AV)
 |cs,[]=>some cs
 |cs,(off,n,x)::r =>
   let v:=(ev x).cells
   if v.length=n/\off+n<=cs.length then fill ev (dG cs off v) r else none
def cq(z:List AV):Nat->List AV
 |0=>[]
 |n+1=>z++cq z n
def fe(i:Int)(len:Nat):Option Nat:=if 0<=i/\i<len then some i.toNat else none
def bnd(v:AV)(y:Nat):Option Nat :=
 match v with
 |.int _ i=>if 0<=i/\i<=y then some i.toNat else none
 |_=>none
def bounds(ev:RO->AV)(lo hi mx:Option RO)(len cap:Nat):Option (Nat×Nat×Nat) :=
 match (match mx with|some v=>bnd (ev v) cap|none=>some cap)with
 |some m=>match (match hi with | some v=>bnd (ev v) m | none=>if mx.isSome then none else some len)with
   |some h=>match (match lo with | some v=>bnd (ev v) h | none=>some 0)with
     |some l=>some (l,h,m)
     |none=>none
   |none=>none
 |none=>none
def bits(op:BinOp)(k:IntKind)(x y:Int):Option Int :=
 let a:=BitVec.ofInt k.bits x
 let b:=BitVec.ofInt k.bits y
 match op with
 |.and=>some (k.wrap (a &&& b).toNat)
 |.or=>some (k.wrap (a ||| b).toNat)
 |.xor=>some (k.wrap (a^^^b).toNat)
 |.andNot=>some (k.wrap (a &&& ~~~b).toNat)
 |_=>none
def fL(op:BinOp)(k:IntKind)(x y:Int):Option AV :=
 match op with
 |.add=>some (.int k (k.wrap (x+y)))
 |.sub=>some (.int k (k.wrap (x-y)))
 |.mul=>some (.int k (k.wrap (x*y)))
 |.quo=>if y=0 then none else some (.int k (k.wrap (x.tdiv y)))
 |.rem=>if y=0 then none else some (.int k (x.tmod y))
 |.and | .or | .xor | .andNot=>(bits op k x y).map (.int k)
 |.eql=>some (.bool (x==y))
 |.neq=>some (.bool (x != y))
 |.lss=>some (.bool (x<y))
 |.leq=>some (.bool (x<=y))
 |.gtr=>some (.bool (x>y))
 |.geq=>some (.bool (x>=y))
 |_=>none
def Hr(op:BinOp)(k:IntKind)(x y:Int):Option AV :=
 if y<0 then none else
 match op with
 |.shl=>some (.int k (k.wrap (x*2^(min y.toNat k.bits))))
 |.shr=>some (.int k (x.fdiv (2^(min y.toNat k.bits))))
 |_=>none
def less:List UInt8->List UInt8->Bool
 |_,[]=>false
 |[],_::_=>true
 |a::x,b::y=>a<b||(a==b&&less x y)
def Dk(op:BinOp)(x y:List UInt8):Option AV :=
 match op with
 |.add=>if x.length+y.length<2^62 then some (.str (x++y))else none
 |.eql=>some (.bool (x==y))
 |.neq=>some (.bool !(x==y))
 |.lss=>some (.bool (less x y))
 |.leq=>some (.bool (less x y||x==y))
 |.gtr=>some (.bool !(less x y||x==y))
 |.geq=>some (.bool !(less x y))
 |_=>none
def fV:List IntKind->List AV->List AV->Option Bool
 |[],[],[]=>some true
 |k::ks,.int k1 a::xs,.int k2 b::ys=>if k1=k/\k2=k then(if a==b then fV ks xs ys else some false)else none
 |_,_,_=>none
def eqB(x y:AV):Option Bool :=
 match x,y with
 |.bool a,.bool b=>some (a==b)
 |_,_=>none
def eqP(x y:AV):Option Bool :=
 match x,y with
 |.nilp,.nilp=>some true
 |.nilp,.ptr _ _=>some false
 |.ptr _ _,.nilp=>some false
 |.ptr b o,.ptr b' o'=>if b=b'/\o=o' then some true else none
 |_,_=>none
def Mk(x y:AV):Option Bool :=
 match x,y with
 |.nils,.nils=>some true
 |.nils,.sl _ _ _ _=>some false
 |.sl _ _ _ _,.nils=>some false
 |.nils,.emp=>some false
 |.emp,.nils=>some false
 |_,_=>none
def eqM(x y:AV):Option Bool :=
 match x,y with
 |.nilm,.nilm=>some true
 |.nilm,.mp _=>some false
 |.mp _,.nilm=>some false
 |_,_=>none
def eqF(ks:List IntKind)(x y:AV):Option Bool :=
 match x,y with
 |.agg xs,.agg ys=>fV ks xs ys
 |_,_=>none
def jY(e:RE)(x y:AV):Option Bool :=
 match e with
 |.no=>none
 |.ki=>none
 |.ks=>none
 |.bl=>eqB x y
 |.ptr=>eqP x y
 |.nls=>Mk x y
 |.nlm=>eqM x y
 |.flat ks=>eqF ks x y
def fq(op:BinOp)(e:RE)(x y:AV):Option AV :=
 match x,y with
 |.int k a,.int k' b=>if op=.shl\/op=.shr then Hr op k a b else if k=k' then fL op k a b else none
 |.str a,.str b=>Dk op a b
 |x,y=>match op with
   |.eql=>(jY e x y).map .bool
   |.neq=>(jY e x y).map λb=>.bool !b
   |_=>none
def unA(op:UnOp)(x:AV):Option AV :=
 match op,x with
 |.neg,.int k n=>some (.int k (k.wrap (0-n)))
 |.xor,.int k n=>(bits .xor k (if k.signed then -1 else k.max) n).map (.int k)
 |.not,.bool b=>some (.bool !b)
 |_,_=>none
def wP(agg:Bool)(cs:List AV)(off n:Nat):Option AV :=
 if agg then some (.agg ((cs.drop off).take n))else cs[off]?
def mxA:AV->List AV->Option AV
 |v,[]=>some v
 |.int k x,.int k' y::r=>if k=k' then mxA (.int k (if y>x then y else x)) r else none
 |_,_=>none
def mnA:AV->List AV->Option AV
 |v,[]=>some v
 |.int k x,.int k' y::r=>if k=k' then mnA (.int k (if y<x then y else x)) r else none
 |_,_=>none
def ll:List AV->Option (List UInt8)
 |[]=>some []
 |.int .u8 n::r=>(ll r).map (UInt8.ofNat n.toNat::·)
 |_=>none
def jK(s:List UInt8):List AV:=s.map λb=>.int .u8 b.toNat
def fz(h:AH)(esz:Nat)(x:AV):Option (Nat×List AV) :=
 match x with
 |.nils=>some (0,[])
 |.emp=>some (0,[])
 |.sl b o n _=>(ai h b o (n*esz)).map (n,·)
 |.str s=>if esz=1 then some (s.length,jK s)else none
 |_=>none
def bf:Nat:=2^40
def gh(h:AH)(esz bytes:Nat)(s x:AV):Option (AV×AH) :=
 match fz h esz x with
 |some (n,new) =>
   if new.all AV.one then
    match s with
    |.nils =>
      if n=0 then some (.nils,h)
      else if n*bytes<bf/\n<bf then some (.sl h.next 0 n n,h.new (.cells new esz false))else none
    |.emp=>if n=0 then some (.emp,h)else none
    |.sl b o len cap =>
      if n=0 then some (.sl b o len cap,h)
      else if len+n<=cap then(bP h b (o+len*esz) new).map λh'=>(.sl b o (len+n) cap,h')
      else if (len+n)*bytes<bf/\len+n<bf then
       match h.get b,ai h b o (len*esz)with
       |some (.cells _ e false),some old =>
         if e=esz then some (.sl h.next 0 (len+n) (len+n),(h.put b .dead).new (.cells (old++new) esz false))else none
       |_,_=>none
      else none
    |_=>none
   else none
 |none=>none
def qb(g:Bool)(cs:List AV):Option AV:=if g then some (.agg cs)else match cs with|[v]=>some v|_=>none
def qf(h:AH)(g:Bool)(n:Nat)(a:AV):Option (AV×AH) :=
 match a with
 |.ptr b o=>match ai h b o n with
   |some cs=>(qb g cs).map (·,h)
   |none=>none
 |_=>none
def my(h:AH)(n:Nat)(a v:AV):Option (AV×AH) :=
 match a with
 |.ptr b o=>if v.cells.length=n/\v.cells.all AV.one then(bP h b o v.cells).map λh'=>(.un,h')else none
 |_=>none
def Gy(h:AH)(e n:Nat)(x:AV):Option (AV×AH) :=
 if x.cells.length=n then some (.ptr h.next 0,h.new (.cells x.cells e false))else none
def uP(x:AV):Option AV :=
 match x with
 |.ptr b o=>some (.ptr b o)
 |.fn f cs=>some (.fn f cs)
 |.yld l=>some (.yld l)
 |_=>none
def Jv(k:IntKind)(x:AV):Option AV :=
 match x with
 |.int _ n=>some (.int k (k.wrap n))
 |_=>none
def vJ(h:AH)(x:AV):Option AV :=
 match x with
 |.nils=>some (.str [])
 |.sl b o n _=>match ai h b o n with
   |some cs=>(ll cs).map .str
   |none=>none
 |_=>none
def Bq(h:AH)(x:AV):Option (AV×AH) :=
 match x with
 |.str s=>some (.sl h.next 0 s.length s.length,h.new (.cells (jK s) 1 false))
 |_=>none
def Bp(h:AH)(x:AV):Option AV :=
 match x with
 |.sl b o n c=>match h.get b with
   |some (.cells _ _ false)=>some (.sl b o n c)
   |_=>none
 |_=>none
def wg(h:AH)(z:List AV)(e bytes:Nat)(l c:AV):Option (AV×AH) :=
 match l,c with
 |.int _ l,.int _ c =>
   if 0<=l/\l<=c/\c<bf/\c*bytes<bf then some (.sl h.next 0 l.toNat c.toNat,h.new (.cells (cq z c.toNat) e false))else none
 |_,_=>none
def Bd(off:Nat)(x:AV):Option AV :=
 match x with
 |.ptr b o=>some (.ptr b (o+off))
 |_=>none
def FQ(g:Bool)(off n:Nat)(x:AV):Option AV :=
 match x with
 |.agg cs=>wP g cs off n
 |_=>none
def jZ(e:Nat)(x i:AV):Option AV :=
 match x,i with
 |.sl b o n _,.int _ i=>(fe i n).map λi=>.ptr b (o+i*e)
 |_,_=>none
def Ed(n e:Nat)(x i:AV):Option AV :=
 match x,i with
 |.ptr b o,.int _ i=>(fe i n).map λi=>.ptr b (o+i*e)
 |_,_=>none
def xt(x i:AV):Option AV :=
 match x,i with
 |.str s,.int _ i=>if 0<=i then(s[i.toNat]?).map λc=>.int .u8 c.toNat else none
 |_,_=>none
def Ec(g:Bool)(n e:Nat)(x i:AV):Option AV :=
 match x,i with
 |.agg cs,.int _ i=>match fe i n with
   |some i=>wP g cs (i*e) e
   |none=>none
 |_,_=>none
def Jj(x:AV)(i:Nat):Option AV :=
 match x with
 |.tup vs=>vs[i]?
 |_=>none
def fP(x:AV):Option AV :=
 match x with
 |.nils=>some (.int .i64 0)
 |.emp=>some (.int .i64 0)
 |.sl _ _ n _=>some (.int .i64 n)
 |_=>none
def AE(x:AV):Option AV :=
 match x with
 |.str s=>some (.int .i64 s.length)
 |_=>none
def AF(h:AH)(x:AV):Option AV :=
 match x with
 |.nilm=>some (.int .i64 0)
 |.mp b=>match h.get b with
   |some (.mapo es _)=>some (.int .i64 es.length)
   |_=>none
 |_=>none
def lR(f:AV->List AV->Option AV):List AV->Option AV
 |v::r=>f v r
 |[]=>none
def Ar(c a b:AV):Option AV :=
 match c with
 |.bool t=>some (if t then a else b)
 |_=>none
def GZ(ev:RO->AV)(x:AV)(lo hi:Option RO):Option AV :=
 match x with
 |.str s=>(bounds ev lo hi none s.length s.length).map λr=>.str ((s.take r.2.1).drop r.1)
 |_=>none
def BW(ev:RO->AV)(h:AH)(e:Nat)(x:AV)(lo hi mx:Option RO):Option AV :=
 match x with
 |.nils=>(bounds ev lo hi mx 0 0).map λ_=>.nils
 |.emp=>(bounds ev lo hi mx 0 0).map λ_=>.emp
 |.sl b o n c=>match h.get b with
   |some (.cells _ e' _)=>if e'=e then(bounds ev lo hi mx n c).map λr=>.sl b (if r.2.2=r.1 then o else o+r.1*e) (r.2.1-r.1) (r.2.2-r.1)else none
   |_=>none
 |_=>none
def Ha(ev:RO->AV)(n e:Nat)(x:AV)(lo hi mx:Option RO):Option AV :=
 match x with
 |.ptr b o=>(bounds ev lo hi mx n n).map λr=>.sl b (if r.2.2=r.1 then o else o+r.1*e) (r.2.1-r.1) (r.2.2-r.1)
 |_=>none
def lc(e:RE)(x y:AV):Option Bool :=
 match e with
 |.ki=>match x,y with
   |.int k a,.int k' b=>if k=k' then some (a==b)else none
   |_,_=>none
 |.ks=>match x,y with
   |.str a,.str b=>some (a==b)
   |_,_=>none
 |.flat ks=>eqF ks x y
 |_=>none
def tH(e:RE)(x:AV):Bool:=(lc e x x).isSome
def JP:Option (Nat×AV×Nat)->Option (Nat×AV×Nat)
 |some (i,x)=>some (i+1,x)
 |none=>none
def jL(e:RE)(k:AV):List (AV×AV×Nat)->Option (Option (Nat×AV×Nat))
 |[]=>some none
 |(k',v,n)::r=>match lc e k k' with
   |some true=>some (some (0,v,n))
   |some false=>(jL e k r).map JP
   |none=>none
def oX(h:AH)(e:RE)(ok:Bool)(zero m k:AV):Option AV :=
 let res (v:AV) (b:Bool):AV:=if ok then .tup [v,.bool b]else v
 match m with
 |.nilm=>if tH e k then some (res zero false)else none
 |.mp b=>match h.get b with
   |some (.mapo es _)=>if tH e k then match jL e k es with
     |some (some (_,v,_))=>some (res v true)
     |some none=>some (res zero false)
     |none=>none else none
   |_=>none
 |_=>none
def Ay(h:AH)(e:RE)(m k v:AV):Option (AV×AH) :=
 match m with
 |.mp b=>match h.get b with
   |some (.mapo es c)=>if tH e k then match jL e k es with
     |some (some (i,_,n))=>some (.un,h.put b (.mapo (es.set i (k,v,n)) c))
     |some none=>some (.un,h.put b (.mapo (es++[(k,v,c)]) (c+1)))
     |none=>none else none
   |_=>none
 |_=>none
def Ie(h:AH)(e:RE)(zero m k:AV):Option (AV×AH) :=
 match m with
 |.mp b=>match h.get b with
   |some (.mapo es c)=>if tH e k then match jL e k es with
     |some (some (i,v,n))=>some (.tup [v,.int .i64 n],h.put b (.mapo (es.set i (k,v,n)) c))
     |some none=>some (.tup [zero,.int .i64 c],h.put b (.mapo (es++[(k,zero,c)]) (c+1)))
     |none=>none else none
   |_=>none
 |_=>none
def zU(s:Int):List (AV×AV×Nat)->Option (Nat×AV×Nat)
 |[]=>none
 |(k,_,n)::r=>if (n:Int)=s then some (0,k,n)else(zU s r).map λ(i,x)=>(i+1,x)
def HZ(h:AH)(m s v:AV):Option (AV×AH) :=
 match m,s with
 |.mp b,.int _ s=>match h.get b with
   |some (.mapo es c)=>match zU s es with
     |some (i,k,n)=>some (.un,h.put b (.mapo (es.set i (k,v,n)) c))
     |none=>none
   |_=>none
 |_,_=>none
def Ig(h:AH)(m:AV):Option (AV×AH) :=
 match m with
 |.nilm=>some (.un,h)
 |.mp b=>match h.get b with
   |some (.mapo _ c)=>some (.un,h.put b (.mapo [] c))
   |_=>none
 |_=>none
def HB(h:AH)(m:AV):Option (AV×AH) :=
 match m with
 |.nilm=>some (.ptr h.next 0,h.new (.mit none 0 [] 0))
 |.mp b=>match h.get b with
   |some (.mapo _ c)=>some (.ptr h.next 0,h.new (.mit (some b) c [] c))
   |_=>none
 |_=>none
def Mu(es:List (AV×AV×Nat))(since:Nat)(seen:List Nat):List (AV×AV×Nat) :=
 let left:=es.filter λe=>!seen.contains e.2.2
 left.filter (λe=>decide (e.2.2<since))++left.filter (λe=>decide (e.2.2>=since))
def wQ(es:List (AV×AV×Nat))(since:Nat)(seen:List Nat):Bool :=
 ((es.filter λe=>!seen.contains e.2.2).filter λe=>decide (e.2.2<since)).isEmpty
def we(h:AH)(it:AV):Option (List (AV×AH)) :=
 match it with
 |.ptr b 0=>match h.get b with
   |some (.mit none _ _ _)=>some [(.tup [.bool false],h)]
   |some (.mit (some m) since seen last)=>match h.get m with
     |some (.mapo es c) =>
       if !seen.isEmpty&&!es.isEmpty&&es.all (λe=>decide (e.2.2>=last))then none
       else some ((if wQ es since seen then [(.tup [.bool false],h)]else []) ++
        (Mu es since seen).map λe=>(.tup [.bool true,e.1,e.2.1],h.put b (.mit (some m) since (seen++[e.2.2]) c)))
     |_=>none
   |_=>none
 |_=>none
def Gt(x:AV):Option AV :=
 match x with
 |.nils=>some (.int .i64 0)
 |_=>none
def FX(h:AH)(it:AV):Option AV :=
 match it with
 |.ptr b 0=>match h.get b with
   |some (.mit (some m) _ seen last)=>match h.get m,seen.getLast? with
     |some (.mapo es c),some n=>if c=last then(es.find? λe=>e.2.2==n).map λe=>.tup [e.1,e.2.1]else none
     |_,_=>none
   |_=>none
 |_=>none
def Cb(h:AH)(z:List AV)(x:AV):Option (AV×AH) :=
 match x with
 |.nils=>some (.un,h)
 |.sl b o n _=>if n=0 then some (.un,h)else if (cq z n).all AV.one then(bP h b o (cq z n)).map λh'=>(.un,h')else none
 |_=>none
def zj(h:AH)(z:List AV)(bytes:Nat)(s n:AV):Option (AV×AH) :=
 match s,n with
 |.nils,.int _ n =>
   if n=0 then some (.nils,h)
   else if 0<=n/\n<bf/\n*bytes<bf then some (.sl h.next 0 n.toNat n.toNat,h.new (.cells (cq z n.toNat) z.length false))else none
 |_,_=>none
def rZ(h:AH)(tg:Option Nat)(esz bytes:Nat)(s x:AV):Option (AV×AH) :=
 match fz h esz x with
 |some (n,new) =>
   if new.all AV.one then
    match s with
    |.nils =>
      if n=0 then some (.nils,h)
      else if n*bytes<bf/\n<bf then some (.sl h.next 0 n n,h.newG (.cells new esz false) tg)else none
    |.emp=>if n=0 then some (.emp,h)else none
    |.sl b o len cap =>
      if n=0 then some (.sl b o len cap,h)
      else if len+n<=cap then(bP h b (o+len*esz) new).map λh'=>(.sl b o (len+n) cap,h')
      else if (len+n)*bytes<bf/\len+n<bf then
       match h.get b,ai h b o (len*esz)with
       |some (.cells _ e false),some old =>
         if e=esz then(if tg=none\/h.tyOf b=tg then some (.sl h.next 0 (len+n) (len+n),(h.put b .dead).newG (.cells (old++new) esz false) tg)else none)else none
       |_,_=>none
      else none
    |_=>none
   else none
 |none=>none
def Es(h:AH)(t:Nat)(s x:AV):Option (AV×AH) :=
 match s with
 |.sl b o n c=>if h.tyOf b=some t then rZ h (some t) 1 1 (.sl b o n c) x else rZ h none 1 1 (.sl b o n c) x
 |s=>rZ h (some t) 1 1 s x
def yh(h:AH)(esz bytes:Nat)(s x:AV):rZ h none esz bytes s x=gh h esz bytes s x:=by
 unfold rZ gh;simp only[AH.newG,true_or,if_true]
def Ib(h:AH)(t:Nat)(n:AV):Option (AV×AH) :=
 match n with
 |.int .i64 n=>if 0<=n/\n<bf then some (.sl h.next 0 n.toNat n.toNat,h.newT (.cells (List.replicate n.toNat .any) 1 false) t)else none
 |_=>none
def JA(h:AH)(e:Nat)(d s:AV):Option (AV×AH) :=
 match d,s with
 |.nils,.nils=>some (.int .i64 0,h)
 |.nils,.sl _ _ _ _=>some (.int .i64 0,h)
 |.sl _ _ _ _,.nils=>some (.int .i64 0,h)
 |.sl b o n _,.sl b' o' m _=>match ai h b' o' (min m n*e)with
   |some cs=>if cs.all AV.one then(bP h b o cs).map λh'=>(.int .i64 (min m n:Nat),h')else none
   |none=>none
 |_,_=>none
def Gd(h:AH)(x:AV):Option AV :=
 match x with
 |.nilp=>some .nilp
 |.ptr b o=>match h.get b with
   |some (.cells cs _ _)=>if o<cs.length then some (.ptr b o)else none
   |_=>none
 |_=>none
def Ge(h:AH)(t n:Nat)(x:AV):Option AV :=
 match x with
 |.nilp=>some .nilp
 |.ptr b 0=>match h.get b with
   |some (.cells cs _ _)=>if h.tyOf b=some t/\cs.length=n then some (.ptr b 0)else none
   |_=>none
 |_=>none
def DG(x:AV):Option AV :=
 match x with
 |.nils=>some .nilp
 |.sl b o _ c=>if c=0 then none else some (.ptr b o)
 |_=>none
def zI(h:AH)(t:Nat)(x n:AV):Option (AV×AH) :=
 match x,n with
 |.nilp,.int _ n=>if n=0 then some (.str [],h)else none
 |.ptr b o,.int _ n =>
   if n=0 then some (.str [],h)else if 0<n/\n<bf then
   match h.get b with
   |some (.cells cs e false)=>match ai h b o n.toNat with
     |some bs=>if h.tyOf b=some t then(ll bs).map λs=>(.str s,h.put b (.cells cs e true))else none
     |none=>none
   |_=>none else none
 |_,_=>none
def aL(ev:RO->AV)(h:AH):ROp->Option (AV×AH)
 |.mov x=>some (ev x,h)
 |.pick c a b=>(Ar (ev c) (ev a) (ev b)).map (·,h)
 |.new z e=>some (.ptr h.next 0,h.new (.cells z e false))
 |.box e n x=>Gy h e n (ev x)
 |.build z ps=>(fill ev z ps).map λcs=>(.agg cs,h)
 |.mksl z e n ps=>(fill ev (cq z n) ps).map λcs=>(.sl h.next 0 n n,h.new (.cells cs e false))
 |.load ag n a=>qf h ag n (ev a)
 |.store n a v=>my h n (ev a) (ev v)
 |.nilck x=>(uP (ev x)).map (·,h)
 |.bin op e x y=>(fq op e (ev x) (ev y)).map (·,h)
 |.un op x=>(unA op (ev x)).map (·,h)
 |.cvI k x=>(Jv k (ev x)).map (·,h)
 |.cvBS x=>(vJ h (ev x)).map (·,h)
 |.cvSB x=>Bq h (ev x)
 |.cvSS x=>(Bp h (ev x)).map (·,h)
 |.mki t x=>some (.ifc t (ev x),h)
 |.mkf f cs=>some (.fn f (cs.map ev),h)
 |.mks z e bytes l c=>wg h z e bytes (ev l) (ev c)
 |.slS x lo hi=>(GZ ev (ev x) lo hi).map (·,h)
 |.slL e x lo hi mx=>(BW ev h e (ev x) lo hi mx).map (·,h)
 |.slA n e x lo hi mx=>(Ha ev n e (ev x) lo hi mx).map (·,h)
 |.fadr off x=>(Bd off (ev x)).map (·,h)
 |.fld ag off n x=>(FQ ag off n (ev x)).map (·,h)
 |.iadr e x i=>(jZ e (ev x) (ev i)).map (·,h)
 |.iadrA n e x i=>(Ed n e (ev x) (ev i)).map (·,h)
 |.idxS x i=>(xt (ev x) (ev i)).map (·,h)
 |.idxA ag n e x i=>(Ec ag n e (ev x) (ev i)).map (·,h)
 |.ext x i=>(Jj (ev x) i).map (·,h)
 |.lenL x=>(fP (ev x)).map (·,h)
 |.lenS x=>(AE (ev x)).map (·,h)
 |.lenM x=>(AF h (ev x)).map (·,h)
 |.capL x=>(Gt (ev x)).map (·,h)
 |.mx xs=>(lR mxA (xs.map ev)).map (·,h)
 |.mn xs=>(lR mnA (xs.map ev)).map (·,h)
 |.app e bytes s x=>gh h e bytes (ev s) (ev x)
 |.cpy e d s=>JA h e (ev d) (ev s)
 |.call _ _=>none
 |.callv _ _=>none
 |.mkmap=>some (.mp h.next,h.new (.mapo [] 0))
 |.mlk e ok z m k=>(oX h e ok z (ev m) (ev k)).map (·,h)
 |.mup e m k v=>Ay h e (ev m) (ev k) (ev v)
 |.men e z m k=>Ie h e z (ev m) (ev k)
 |.mst m s v=>HZ h (ev m) (ev s) (ev v)
 |.mcl m=>Ig h (ev m)
 |.rgM m=>HB h (ev m)
 |.nxM _=>none
 |.ent it=>(FX h (ev it)).map (·,h)
 |.bad=>none
 |.newT z e t=>some (.ptr h.next 0,h.newT (.cells z e false) t)
 |.scl z x=>Cb h z (ev x)
 |.apz z b s n=>zj h z b (ev s) (ev n)
 |.appB t s x=>Es h t (ev s) (ev x)
 |.mkz t n=>Ib h t (ev n)
 |.cvU x=>(Gd h (ev x)).map (·,h)
 |.cvP t n x=>(Ge h t n (ev x)).map (·,h)
 |.sdat x=>(DG (ev x)).map (·,h)
 |.ustr t x n=>zI h t (ev x) (ev n)
def lay(ev:RO->AV)(h:AH):ROp->Option ((Nat->AV)×AO×Option Nat)
 |.new z e=>some (λn=>.ptr n 0,.cells z e false,none)
 |.newT z e t=>some (λn=>.ptr n 0,.cells z e false,some t)
 |.box e k x=>if (ev x).cells.length=k then some (λn=>.ptr n 0,.cells (ev x).cells e false,none)else none
 |.mksl z e k ps=>(fill ev (cq z k) ps).map λcs=>(λn=>.sl n 0 k k,.cells cs e false,none)
 |.cvSB x=>match ev x with
   |.str s=>some (λn=>.sl n 0 s.length s.length,.cells (jK s) 1 false,none)
   |_=>none
 |.mks z e bytes l c=>match ev l,ev c with
   |.int _ l,.int _ c=>if 0<=l/\l<=c/\c<bf/\c*bytes<bf then some (λn=>.sl n 0 l.toNat c.toNat,.cells (cq z c.toNat) e false,none)else none
   |_,_=>none
 |.mkmap=>some (λn=>.mp n,.mapo [] 0,none)
 |.rgM m=>match ev m with
   |.nilm=>some (λn=>.ptr n 0,.mit none 0 [] 0,none)
   |.mp b=>match h.get b with
     |some (.mapo _ c)=>some (λn=>.ptr n 0,.mit (some b) c [] c,none)
     |_=>none
   |_=>none
 |_=>none
def iV(ev:RO->AV)(h:AH)(n:Nat)(op:ROp):Option (AV×AH) :=
 match h.get n with
 |some .resv=>match lay ev h op with
   |some (f,o,tg)=>some (f n,h.putG n o tg)
   |none=>none
 |_=>none
def evN(base:Nat)(ev:RO->AV)(h:AH)(o:ROper):Option (AV×AH) :=
 match o.nm with
 |none=>aL ev h o.op
 |some j=>iV ev h (base+j) o.op
mutual
def AV.same:AV->AV->Bool
 |.bool a,.bool b=>a==b
 |.int k a,.int j b=>k==j&&a==b
 |.str a,.str b=>a==b
 |.ptr a b,.ptr c d=>a==c&&b==d
 |.nilp,.nilp=>true
 |.sl a b c d,.sl e f g h=>a==e&&b==f&&c==g&&d==h
 |.nils,.nils=>true
 |.emp,.emp=>true
 |.mp a,.mp b=>a==b
 |.nilm,.nilm=>true
 |.fn f a,.fn g b=>f==g&&AV.sames a b
 |.yld a,.yld b=>a==b
 |.nilf,.nilf=>true
 |.ifc t a,.ifc u b=>t==u&&AV.same a b
 |.nili,.nili=>true
 |.agg a,.agg b=>AV.sames a b
 |.tup a,.tup b=>AV.sames a b
 |_,_=>false
def AV.sames:List AV->List AV->Bool
 |[],[]=>true
 |a::x,b::y=>AV.same a b&&AV.sames x y
 |_,_=>false
end
mutual
def AV.same_eq:∀(a b:AV),AV.same a b=true->a=b
 |.bool a,b,h=>by cases b<;>simp_all[AV.same]
 |.int k a,b,h=>by cases b<;>simp_all[AV.same]
 |.str a,b,h=>by cases b<;>simp_all[AV.same]
 |.ptr x y,b,h=>by cases b<;>simp_all[AV.same]
 |.nilp,b,h=>by cases b<;>simp_all[AV.same]
 |.sl x y z u,b,h=>by cases b<;>simp_all[AV.same]
 |.nils,b,h=>by cases b<;>simp_all[AV.same]
 |.mp a,b,h=>by cases b<;>simp_all[AV.same]
 |.nilm,b,h=>by cases b<;>simp_all[AV.same]
 |.fn f x,b,h=>by
   cases b<;>simp only[AV.same,aU,beq_iff_eq,bT]at h;rw[h.1,AV.sames_eq _ _ h.2]
 |.yld a,b,h=>by cases b<;>simp_all[AV.same]
 |.nilf,b,h=>by cases b<;>simp_all[AV.same]
 |.ifc t x,b,h=>by
   cases b<;>simp only[AV.same,aU,beq_iff_eq,bT]at h;rw[h.1,AV.same_eq _ _ h.2]
 |.nili,b,h=>by cases b<;>simp_all[AV.same]
 |.agg x,b,h=>by
   cases b<;>simp only[AV.same,bT]at h;rw[AV.sames_eq _ _ h]
 |.tup x,b,h=>by
   cases b<;>simp only[AV.same,bT]at h;rw[AV.sames_eq _ _ h]
 |.any,b,h=>by cases b<;>simp_all[AV.same]
 |.emp,b,h=>by cases b<;>simp_all[AV.same]
def AV.sames_eq:∀(a b:List AV),AV.sames a b=true->a=b
 |[],b,h=>by cases b<;>simp_all[AV.sames]
 |a::x,b,h=>by
   cases b with
   |nil=>simp[AV.sames]at h
   |cons c y =>
     simp only[AV.sames,aU]at h;rw[AV.same_eq _ _ h.1,AV.sames_eq _ _ h.2]
end
inductive RC where
 |skip
 |reg (ops:List ROper)
 |regD (kn:Nat) (ops:List ROper) (edges:List (List Nat))
 |regK (kn:Nat) (ops:List ROper)
 |seq (a b:RC)
 |cond (c:RO) (a b:RC)
 |block (id:Nat) (c:RC)
 |loop (c:RC)
 |rangeF (fn:FuncId) (at_:List Bool) (f:RO) (ps:List Nat) (asg body:RC)
 |exit (id:Nat)
 |ret
 |bad
def RC.node:RC->List Bool->Option RC
 |c,[]=>some c
 |.seq a _,false::p=>a.node p
 |.seq _ b,true::p=>b.node p
 |.cond _ a _,false::p=>a.node p
 |.cond _ _ b,true::p=>b.node p
 |.block _ c,false::p=>c.node p
 |.loop c,false::p=>c.node p
 |_,_=>none
inductive RR where
 |t (n:Nat)
 |cell (t:Nat) (agg:Bool) (n:Nat)
structure RF where
 results:List RR
 body:RC
abbrev RP:=FuncId->Option RF
def wanted(ts:Tm):Option (Nat×Bool)->Option Bool
 |none=>some true
 |some (n,b)=>match db ts n with
   |.bool c=>some (c==b)
   |.tup []=>some false
   |_=>none
def sY(ts:Tm)(h:AH)(c:Nat×ROp×Option (Nat×Bool)):Bool :=
 match wanted ts c.2.2 with
 |some false=>true
 |some true=>match aL (RO.ev ts) h c.2.1 with
   |some (v,_)=>AV.same v (db ts c.1)
   |none=>false
 |none=>false
def gZ(ts:Tm)(h:AH):List (Nat×ROp×Option (Nat×Bool))->Bool
 |[]=>true
 |c::r=>sY ts h c&&gZ ts h r
def dH(ts:Tm)(d:Option Nat)(v:AV):Tm :=
 match d with
 |some n=>qV ts n v
 |none=>ts
def bV:Nat->List AV->Tm
 |_,[]=>.nil
 |i,v::r=>qV (bV (i+1) r) i v
def kZ(ts:Tm)(h:AH):RR->Option AV
 |.t n=>some (db ts n)
 |.cell t ag n=>match db ts t with
   |.ptr b o=>match ai h b o n with
     |some cs=>qb ag cs
     |none=>none
   |_=>none
def jj(ts:Tm)(h:AH):List RR->Option (List AV)
 |[]=>some []
 |r::rs=>match kZ ts h r,jj ts h rs with
   |some v,some vs=>some (v::vs)
   |_,_=>none
def results(f:RF)(ts:Tm)(h:AH):Option AV :=
 match jj ts h f.results with
 |some [v]=>some v
 |some vs=>some (.tup vs)
 |none=>none
inductive Task where
 |ops (base:Nat) (l:List ROper)
 |code (c:RC)
 |call (f:FuncId) (args:List AV)
 |round (l:Nat) (args:List AV)
inductive Out where
 |norm (ts:Tm) (h:AH)
 |exit (id:Nat) (ts:Tm) (h:AH)
 |ret (ts:Tm) (h:AH)
 |val (v:AV) (h:AH)
def Out.unblock(id:Nat):Out->Out
 |.exit id' ts h=>if id'=id then .norm ts h else .exit id' ts h
 |o=>o
def Lin(n:Nat)(es:List (List Nat))(l:List Nat):Prop :=
 l.Nodup/\(∀i,i∈l↔i<n)/\∀a i b,l=a++i::b->∀j,j∈es.getD i []->j∈a
def mB(ts:Tm):List Nat->List AV->Tm
 |p::ps,v::vs=>mB (qV ts p v) ps vs
 |_,_=>ts
def BL(l:Nat)(R:Out->Prop):Out->Prop
 |.norm _ h=>∃fn p tl ps,h.get l=some (.lp fn p tl ps .busy none)/\R (.val (.bool true) (h.put l (.lp fn p tl ps .ready none)))
 |.ret _ h=>∃fn p tl ps,h.get l=some (.lp fn p tl ps .busy none)/\R (.val (.bool false) (h.put l (.lp fn p tl ps .done (some none))))
 |.exit id _ h=>∃fn p tl ps,h.get l=some (.lp fn p tl ps .busy none)/\R (.val (.bool false) (h.put l (.lp fn p tl ps .done (some (some id)))))
 |.val _ _=>False
def BM(l:Nat)(ts:Tm)(R:Out->Prop)(h:AH):Prop :=
 ∃fn p tl ps st pend,h.get l=some (.lp fn p tl ps st pend)/\st≠.busy /\
   match pend with
   |none=>R (.norm ts (h.put l (.lp fn p tl ps .over none)))
   |some none=>R (.ret ts (h.put l (.lp fn p tl ps .over (some none))))
   |some (some id)=>R (.exit id ts (h.put l (.lp fn p tl ps .over (some (some id)))))
def uq:RF:=⟨[],.exit 77⟩
def oC:Nat:=1048576
def tj(g:FuncId):RF:=⟨[],.exit (78+g)⟩
def tc(h:AH)(b:Nat)(k:Int)(v:AV):Prop:=∃b' o' n' c',v=.sl b' o' (n'+1) c'/\b'≠b/\ai h b' o' 1=some [.int .i64 k]/\0<=k/\k<2^62
def BV(zs:List Int):List AV:=(zs.mergeSort λx y=>decide (x<=y)).map (AV.int .i64)
inductive BS(P:RP):Task->Tm->AH->(Out->Prop)->Prop
 |nil {b ts h R}:R (.norm ts h)->BS P (.ops b []) ts h R
 |skipped {b o l ts h R}:wanted ts o.guard=some false->BS P (.ops b l) (dH ts o.dst .un) h R->BS P (.ops b (o::l)) ts h R
 |op {b o l ts h v h' R}:wanted ts o.guard=some true->evN b (RO.ev ts) h o=some (v,h')->gZ (dH ts o.dst v) h' o.cs=true->BS P (.ops b l) (dH ts o.dst v) h' R->BS P (.ops b (o::l)) ts h R
 |any {b o l ts h x as R}:wanted ts o.guard=some true->o.op=.nxM x->we h (RO.ev ts x)=some as->(∀v h',(v,h')∈as->gZ (dH ts o.dst v) h' o.cs=true) ->
  (∀v h',(v,h')∈as->BS P (.ops b l) (dH ts o.dst v) h' R)->BS P (.ops b (o::l)) ts h R
 |call {b o l ts h f args S R}:wanted ts o.guard=some true->o.op=.call f args->BS P (.call f (args.map (RO.ev ts))) .nil h S->(∀v h',S (.val v h')->gZ (dH ts o.dst v) h' o.cs=true) ->
  (∀v h',S (.val v h')->BS P (.ops b l) (dH ts o.dst v) h' R)->BS P (.ops b (o::l)) ts h R
 |callv {b o l ts h x args f caps S R}:wanted ts o.guard=some true->o.op=.callv x args->RO.ev ts x=.fn f caps ->
  BS P (.call f (args.map (RO.ev ts)++caps)) .nil h S->(∀v h',S (.val v h')->gZ (dH ts o.dst v) h' o.cs=true)->(∀v h',S (.val v h')->BS P (.ops b l) (dH ts o.dst v) h' R)->BS P (.ops b (o::l)) ts h R
 |yield {b o l ts h x args c S R}:wanted ts o.guard=some true->o.op=.callv x args->RO.ev ts x=.yld c ->
  BS P (.round c (args.map (RO.ev ts))) .nil h S->(∀v h',S (.val v h')->gZ (dH ts o.dst v) h' o.cs=true)->(∀v h',S (.val v h')->BS P (.ops b l) (dH ts o.dst v) h' R)->BS P (.ops b (o::l)) ts h R
 |skip {ts h R}:R (.norm ts h)->BS P (.code .skip) ts h R
 |reg {ops ts h R}:BS P (.ops h.next ops) ts h R->BS P (.code (.reg ops)) ts h R
 |regD {kn ops es ts h R}:(∃l,Lin ops.length es l)->(∀l,Lin ops.length es l->BS P (.ops h.next (l.filterMap (ops[·]?))) ts (h.keep kn) R)->BS P (.code (.regD kn ops es)) ts h R
 |regK {kn ops ts h R}:BS P (.ops h.next ops) ts (h.keep kn) R->BS P (.code (.regK kn ops)) ts h R
 |seq {a b ts h S R}:BS P (.code a) ts h S->(∀ts' h',S (.norm ts' h')->BS P (.code b) ts' h' R)->(∀id ts' h',S (.exit id ts' h')->R (.exit id ts' h')) ->
  (∀ts' h',S (.ret ts' h')->R (.ret ts' h'))->BS P (.code (.seq a b)) ts h R
 |cond {c a b ts h t R}:RO.ev ts c=.bool t->BS P (.code (if t then a else b)) ts h R->BS P (.code (.cond c a b)) ts h R
 |block {id c ts h S R}:BS P (.code c) ts h S->(∀o,S o->R (o.unblock id))->BS P (.code (.block id c)) ts h R
 |loop {c ts h S R}:BS P (.code c) ts h S->(∀ts' h',S (.norm ts' h')->BS P (.code (.loop c)) ts' h' R)->(∀id ts' h',S (.exit id ts' h')->R (.exit id ts' h')) ->
  (∀ts' h',S (.ret ts' h')->R (.ret ts' h'))->BS P (.code (.loop c)) ts h R
 |rangeF {fn p f ps asg body ts h g caps S R}:RO.ev ts f=.fn g caps->BS P (.call g (.yld h.next::caps)) .nil (h.new (.lp fn p ts ps .ready none)) S ->
  (∀v h',S (.val v h')->BM h.next ts R h')->BS P (.code (.rangeF fn p f ps asg body)) ts h R
 |exit {id ts h R}:R (.exit id ts h)->BS P (.code (.exit id)) ts h R
 |ret {ts h R}:R (.ret ts h)->BS P (.code .ret) ts h R
 |func {f args ts h rf S R}:P f=some rf->BS P (.code rf.body) (bV 0 args) h S->(∀id ts' h',¬S (.exit id ts' h')) ->
  (∀ts' h',S (.norm ts' h')\/S (.ret ts' h')->∃v,results rf ts' h'=some v/\R (.val v h'))->BS P (.call f args) ts h R
 |round {b args ts h fn p tl ps rf f asg body S S2 R}:h.get b=some (.lp fn p tl ps .ready none)->args.length=ps.length->P fn=some rf->rf.body.node p=some (.rangeF fn p f ps asg body) ->
  BS P (.code asg) (mB tl ps args) h S->(∀o,S o->∃ts1 h1 f1 p1 tl1 ps1,o=.norm ts1 h1/\h1.get b=some (.lp f1 p1 tl1 ps1 .ready none)) ->
  (∀ts1 h1 f1 p1 tl1 ps1,S (.norm ts1 h1)->h1.get b=some (.lp f1 p1 tl1 ps1 .ready none)->BS P (.code body) ts1 (h1.put b (.lp f1 p1 tl1 ps1 .busy none)) S2)->(∀o,S2 o->BL b R o)->BS P (.round b args) ts h R
 |srt {f b o n c zs ts h h' R}:P (f+oC)=some uq->ai h b o n=some (zs.map (AV.int .i64))->bP h b o (BV zs)=some h'->n<2^62->R (.val (.tup []) h')->BS P (.call f [.sl b o n c]) ts h R
 |srf {f g b o n c vs}{kf:Nat->Int}{ts h R}:P (f+oC)=some (tj g)->ai h b o n=some vs->0<n->n<2^62->(∀i v,vs[i]?=some v->tc h b (kf i) v) ->
  (∀is:List Nat,is.Perm (List.range n)->is.Pairwise (λi j=>kf i<=kf j)->∃h',bP h b o (is.map λi=>vs.getD i .un)=some h'/\R (.val (.tup []) h'))->BS P (.call f [.sl b o n c,.fn g []]) ts h R
def BS.mono{P:RP}{t:Task}{ts:Tm}{h:AH}{R R':Out->Prop}(hb:BS P t ts h R)(hr:∀o,R o->R' o):BS P t ts h R':=by
 induction hb generalizing R' with
 |nil a=>exact .nil (hr _ a)
 |skipped a _ ih=>exact .skipped a (ih hr)
 |op a b c _ ih=>exact .op a b c (ih hr)
 |any a b c k _ ih=>exact .any a b c k λv h' hm=>ih v h' hm hr
 |call a b c k _ _ ih=>exact .call a b c k λv h' hm=>ih v h' hm hr
 |callv a b c d k _ _ ih=>exact .callv a b c d k λv h' hm=>ih v h' hm hr
 |yield a b c d k _ _ ih=>exact .yield a b c d k λv h' hm=>ih v h' hm hr
 |skip a=>exact .skip (hr _ a)
 |reg _ ih=>exact .reg (ih hr)
 |regD a _ ih=>exact .regD a λl hl=>ih l hl hr
 |regK _ ih=>exact .regK (ih hr)
 |seq a _ c d _ ih=>exact .seq a (λts' h' hs=>ih ts' h' hs hr) (λ_ _ _ hs=>hr _ (c _ _ _ hs)) λ_ _ hs=>hr _ (d _ _ hs)
 |cond a _ ih=>exact .cond a (ih hr)
 |block a b=>exact .block a λo ho=>hr _ (b o ho)
 |loop a _ c d _ ih=>exact .loop a (λts' h' hs=>ih ts' h' hs hr) (λ_ _ _ hs=>hr _ (c _ _ _ hs)) λ_ _ hs=>hr _ (d _ _ hs)
 |rangeF a b c =>
   refine .rangeF a b λv h' hs=>?_;obtain⟨f1,p1,t1,q1,st,pend,h1,h2,h3⟩:=c v h' hs;refine⟨f1,p1,t1,q1,st,pend,h1,h2,?_⟩;split at h3<;>exact hr _ h3
 |exit a=>exact .exit (hr _ a)
 |ret a=>exact .ret (hr _ a)
 |func a b c d=>exact .func a b c λts' h' hs=>let ⟨v,h1,h2⟩:=d ts' h' hs;⟨v,h1,hr _ h2⟩
 |srt a b c d e=>exact .srt a b c d (hr _ e)
 |srf a b c d e k=>exact .srf a b c d e λis p q=>let ⟨h',x,y⟩:=k is p q;⟨h',x,hr _ y⟩
 |round a b c d e f g i =>
   refine .round a b c d e f g λo ho=>?_;have:=i o ho;cases o with
   |norm=>obtain⟨_,_,_,_,q1,q2⟩:=this;exact⟨_,_,_,_,q1,hr _ q2⟩
   |ret=>obtain⟨_,_,_,_,q1,q2⟩:=this;exact⟨_,_,_,_,q1,hr _ q2⟩
   |exit=>obtain⟨_,_,_,_,q1,q2⟩:=this;exact⟨_,_,_,_,q1,hr _ q2⟩
   |val=>exact this
def DT{h:AH}{x:AV}{as:List (AV×AH)}(he:we h x=some as):∃p,p∈as:=by
 unfold we at he;split at he
 .split at he
  .simp only[aa]at he;subst he;exact⟨(.tup [.bool false],h),by simp⟩
  .rename_i m since seen last hg
   split at he
   .rename_i es c hm
    split at he
    .cases he
    .simp only[aa]at he;subst he;by_cases ho:wQ es since seen=true
     .exact⟨(.tup [.bool false],h),by rw[if_pos ho];simp⟩
     .rw[if_neg ho];have:∃e,e∈Mu es since seen:=by
       simp only[wQ,tX]at ho;cases hc:(es.filter λe=>!seen.contains e.2.2).filter λe=>decide (e.2.2<since)with
       |nil=>exact absurd hc ho
       |cons e r=>exact⟨e,by unfold Mu;simp only[];rw[hc];simp⟩
      obtain⟨e,he⟩:=this;exact⟨_,by simp only[cr,bp];exact⟨e,he,rfl⟩⟩
   .cases he
  .cases he
 .cases he
def BS.comes{P:RP}{t:Task}{ts:Tm}{h:AH}{R:Out->Prop}(hb:BS P t ts h R):∃o,R o/\(match t with|.ops _ _=>∃ts' h',o=.norm ts' h'|.code _=>∀v h',o≠.val v h'|.call _ _=>∃v h',o=.val v h'|.round _ _=>∃v h',o=.val v h'):=by
 induction hb with
 |nil a=>exact⟨_,a,_,_,rfl⟩
 |skipped a _ ih=>exact ih
 |op a b c _ ih=>exact ih
 |any a b c k _ ih =>
   obtain⟨⟨v,h'⟩,hp⟩:=DT c;exact ih v h' hp
 |call a b c k _ i1 ih=>obtain⟨o,ho,v,h',rfl⟩:=i1;exact ih v h' ho
 |callv a b c d k _ i1 ih=>obtain⟨o,ho,v,h',rfl⟩:=i1;exact ih v h' ho
 |yield a b c d k _ i1 ih=>obtain⟨o,ho,v,h',rfl⟩:=i1;exact ih v h' ho
 |skip a=>exact⟨_,a,by simp⟩
 |srt a b c d e=>exact⟨_,e,_,_,rfl⟩
 |@srf f g b o n c vs kf ts h R _ _ _ _ _ k =>
   have q:=iY (le:=λi j=>decide (kf i<=kf j)) (λx y z h1 h2=>by simp only[aK]at *;omega) (λx y=>by simp only[dm,aK];omega) (List.range n);obtain⟨h',_,y⟩:=k _ (kP ..) (q.imp λh=>aY h);exact⟨_,y,_,_,rfl⟩
 |reg _ ih=>obtain⟨o,ho,_,_,rfl⟩:=ih;exact⟨_,ho,by simp⟩
 |regD a _ ih=>obtain⟨l,hl⟩:=a;obtain⟨o,ho,_,_,rfl⟩:=ih l hl;exact⟨_,ho,by simp⟩
 |regK _ ih=>obtain⟨o,ho,_,_,rfl⟩:=ih;exact⟨_,ho,by simp⟩
 |seq a _ c d i1 ih =>
   obtain⟨o,ho,hv⟩:=i1;cases o with
   |norm ts' h'=>exact ih _ _ ho
   |exit id ts' h'=>exact⟨_,c _ _ _ ho,by simp⟩
   |ret ts' h'=>exact⟨_,d _ _ ho,by simp⟩
   |val v h'=>exact absurd rfl (hv v h')
 |cond a _ ih=>exact ih
 |@block id c ts h S R a b ih =>
   obtain⟨o,ho,hv⟩:=ih;refine⟨_,b o ho,?_⟩;cases o with
   |norm ts' h'=>simp[Out.unblock]
   |exit id ts' h'=>simp only[Out.unblock];split<;>simp
   |ret ts' h'=>simp[Out.unblock]
   |val v h'=>exact absurd rfl (hv v h')
 |loop a _ c d i1 ih =>
   obtain⟨o,ho,hv⟩:=i1;cases o with
   |norm ts' h'=>exact ih _ _ ho
   |exit id ts' h'=>exact⟨_,c _ _ _ ho,by simp⟩
   |ret ts' h'=>exact⟨_,d _ _ ho,by simp⟩
   |val v h'=>exact absurd rfl (hv v h')
 |rangeF a b c ih =>
   obtain⟨o,ho,v,h',rfl⟩:=ih;obtain⟨f1,p1,t1,q1,st,pend,h1,h2,h3⟩:=c v h' ho;split at h3<;>exact⟨_,h3,by simp⟩
 |exit a=>exact⟨_,a,by simp⟩
 |ret a=>exact⟨_,a,by simp⟩
 |func a b c d ih =>
   obtain⟨o,ho,hv⟩:=ih;cases o with
   |norm ts' h'=>obtain⟨v,h1,h2⟩:=d _ _ (.inl ho);exact⟨_,h2,_,_,rfl⟩
   |exit id ts' h'=>exact absurd ho (c _ _ _)
   |ret ts' h'=>obtain⟨v,h1,h2⟩:=d _ _ (.inr ho);exact⟨_,h2,_,_,rfl⟩
   |val v h'=>exact absurd rfl (hv v h')
 |round a b c d e f g i i1 i2 =>
   obtain⟨o,ho,hv⟩:=i1;obtain⟨ts1,h1,f1,p1,tl1,ps1,rfl,hg⟩:=f o ho;obtain⟨o2,ho2,hv2⟩:=i2 _ _ _ _ _ _ ho hg;have:=i o2 ho2;cases o2 with
   |norm=>obtain⟨_,_,_,_,_,q⟩:=this;exact⟨_,q,_,_,rfl⟩
   |ret=>obtain⟨_,_,_,_,_,q⟩:=this;exact⟨_,q,_,_,rfl⟩
   |exit=>obtain⟨_,_,_,_,_,q⟩:=this;exact⟨_,q,_,_,rfl⟩
   |val v h'=>exact absurd rfl (hv2 v h')
end Go.Am
