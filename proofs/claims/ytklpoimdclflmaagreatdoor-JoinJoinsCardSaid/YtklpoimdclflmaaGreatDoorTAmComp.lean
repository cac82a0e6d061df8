/- From the model's operations and code to the clean machine's -/
import Derived.Test.YtklpoimdclflmaaGreatDoorTAmDefs
set_option linter.all false
namespace Go.Am
def LC:Value->Option AV
 |.bool b=>some (.bool b)
 |.int k n=>some (.int k n)
 |.string s=>some (.str s.data.toList)
 |.pointer none=>some .nilp
 |.slice none 0 0=>some .nils
 |.map none=>some .nilm
 |.nilFunc=>some .nilf
 |.nilIface=>some .nili
 |_=>none
def Fy:List Value->Option (List AV)
 |[]=>some []
 |v::r=>match LC v,Fy r with
   |some a,some as=>some (a::as)
   |_,_=>none
def ofV:Value->Option AV
 |.agg cs=>(Fy cs.toList).map .agg
 |.tuple vs=>if vs.toList.isEmpty then some .un else none
 |v=>LC v
def cO:Operand->Option RO
 |.tmp t=>some (.t t)
 |.const v=>(ofV v).map .c
 |.global g=>if g<NG then some (.gl g)else none
 |.func f=>some (.fu f)
def cOs:List Operand->Option (List RO)
 |[]=>some []
 |x::r=>match cO x,cOs r with
   |some a,some as=>some (a::as)
   |_,_=>none
def cOo:Option Operand->Option (Option RO)
 |none=>some none
 |some x=>(cO x).map some
section
variable (P:Program)
def eU(t:TypeId):Option Nat:=(P.info? t).map (·.size)
def tU(t:TypeId):Option Nat:=(P.info? t).map (·.bytes)
def gu(t:TypeId):Option (List AV):=(P.info? t).bind λi=>i.zero.bind λz=>(ofV z).map AV.cells
def qi(t:TypeId):Option Bool:=(P.underlying t).map fun|.struct _|.array _ _=>true|_=>false
def Nf(t:TypeId):Option Nat:=match P.underlying t with
 |some (.array _ e)=>eU P e
 |some _=>eU P t
 |none=>none
def uX(t:TypeId):Option (Bool×Nat):=match qi P t,eU P t with
 |some true,some n=>some (true,n)
 |some false,some 1=>some (false,1)
 |_,_=>none
def ui(fs:List Field):Option (List (Nat×Nat)):=fs.mapM λf=>(eU P f.type).map λn=>(f.offset,n)
def kC(place:Nat->Option (Nat×Nat)):List (Nat×Operand)->Option (List (Nat×Nat×RO))
 |[]=>some []
 |(i,x)::r=>match place i,cO x,kC place r with
   |some (o,n),some x,some r=>some ((o,n,x)::r)
   |_,_,_=>none
def mG:List Field->Nat->Option (List IntKind)
 |[],_=>some []
 |f::r,n=>match P.underlying f.type,mG r (n+1)with
   |some (.int k),some ks=>if f.offset=n/\f.name≠ "_" then some (k::ks)else none
   |_,_=>none
def cEq(t:TypeId):Option RE :=
 match P.underlying t with
 |some (.int _) | some .string=>some .no
 |some .bool=>some .bl
 |some (.pointer e)=>match eU P e with
   |some (_+1)=>some .ptr
   |_=>none
 |some (.slice _)=>some .nls
 |some (.map _ _)=>some .nlm
 |some (.struct fs)=>if P.stoodInHeld t=false/\P.eqGuardType P.depth t=false then(mG P fs.toList 0).map .flat else none
 |some (.array n e)=>match P.underlying e with
   |some (.int k)=>if eU P e=some 1/\P.eqGuardType P.depth t=false then some (.flat (List.replicate n k))else none
   |_=>none
 |_=>none
def nV(t:TypeId):Option RE :=
 match P.underlying t with
 |some (.int _)=>some .ki
 |some .string=>some .ks
 |some (.struct _)=>match cEq P t with
   |some (.flat ks)=>some (.flat ks)
   |_=>none
 |_=>none
def sE(t:TypeId):Option AV:=(P.info? t).bind λi=>i.zero.bind ofV
def Gv(t:TypeId)(m k v:Operand):Option ROp:=match P.underlying t with
 |some (.map kt _)=>match nV P kt,cO m,cO k,cO v with
   |some q,some m,some k,some v=>some (.mup q m k v)
   |_,_,_,_=>none
 |_=>none
def known(t:TypeId):Bool:=match P.info? t with
 |some i=>match i.desc with
   |.named n _=>n== "strings.Builder"
   |_=>false
 |none=>false
def NJ(t:TypeId):Bool:=match P.underlying t with
 |some (.int .u8)=>true
 |_=>false
def Df(e:TypeId)(s x:RO):Option ROp:=match eU P e,tU P e,gu P e with
 |some n,some b,some z=>if z.length=n then(if NJ P e=true/\n=1/\b=1 then some (.appB e s x)else some (.app n b s x))else none
 |_,_,_=>none
def outer(f:FuncId):Option (Option TypeId) :=
 match P.funcs[f]? with
 |some fn=>match fn.body with
   |some _=>none
   |none =>
     if fn.name= "internal/abi.NoEscape"/\fn.origin= "" then some none
     else if fn.name= "internal/bytealg.MakeNoZero"/\fn.origin= "" then
      match fn.resultTypes.toList with
      |[t]=>match P.underlying t with
        |some (.slice e)=>if eU P e=some 1 then some (some e)else none
        |_=>none
      |_=>none
     else none
 |none=>none
def wk(q:Option TypeId)(args:List Operand):Option ROp :=
 match q,args with
 |none,[x]=>(cO x).map .mov
 |some e,[x]=>(cO x).map (.mkz e)
 |_,_=>none
def cOp:Op->Option ROp
 |.move x | .assign x=>(cO x).map .mov
 |.pick c a b=>match cO c,cO a,cO b with
   |some c,some a,some b=>some (.pick c a b)
   |_,_,_=>none
 |.alloc t=>match gu P t,Nf P t with
   |some z,some e=>if known P t then some (.newT z e t)else some (.new z e)
   |_,_=>none
 |.box t x=>match Nf P t,eU P t,cO x with
   |some e,some n,some x=>some (.box e n x)
   |_,_,_=>none
 |.build t ps=>match P.underlying t,gu P t with
   |some (.struct fs),some z=>match ui P fs.toList with
     |some pl=>(kC (pl[·]?) ps.toList).map (.build z)
     |none=>none
   |some (.array _ e),some z=>match eU P e with
     |some n=>(kC (λi=>some (i*n,n)) ps.toList).map (.build z)
     |none=>none
   |_,_=>none
 |.buildSlice t len ps=>match P.underlying t with
   |some (.slice e)=>match eU P e,gu P e with
     |some n,some z=>if z.length=n/\len*n<=2^24 then(kC (λi=>some (i*n,n)) ps.toList).map (.mksl z n len)else none
     |_,_=>none
   |_=>none
 |.load t a=>match uX P t,cO a with
   |some (g,n),some a=>some (.load g n a)
   |_,_=>none
 |.store t a v=>match eU P t,cO a,cO v with
   |some n,some a,some v=>some (.store n a v)
   |_,_,_=>none
 |.nilCheck x=>(cO x).map .nilck
 |.binOp op t x y _=>match cEq P t,cO x,cO y with
   |some e,some x,some y=>some (.bin op e x y)
   |_,_,_=>none
 |.unOp op _ x=>(cO x).map (.un op)
 |.convert s d x=>match P.underlying s,P.underlying d,cO x with
   |some (.int _),some (.int k),some x=>some (.cvI k x)
   |some (.slice e),some .string,some x=>if P.underlying e matches some (.int .u8)then some (.cvBS x)else none
   |some .string,some (.slice e),some x=>if P.underlying e matches some (.int .u8)then some (.cvSB x)else none
   |some (.slice _),some (.slice e),some x=>if s=d then(if P.underlying e matches some (.int .u8)then some (.cvSS x)else none)else none
   |some (.pointer t),some .unsafePointer,some x=>match eU P t with
     |some (_+1)=>some (.cvU x)
     |_=>none
   |some .unsafePointer,some (.pointer t),some x=>match eU P t with
     |some (n+1)=>some (.cvP t (n+1) x)
     |_=>none
   |_,_,_=>none
 |.makeInterface t x=>match P.underlying t,cO x with
   |some (.interface _),_=>none
   |some _,some x=>some (.mki t x)
   |_,_=>none
 |.makeFunc (.func f) first caps=>if first.toList.isEmpty then(cOs caps.toList).map (.mkf f)else none
 |.makeSlice t l c=>match P.underlying t with
   |some (.slice e)=>match eU P e,tU P e,gu P e,cO l,cO c with
     |some n,some b,some z,some l,some c=>if z.length=n then some (.mks z n b l c)else none
     |_,_,_,_,_=>none
   |_=>none
 |.slice t x lo hi mx=>match P.underlying t,cO x,cOo lo,cOo hi,cOo mx with
   |some .string,some x,some lo,some hi,some none=>some (.slS x lo hi)
   |some (.slice e),some x,some lo,some hi,some mx=>(eU P e).map λn=>.slL n x lo hi mx
   |some (.array n e),some x,some lo,some hi,some mx=>(eU P e).map λs=>.slA n s x lo hi mx
   |_,_,_,_,_=>none
 |.fieldAddr t x f=>match P.underlying t,cO x with
   |some (.struct fs),some x=>match fs[f]? with
     |some f=>match eU P f.type with
       |some (_+1)=>some (.fadr f.offset x)
       |_=>none
     |none=>none
   |_,_=>none
 |.field t x f=>match P.underlying t,cO x with
   |some (.struct fs),some x=>match fs[f]? with
     |some f=>(uX P f.type).map λ(g,n)=>.fld g f.offset n x
     |none=>none
   |_,_=>none
 |.indexAddr t x i=>match P.underlying t,cO x,cO i with
   |some (.slice e),some x,some i=>(eU P e).map λn=>.iadr n x i
   |some (.array n e),some x,some i=>(eU P e).map λs=>.iadrA n s x i
   |_,_,_=>none
 |.index t x i=>match P.underlying t,cO x,cO i with
   |some .string,some x,some i=>some (.idxS x i)
   |some (.array n e),some x,some i=>match uX P e with
     |some (g,s)=>some (.idxA g n s x i)
     |none=>none
   |_,_,_=>none
 |.extract x i=>(cO x).map (.ext · i)
 |.makeMap t none=>match P.underlying t with
   |some (.map _ _)=>some .mkmap
   |_=>none
 |.lookup t m k ok=>match P.underlying t with
   |some (.map kt e)=>match nV P kt,sE P e,cO m,cO k with
     |some q,some z,some m,some k=>some (.mlk q ok z m k)
     |_,_,_,_=>none
   |_=>none
 |.mapUpdate t m k v=>Gv P t m k v
 |.insert t m k v=>Gv P t m k v
 |.mapEntry t m k=>match P.underlying t with
   |some (.map kt e)=>match nV P kt,sE P e,cO m,cO k with
     |some q,some z,some m,some k=>some (.men q z m k)
     |_,_,_,_=>none
   |_=>none
 |.entryStore _ m s v=>match cO m,cO s,cO v with
   |some m,some s,some v=>some (.mst m s v)
   |_,_,_=>none
 |.range t x=>match P.underlying t,cO x with
   |some (.map _ _),some x=>some (.rgM x)
   |_,_=>none
 |.next x false=>(cO x).map .nxM
 |.entry x=>(cO x).map .ent
 |.call { callee:=.builtin b,args,argTypes}=>match b,args.toList,argTypes.toList with
   |.len,[x],t::_=>match P.underlying t,cO x with
     |some (.slice _),some x=>some (.lenL x)
     |some .string,some x=>some (.lenS x)
     |some (.map _ _),some x=>some (.lenM x)
     |_,_=>none
   |.clear,[x],t::_=>match P.underlying t,cO x with
     |some (.map _ _),some x=>some (.mcl x)
     |some (.slice e),some x=>match eU P e,gu P e with
       |some n,some z=>if z.length=n/\n≠0 then some (.scl z x)else none
       |_,_=>none
     |_,_=>none
   |.cap,[x],t::_=>match P.underlying t,cO x with
     |some (.slice _),some x=>some (.capL x)
     |_,_=>none
   |.copy,[d,s],t::_=>match P.underlying t,cO d,cO s with
     |some (.slice e),some d,some s=>(eU P e).map λn=>.cpy n d s
     |_,_,_=>none
   |.unsafeSliceData,[x],_=>(cO x).map .sdat
   |.unsafeString,[x,n],t::_=>match P.underlying t,cO x,cO n with
     |some (.pointer e),some x,some n=>if eU P e=some 1 then some (.ustr e x n)else none
     |_,_,_=>none
   |.max,xs,_=>(cOs xs).map .mx
   |.min,xs,_=>(cOs xs).map .mn
   |.append,[s,x],t::t'::_=>match P.underlying t,P.underlying t',cO s,cO x with
     |some (.slice e),some (.slice _),some s,some x=>Df P e s x
     |some (.slice e),some .string,some s,some x=>Df P e s x
     |some (.slice e),some (.int _),some s,some x=>match eU P e,tU P e,gu P e with
       |some n,some b,some z=>if z.length=n/\n≠0 then some (.apz z b s x)else none
       |_,_,_=>none
     |_,_,_,_=>none
   |_,_,_=>none
 |.call { callee:=.value f,args,..}=>match f with
   |.func f=>match outer P f with
     |some q=>wk q args.toList
     |none=>(cOs args.toList).map (.call f)
   |.tmp t=>(cOs args.toList).map (.callv (.t t))
   |_=>none
 |_=>none
def ta(nt:Nat)(ops:List Oper):Option (Nat×Bool)->Option (Option (Nat×Bool))
 |none=>some none
 |some (j,b)=>match ops[j]? with
   |some o=>match o.dst with
     |some d=>if d<nt then some (some (d,b))else none
     |none=>none
   |none=>none
def xW(nt:Nat)(ops:List Oper)(o:Oper):Option ROper :=
 match ta nt ops o.guard,o.dst with
 |some g,none=>some { dst:=none,op:=(cOp P o.op).getD .bad,guard:=g,nm:=none,cs:=[]}
 |some g,some d=>if d<nt then some { dst:=some d,op:=(cOp P o.op).getD .bad,guard:=g,nm:=none,cs:=[]}else none
 |_,_=>none
def nT(nt:Nat)(ops:List Oper):List Oper->Option (List ROper)
 |[]=>some []
 |o::r=>match xW P nt ops o,nT nt ops r with
   |some a,some as=>some (a::as)
   |_,_=>none
def jR(o:Oper):List Nat:=(o.after.toList.filter λe=>Region.binds .any e).map (·.on)
def mm:Nat->List (List Nat)->Bool
 |_,[]=>true
 |n,e::r=>e.all (·<n)&&mm (n+1) r
def ROp.lays:ROp->Bool
 |.new _ _ | .newT _ _ _ | .box _ _ _ | .mksl _ _ _ _ | .cvSB _ | .mks _ _ _ _ _ | .mkmap | .rgM _=>true
 |_=>false
def names(j:Nat):List ROper->List ROper
 |[]=>[]
 |o::r=>if o.op.lays then { o with nm:=some j}::names (j+1) r else o::names j r
def sW:List ROper->Nat
 |[]=>0
 |o::r=>(if o.op.lays then 1 else 0)+sW r
def qM(l:List ROper):Nat×List ROper:=if sW l<=1/\l.all (λo=>match o.op with|.call _ _|.callv _ _|.app _ _ _ _|.appB _ _ _|.apz _ _ _ _|.mkz _ _=>false|_=>true)then(0,l)else(sW l,names 0 l)
def RC.flatR:RC->Bool
 |.seq a b=>a.flatR&&b.flatR
 |.cond _ a b=>a.flatR&&b.flatR
 |.block _ c=>c.flatR
 |.loop c=>c.flatR
 |.rangeF ..=>false
 |_=>true
def eL(fn:FuncId)(nt:Nat):List Bool->Code->Option RC
 |_,.skip=>some .skip
 |_,.region _ ops draw=>match nT P nt ops.toList ops.toList with
   |some l=>if draw then(if mm 0 (ops.toList.map jR)then some (.regD (qM l).1 (qM l).2 (ops.toList.map jR))else none)else some (.reg l)
   |none=>none
 |p,.seq a b=>match eL fn nt (false::p) a,eL fn nt (true::p) b with
   |some a,some b=>some (.seq a b)
   |_,_=>none
 |p,.cond c a b=>match cO c,eL fn nt (false::p) a,eL fn nt (true::p) b with
   |some c,some a,some b=>some (.cond c a b)
   |_,_,_=>none
 |p,.block id c=>(eL fn nt (false::p) c).map (.block id)
 |p,.loop c=>(eL fn nt (false::p) c).map .loop
 |p,.rangeFunc f ps a b=>match cO f,eL fn nt (false::p) a,eL fn nt (true::p) b with
   |some x,some a,some b=>if a.flatR&&b.flatR&&ps.toList.all (·<nt)then some (.rangeF fn p.reverse x ps.toList a b)else none
   |_,_,_=>none
 |_,.exit id=>some (.exit id)
 |_,.ret=>some .ret
 |_,_=>some .bad
def cRes:ResultVar->Option RR
 |.tmp t=>some (.t t)
 |.cell a t=>(uX P t).map λ(g,n)=>.cell a g n
def vM:List ResultVar->Option (List RR)
 |[]=>some []
 |r::rs=>match cRes P r,vM rs with
   |some a,some as=>some (a::as)
   |_,_=>none
def cFn(f:FuncId)(fn:Func):Option RF :=
 match fn.body with
 |some c=>if fn.name= "runtime.NumGoroutine" then none else match eL P f fn.ntmps [] c,vM P fn.results.toList with
   |some b,some rs=>some { results:=rs,body:=b}
   |_,_=>none
 |none=>none
def bZ(f:FuncId):Option RF:=(P.funcs[f]?).bind (cFn P f)
end
end Go.Am
