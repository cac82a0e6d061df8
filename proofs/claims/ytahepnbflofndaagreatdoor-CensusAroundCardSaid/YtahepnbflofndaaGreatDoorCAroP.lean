/-
  In how many ways edges of blocks can stand around a vertex: all orders of up to seven are gone through.
-/
import Derived.KernelRfl
set_option linter.all false
namespace Go.Aro
def has (x:Nat):List Nat→Bool
 | []=>false
 | y::r=>Nat.beq y x||has x r
def t3 (w x:Nat):List Nat→Bool
 | []=>false
 | y::r=>(Nat.beq y w&&has x r)||t3 w x r
def t2 (w:Nat):List Nat→Bool
 | []=>false
 | x::r=>(!Nat.beq x w&&t3 w x r)||t2 w r
def t1:List Nat→Bool
 | []=>false
 | w::r=>t2 w r||t1 r
def dropsF (first:Nat):Nat→List Nat→Nat
 | prev,[]=>bif Nat.blt first prev then 1 else 0
 | prev,b::r=>(bif Nat.blt b prev then 1 else 0)+dropsF first b r
def drops:List Nat→Nat
 | []=>0
 | a::r=>dropsF a a r
def blkF:Nat→List Nat→List Nat
 | _,[]=>[]
 | k,s::r=>List.replicate s k++blkF (k+1) r
def blkOf (sizes:List Nat):List Nat:=blkF 0 sizes
def nth:List Nat→Nat→Nat
 | [],_=>0
 | a::_,0=>a
 | _::r,i+1=>nth r i
def keptM (block:List Nat) (order:List Nat):Nat→Bool
 | 0=>true
 | k+1=>keptM block order k&&Nat.ble (drops (order.filter fun o=>Nat.beq (nth block o) k)) 1
def picks (pre:List Nat):List Nat→List (Nat×List Nat)
 | []=>[]
 | a::r=>(a,pre++r)::picks (pre++[a]) r
def orders:Nat→List Nat→List (List Nat)
 | 0,_=>[[]]
 | f+1,l=>match l with
   | []=>[[]]
   | _=>(picks [] l).flatMap fun p=>(orders f p.2).map (p.1::·)
def from1:Nat→Nat→List Nat
 | _,0=>[]
 | i,n+1=>i::from1 (i+1) n
def goodO (block:List Nat) (blocks:Nat) (o:List Nat):Bool:=keptM block (0::o) blocks&&!t1 ((0::o).map (nth block))
def aroundM (sizes:List Nat):Nat :=
 match blkOf sizes with
 | []=>1
 | _::r=>((orders r.length (from1 1 r.length)).filter (goodO (blkOf sizes) sizes.length)).length
def numbers (sizes:List Nat):List Nat :=
 if 1<sizes.length then sizes++from1 (sizes.foldl (·+·) 0-sizes.length+2) (sizes.length-2) else []
def prodM (l:List Nat):Nat:=l.foldl (·*·) 1
def comps:Nat→Nat→List (List Nat)
 | 0,_=>[[]]
 | f+1,0=>[[]]
 | f+1,n+1=>(from1 1 (n+1)).flatMap fun a=>(comps f (n+1-a)).map (a::·)
def okN (n:Nat):Bool:=(comps n n).all fun s=>Nat.beq (aroundM s) (prodM (numbers s))
theorem ok0:okN 0=true:=by kernel_rfl
theorem ok1:okN 1=true:=by kernel_rfl
theorem ok2:okN 2=true:=by kernel_rfl
theorem ok3:okN 3=true:=by kernel_rfl
theorem ok4:okN 4=true:=by kernel_rfl
theorem ok5:okN 5=true:=by kernel_rfl
theorem ok6:okN 6=true:=by kernel_rfl
end Go.Aro
