/-
  What came in lies at names that the example's run keeps.
-/
import Derived.Test.YtahepnbflofndaaGreatDoorCRf
import Derived.Test.YtahepnbflofndaaGreatDoorCAmF
import Derived.Test.YtahepnbflofndaaGreatDoorCAmR
set_option linter.all false
namespace Go.Proofs.YtahepnbflofndaaGreatDoor
open Go.Am
theorem set_nil {α:Type} (p:List Bool) (x:α):(T.nil:T α).set p x=(T.node .nil none .nil).set p x:=by
 cases p with
 | nil=>rfl
 | cons b p=>cases b<;>rfl
theorem set_same {α:Type} (x y:α):∀ (p:List Bool) (t:T α),(t.set p x).set p y=t.set p y:=by
 intro p
 induction p with
 | nil =>
   intro t
   cases t<;>rfl
 | cons b p ih =>
   intro t
   cases t with
   | nil =>
     rw[set_nil,set_nil (b::p) y]
     have i0:=ih .nil
     simp only[T.set] at i0
     cases b<;>simp only[T.set,i0]
   | node l v r=>cases b<;>simp only[T.set,ih]
theorem set_comm {α:Type} (x y:α):∀ (p q:List Bool) (t:T α),p≠q→(t.set p x).set q y=(t.set q y).set p x:=by
 intro p
 induction p with
 | nil =>
   intro q t h
   cases q with
   | nil=>exact absurd rfl h
   | cons b q =>
     cases t with
     | nil =>
       rw[set_nil,set_nil (b::q) y]
       cases b<;>rfl
     | node l v r=>cases b<;>rfl
 | cons a p ih =>
   intro q t h
   cases q with
   | nil =>
     cases t with
     | nil =>
       rw[set_nil,set_nil [] y]
       cases a<;>rfl
     | node l v r=>cases a<;>rfl
   | cons b q =>
     have key:∀ (l r:T α) (v:Option α),((T.node l v r).set (a::p) x).set (b::q) y=((T.node l v r).set (b::q) y).set (a::p) x:=by
      intro l r v
      cases a<;>cases b
      ·simp only[T.set]
       rw[ih q r (fun e=>h (by rw[e]))]
      ·simp only[T.set]
      ·simp only[T.set]
      ·simp only[T.set]
       rw[ih q l (fun e=>h (by rw[e]))]
     cases t with
     | nil =>
       rw[set_nil,set_nil (b::q) y]
       exact key _ _ _
     | node l v r=>exact key _ _ _
theorem path_ne {m n:Nat} (h:m≠n):path m≠path n:=fun e=>h (path_inj.1 e)
theorem put_new {h:AH}{m:Nat}{o a:AO} (hm:m≠h.next):(h.new a).put m o=(h.put m o).new a:=by
 unfold AH.put AH.new
 simp only
 rw[set_comm _ _ _ _ _ (path_ne (Ne.symm hm))]
theorem new_put {h:AH}{o a:AO}:(h.new a).put h.next o=h.new o:=by
 unfold AH.put AH.new
 simp only
 rw[set_same]
theorem keep_put:∀ (k:Nat) (h:AH) (m:Nat) (o:AO),m<h.next→(h.keep k).put m o=(h.put m o).keep k
 | 0,_,_,_,_=>rfl
 | k+1,h,m,o,hm=>by
   show ((h.new .resv).keep k).put m o=((h.put m o).new .resv).keep k
   rw[keep_put k (h.new .resv) m o (by simp; omega),put_new (by omega)]
theorem put_put {h:AH}{m n:Nat}{a b:AO} (hmn:m≠n):(h.put m a).put n b=(h.put n b).put m a:=by
 unfold AH.put
 simp only
 rw[set_comm _ _ _ _ _ (path_ne hmn)]
def zipN:List AO→Nat→List (Nat×AO×Option Nat)
 | [],_=>[]
 | o::r,n=>(n,o,none)::zipN r (n+1)
theorem zipN_fst:∀ (os:List AO) (n:Nat),(zipN os n).map (·.1)=List.range' n os.length
 | [],n=>rfl
 | o::r,n=>by rw[zipN,List.map_cons,zipN_fst r,List.length_cons,List.range'_succ]
theorem puts_put:∀ (Z:List AO) (n:Nat) (h:AH) (m:Nat) (o:AO),m<n→puts (zipN Z n) (h.put m o)=(puts (zipN Z n) h).put m o
 | [],_,_,_,_,_=>rfl
 | a::r,n,h,m,o,hm=>by
   show ((puts (zipN r (n+1)) (h.put m o))).put n a=(((puts (zipN r (n+1)) h)).put n a).put m o
   rw[puts_put r (n+1) h m o (by omega),put_put (by omega)]
theorem news_puts:∀ (os:List AO) (h:AH),news os h=puts (zipN os h.next) (h.keep os.length)
 | [],h=>rfl
 | o::r,h=>by
   show news r (h.new o)=(puts (zipN r (h.next+1)) ((h.new .resv).keep r.length)).put h.next o
   rw[news_puts r (h.new o),← puts_put _ _ _ _ _ (by omega),keep_put _ _ _ _ (by simp),new_put]
   rfl
end Go.Proofs.YtahepnbflofndaaGreatDoor
