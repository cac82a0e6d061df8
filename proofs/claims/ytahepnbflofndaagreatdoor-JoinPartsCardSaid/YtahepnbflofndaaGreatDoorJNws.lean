/- What came in lies at names that the example's run keeps. -/
import Derived.Test.YtahepnbflofndaaGreatDoorJRf
import Derived.Test.YtahepnbflofndaaGreatDoorJAmF
import Derived.Test.YtahepnbflofndaaGreatDoorJAmR
set_option linter.all false
namespace Go.Proofs.YtahepnbflofndaaGreatDoor
open Go.Am
theorem ju {α:Type} (p:List Bool) (x:α):(T.nil:T α).set p x=(T.node .nil none .nil).set p x:=by
 cases p with
 | nil=>rfl
 | cons b p=>cases b<;>rfl
theorem set_same {α:Type} (x y:α):∀ (p:List Bool) (t:T α),(t.set p x).set p y=t.set p y:=by
 intro p
 induction p with
 | nil =>
   intro t
   cases t<;>rfl
 | cons b p ih =>
   intro t
   cases t with
   | nil =>
     rw[ju,ju (b::p) y]
     have i0:=ih .nil
     simp only[T.set] at i0
     cases b<;>simp only[T.set,i0]
   | node l v r=>cases b<;>simp only[T.set,ih]
theorem set_comm {α:Type} (x y:α):∀ (p q:List Bool) (t:T α),p≠q→(t.set p x).set q y=(t.set q y).set p x:=by
 intro p
 induction p with
 | nil =>
   intro q t h
   cases q with
   | nil=>exact absurd rfl h
   | cons b q =>
     cases t with
     | nil =>
       rw[ju,ju (b::q) y]
       cases b<;>rfl
     | node l v r=>cases b<;>rfl
 | cons a p ih =>
   intro q t h
   cases q with
   | nil =>
     cases t with
     | nil =>
       rw[ju,ju [] y]
       cases a<;>rfl
     | node l v r=>cases a<;>rfl
   | cons b q =>
     have key:∀ (l r:T α) (v:Option α),((T.node l v r).set (a::p) x).set (b::q) y=((T.node l v r).set (b::q) y).set (a::p) x:=by
      intro l r v
      cases a<;>cases b
      ·simp only[T.set]
       rw[ih q r (λe=>h (by rw[e]))]
      ·simp only[T.set]
      ·simp only[T.set]
      ·simp only[T.set]
       rw[ih q l (λe=>h (by rw[e]))]
     cases t with
     | nil =>
       rw[ju,ju (b::q) y]
       exact key _ _ _
     | node l v r=>exact key _ _ _
theorem yo {m n:Nat} (h:m≠n):eU m≠eU n:=λe=>h (fG.1 e)
theorem Fe {h:AH}{m:Nat}{o a:AO} (hm:m≠h.next):(h.new a).put m o=(h.put m o).new a:=by
 unfold AH.put AH.new
 simp only
 rw[set_comm _ _ _ _ _ (yo (Ne.symm hm))]
theorem Fn {h:AH}{o a:AO}:(h.new a).put h.next o=h.new o:=by
 unfold AH.put AH.new
 simp only
 rw[set_same]
theorem vq:∀ (k:Nat) (h:AH) (m:Nat) (o:AO),m<h.next→(h.keep k).put m o=(h.put m o).keep k
 | 0,_,_,_,_=>rfl
 | k+1,h,m,o,hm=>by
   show ((h.new .resv).keep k).put m o=((h.put m o).new .resv).keep k
   rw[vq k (h.new .resv) m o (by simp; omega),Fe om]
theorem Fd {h:AH}{m n:Nat}{a b:AO} (hmn:m≠n):(h.put m a).put n b=(h.put n b).put m a:=by
 unfold AH.put
 simp only
 rw[set_comm _ _ _ _ _ (yo hmn)]
def nu:List AO→Nat→List (Nat×AO×Option Nat)
 | [],_=>[]
 | o::r,n=>(n,o,none)::nu r (n+1)
theorem ue:∀ (os:List AO) (n:Nat),(nu os n).map (·.1)=List.range' n os.length
 | [],n=>rfl
 | o::r,n=>by rw[nu,cC,ue r,aV,List.range'_succ]
theorem uN:∀ (Z:List AO) (n:Nat) (h:AH) (m:Nat) (o:AO),m<n→gD (nu Z n) (h.put m o)=(gD (nu Z n) h).put m o
 | [],_,_,_,_,_=>rfl
 | a::r,n,h,m,o,hm=>by
   show ((gD (nu r (n+1)) (h.put m o))).put n a=(((gD (nu r (n+1)) h)).put n a).put m o
   rw[uN r (n+1) h m o om,Fd om]
theorem rM:∀ (os:List AO) (h:AH),news os h=gD (nu os h.next) (h.keep os.length)
 | [],h=>rfl
 | o::r,h=>by
   show news r (h.new o)=(gD (nu r (h.next+1)) ((h.new .resv).keep r.length)).put h.next o
   rw[rM r (h.new o),← uN _ _ _ _ _ om,vq _ _ _ _ (by simp),Fn]
   rfl
theorem Sl.stay {h h':AH}{e:Nat}{v:AV}{xs:List (List AV)} (hk:∀ b o,h.get b=some o→h'.get b=some o) (hs:Sl h e v xs):Sl h' e v xs:=by
 rcases hs with hs|⟨b,o,c,cs,ro,h1,h2,h3⟩
 ·exact .inl hs
 ·exact .inr ⟨b,o,c,cs,ro,h1,hk _ _ h2,h3⟩
theorem Cj {os:List AO}{h:AH}{a:AO}:(news os h).new a=news (os++[a]) h:=by
 induction os generalizing h with
 | nil=>rfl
 | cons o r ih=>exact ih
theorem zc {f:FuncId}{S0:AH}{m:Nat} (hg:GoodS prg ⟨.call f [] S0,[]⟩) (hS:S0=AH.zero.keep m) {os:List AO} (hl:os.length=m) (hm:0<m) :
 C prg f [] (news os AH.zero) λv h'=>v=.bool true∧8+m≤h'.next∧∀ b o,(news os AH.zero).get b=some o→h'.get b=some o:=by
 have he:news os AH.zero=gD (nu os 8) S0:=by
  rw[rM,hl,hS]
  rfl
 have hfst:(nu os 8).map (·.1)=List.range' 8 m:=by rw[ue,hl]
 have hmem:∀ b,b∈(nu os 8).map (·.1)↔8≤b∧b<8+m:=λb=>by
  rw[hfst,List.mem_range'_1]
 have h8:AH.zero.next=8:=rfl
 rw[he]
 refine (C.of_goodS hg (nu os 8) (by rw[hfst]; exact List.nodup_range') (λx hx=>?_)).mono λv h' ⟨e1,e2⟩=>⟨e1,?_,λb o hb=>?_⟩
 ·have:=(hmem x.1).1 (bJ.2 ⟨x,hx,rfl⟩)
  rw[hS,AH.keep_get,if_pos ⟨om,om⟩]
 ·have:=(e2 (8+m-1) ((hmem _).2 om)).1
  omega
 ·have hbl:b<8+m:=by
   have:=AH.lt_of_get hb
   rw[iK,hS,AH.keep_next] at this
   omega
  by_cases h8:8≤b
  ·rw[(e2 b ((hmem b).2 ⟨h8,hbl⟩)).2]
   exact hb
  ·exfalso
   rw[← he,uZ _ _ _ (show b<AH.zero.next from by show b<8; omega),AH.get_zero] at hb
   cases hb
end Go.Proofs.YtahepnbflofndaaGreatDoor
