/- The clean machine carried out -/
import Derived.Test.YtklpoimdclflmaaGreatDoorTAmW
set_option linter.all false
namespace Go.Am
def onVal(k:AV->AH->Option Out):Option Out->Option Out
 |some (.val v h)=>k v h
 |_=>none
def rV(l:Nat)(ts:Tm)(h:AH):Option Out :=
 match h.get l with
 |some (.lp fn p tl ps st pend) =>
   if st=.busy then none else
   match pend with
   |none=>some (.norm ts (h.put l (.lp fn p tl ps .over none)))
   |some none=>some (.ret ts (h.put l (.lp fn p tl ps .over (some none))))
   |some (some id)=>some (.exit id ts (h.put l (.lp fn p tl ps .over (some (some id)))))
 |_=>none
def mY(l:Nat)(st:LS)(pend:Option (Option Nat))(b:Bool)(h:AH):Option Out :=
 match h.get l with
 |some (.lp fn p tl ps .busy none)=>some (.val (.bool b) (h.put l (.lp fn p tl ps st pend)))
 |_=>none
def pn(l:Nat):Option Out->Option Out
 |some (.norm _ h)=>mY l .ready none true h
 |some (.ret _ h)=>mY l .done (some none) false h
 |some (.exit id _ h)=>mY l .done (some (some id)) false h
 |_=>none
def vi(rf:RF):Option Out->Option Out
 |some (.norm ts h)=>(results rf ts h).map λv=>.val v h
 |some (.ret ts h)=>(results rf ts h).map λv=>.val v h
 |_=>none
def mD:List (Nat×AO×Option Nat)->AH->AH
 |[],h=>h
 |x::r,h=>(mD r h).putG x.1 x.2.1 x.2.2
def lz:∀(L:List (Nat×AO×Option Nat)) (h:AH),(mD L h).next=h.next
 |[],_=>rfl
 |x::r,h=>by rw[mD,AH.next_putG,lz r h]
def oU:∀(L:List (Nat×AO×Option Nat)) {h:AH}{n:Nat},(∀x∈L,x.1<h.next/\x.1≠n)->(mD L h).get n=h.get n
 |[],_,_,_=>rfl
 |x::r,h,n,hn=>by
   rw[mD,AH.get_putG (by rw[lz];exact(hn x (by simp)).1),if_neg (hn x (by simp)).2];exact oU r λy hy=>hn y (by simp[hy])
def Ao:∀(L:List (Nat×AO×Option Nat)) {h h2:AH}{n:Nat},(L.map (·.1)).Nodup->(∀x∈L,x.1<h.next)->(∀x∈L,x.1<h2.next)->n∈L.map (·.1)->(mD L h).get n=(mD L h2).get n
 |[],_,_,_,_,_,_,hn=>by cases hn
 |x::r,h,h2,n,hd,h1,h3,hn=>by
   rw[mD,mD,AH.get_putG (by rw[lz];exact h1 x (by simp)),AH.get_putG (by rw[lz];exact h3 x (by simp))];rw[bO,cn]at hd;by_cases e:x.1=n
   .rw[if_pos e,if_pos e]
   .rw[if_neg e,if_neg e];rw[bO,aF]at hn;exact Ao r hd.2 (λy hy=>h1 y (by simp[hy])) (λy hy=>h3 y (by simp[hy])) (hn.resolve_left λq=>e q.symm)
def Out.heap_mapH(f:AH->AH)(o:Out):(o.mapH f).heap=f o.heap:=by cases o<;>rfl
def Out.mapH_mapH(f g:AH->AH)(o:Out):(o.mapH f).mapH g=o.mapH λh=>g (f h):=by cases o<;>rfl
def BS.frames{P:RP}{t:Task}{ts:Tm}(ht:∀b l,t≠.ops b l){h:AH}{S:Out->Prop}(hb:BS P t ts h S):∀(L:List (Nat×AO×Option Nat)),(L.map (·.1)).Nodup->(∀x∈L,h.get x.1=some .resv) ->
 BS P t ts (mD L h) (λo=>∃o0,S o0/\o=o0.mapH (mD L)/\∀x∈L,o0.heap.get x.1=some .resv)
 |[],_,_=>hb.mono λo ho=>⟨o,ho,by cases o<;>rfl,λx hx=>by cases hx⟩
 |x::r,hd,hk=>by
   rw[bO,cn]at hd;have hne:∀y∈r,y.1≠x.1:=λy hy e=>hd.1 (bp.2 ⟨y,hy,e⟩);have h1:=BS.frames ht hb r hd.2 λy hy=>hk y (by simp[hy]);have hx:(mD r h).get x.1=some .resv:=by
    rw[oU r λy hy=>⟨AH.lt_of_get (hk y (by simp[hy])),hne y hy⟩];exact hk x (by simp)
   refine(h1.frame (o:=x.2.1) (tg:=x.2.2) hx (λb l q=>absurd q (ht b l))).mono ?_;rintro o ⟨y,⟨o0,q1,rfl,q2⟩,q3,rfl⟩;refine⟨o0,q1,by rw[Out.mapH_mapH];rfl,λz hz=>?_⟩;rw[aF]at hz;rcases hz with rfl|hz
   .rw[Out.heap_mapH,oU r λy hy=>⟨AH.lt_of_get (q2 y hy),hne y hy⟩]at q3;exact q3
   .exact q2 z hz
end Go.Am
