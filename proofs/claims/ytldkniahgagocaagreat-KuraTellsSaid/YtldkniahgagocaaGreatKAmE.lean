/-
  The clean machine carried out: a run with fuel, for calls whose arguments are known; what it gives the machine gives.
-/
import Derived.Test.YtldkniahgagocaaGreatKAmW
set_option linter.all false
namespace Go.Am
def onVal (k:AV→AH→Option Out):Option Out→Option Out
 | some (.val v h)=>k v h
 | _=>none
def endRange (l:Nat) (ts:Tm) (h:AH):Option Out :=
 match h.get l with
 | some (.lp fn p tl ps st pend) =>
   if st=.busy then none else
   match pend with
   | none=>some (.norm ts (h.put l (.lp fn p tl ps .over none)))
   | some none=>some (.ret ts (h.put l (.lp fn p tl ps .over (some none))))
   | some (some id)=>some (.exit id ts (h.put l (.lp fn p tl ps .over (some (some id)))))
 | _=>none
def endRound1 (l:Nat) (st:LS) (pend:Option (Option Nat)) (b:Bool) (h:AH):Option Out :=
 match h.get l with
 | some (.lp fn p tl ps .busy none)=>some (.val (.bool b) (h.put l (.lp fn p tl ps st pend)))
 | _=>none
def endRound (l:Nat):Option Out→Option Out
 | some (.norm _ h)=>endRound1 l .ready none true h
 | some (.ret _ h)=>endRound1 l .done (some none) false h
 | some (.exit id _ h)=>endRound1 l .done (some (some id)) false h
 | _=>none
def goRes (rf:RF):Option Out→Option Out
 | some (.norm ts h)=>(results rf ts h).map fun v=>.val v h
 | some (.ret ts h)=>(results rf ts h).map fun v=>.val v h
 | _=>none
def puts:List (Nat×AO×Option Nat)→AH→AH
 | [],h=>h
 | x::r,h=>(puts r h).putG x.1 x.2.1 x.2.2
theorem puts_next:∀ (L:List (Nat×AO×Option Nat)) (h:AH),(puts L h).next=h.next
 | [],_=>rfl
 | x::r,h=>by rw[puts,AH.next_putG,puts_next r h]
theorem puts_get_ne:∀ (L:List (Nat×AO×Option Nat)) {h:AH}{n:Nat},(∀ x∈L,x.1<h.next∧x.1≠n)→(puts L h).get n=h.get n
 | [],_,_,_=>rfl
 | x::r,h,n,hn=>by
   rw[puts,AH.get_putG (by rw[puts_next]; exact (hn x (by simp)).1),if_neg (hn x (by simp)).2]
   exact puts_get_ne r fun y hy=>hn y (by simp [hy])
theorem puts_get:∀ (L:List (Nat×AO×Option Nat)) {h h2:AH}{n:Nat},(L.map (·.1)).Nodup→(∀ x∈L,x.1<h.next)→(∀ x∈L,x.1<h2.next)→n∈L.map (·.1)→(puts L h).get n=(puts L h2).get n
 | [],_,_,_,_,_,_,hn=>by cases hn
 | x::r,h,h2,n,hd,h1,h3,hn=>by
   rw[puts,puts,AH.get_putG (by rw[puts_next]; exact h1 x (by simp)),AH.get_putG (by rw[puts_next]; exact h3 x (by simp))]
   rw[List.map_cons,List.nodup_cons] at hd
   by_cases e:x.1=n
   ·rw[if_pos e,if_pos e]
   ·rw[if_neg e,if_neg e]
    rw[List.map_cons,List.mem_cons] at hn
    exact puts_get r hd.2 (fun y hy=>h1 y (by simp [hy])) (fun y hy=>h3 y (by simp [hy])) (hn.resolve_left fun q=>e q.symm)
theorem Out.heap_mapH (f:AH→AH) (o:Out):(o.mapH f).heap=f o.heap:=by cases o<;>rfl
theorem Out.mapH_mapH (f g:AH→AH) (o:Out):(o.mapH f).mapH g=o.mapH fun h=>g (f h):=by cases o<;>rfl
theorem BS.frames {P:RP}{t:Task}{ts:Tm} (ht:∀ b l,t≠.ops b l) {h:AH}{S:Out→Prop} (hb:BS P t ts h S):∀ (L:List (Nat×AO×Option Nat)),(L.map (·.1)).Nodup→(∀ x∈L,h.get x.1=some .resv) →
 BS P t ts (puts L h) (fun o=>∃ o0,S o0∧o=o0.mapH (puts L)∧∀ x∈L,o0.heap.get x.1=some .resv)
 | [],_,_=>hb.mono fun o ho=>⟨o,ho,by cases o<;>rfl,fun x hx=>by cases hx⟩
 | x::r,hd,hk=>by
   rw[List.map_cons,List.nodup_cons] at hd
   have hne:∀ y∈r,y.1≠x.1:=fun y hy e=>hd.1 (List.mem_map.2 ⟨y,hy,e⟩)
   have h1:=BS.frames ht hb r hd.2 fun y hy=>hk y (by simp [hy])
   have hx:(puts r h).get x.1=some .resv:=by
    rw[puts_get_ne r fun y hy=>⟨AH.lt_of_get (hk y (by simp [hy])),hne y hy⟩]
    exact hk x (by simp)
   refine (h1.frame (o:=x.2.1) (tg:=x.2.2) hx (fun b l q=>absurd q (ht b l))).mono ?_
   rintro o ⟨y,⟨o0,q1,rfl,q2⟩,q3,rfl⟩
   refine⟨o0,q1,by rw[Out.mapH_mapH]; rfl,fun z hz=>?_⟩
   rw[List.mem_cons] at hz
   rcases hz with rfl|hz
   ·rw[Out.heap_mapH,puts_get_ne r fun y hy=>⟨AH.lt_of_get (q2 y hy),hne y hy⟩] at q3
    exact q3
   ·exact q2 z hz
end Go.Am
