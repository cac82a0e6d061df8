/- Lists of lists of numbers, grown from nothing. -/
import Derived.Test.YtpeemonpdlifbaaGreatVTAC
set_option linter.all false
namespace Go.Proofs.YtpeemonpdlifbaaGreat
open Go.Am
abbrev SlN (h:AH) (v:AV) (l:List Nat):Prop:=SlI h v (l.map λn=>((n:Nat):Int))
def nC (l:List Nat):List AV:=(l.map λn=>((n:Nat):Int)).flatMap eI
theorem gT (l:List Nat):(nC l).length=l.length:=by
 unfold nC
 rw[gc (f:=eI) (e:=1) (λ_=>rfl),ak]; omega
theorem rV (a b:List Nat):nC (a++b)=nC a++nC b:=by
 unfold nC
 rw[ez,eH]
theorem eu {h:AH}{lo:Nat}{v:AV}{l:List Nat} (hv:IsSl h 1 lo v (nC l)):SlN h v l:=IsSl.sl om (λ_=>rfl) hv
def LL (h:AH) (lo:Nat) (a:AV) (xss:List (List Nat)):Prop :=
 ∃ vs:List AV,IsSl h 1 lo a vs∧vs.length=xss.length∧∀ (i:Nat) (v:AV) (xs:List Nat),vs[i]?=some v→xss[i]?=some xs→IsSl h 1 lo v (nC xs)∧∀ b n b' n',v=.sl b 0 n n→a=.sl b' 0 n' n'→b≠b'
theorem LL.ext {h h':AH}{lo hi:Nat}{a:AV}{xss:List (List Nat)} (hl:LL h lo a xss) (hx:Ext hi h h') (hn:h.next≤hi):LL h' lo a xss:=by
 obtain⟨vs,h1,h2,h3⟩:=hl
 exact⟨vs,h1.ext hx hn,h2,λi v xs q1 q2=>⟨(h3 i v xs q1 q2).1.ext hx hn,(h3 i v xs q1 q2).2⟩⟩
theorem LL.mono {h:AH}{lo lo':Nat}{a:AV}{xss:List (List Nat)} (hl:LL h lo a xss) (hn:lo'≤lo):LL h lo' a xss:=by
 obtain⟨vs,h1,h2,h3⟩:=hl
 exact⟨vs,h1.mono hn,h2,λi v xs q1 q2=>⟨(h3 i v xs q1 q2).1.mono hn,(h3 i v xs q1 q2).2⟩⟩
theorem LL.push {h:AH}{lo x:Nat}{a v:AV}{xss:List (List Nat)}{xs:List Nat} (hl:LL h lo a xss) (hlo:lo≤h.next) (hv:IsSl h 1 lo v (nC xs)) (hx:h.get x=some (.cells [v] 1 false)) (hxl:lo≤x) (hxa:∀ b n,a=.sl b 0 n n→b≠x)
 (hva:∀ b n b' n',v=.sl b 0 n n→a=.sl b' 0 n' n'→b≠b') (hb:(xss.length+1)*24<be) :
 ∃ a' h',ja h 1 24 a (.sl x 0 1 1)=some (a',h')∧LL h' lo a' (xss++[xs])∧Ext lo h h'∧h'.next=h.next+1∧(∀ c,c<h.next→(∀ b n,a=.sl b 0 n n→c≠b)→h'.get c=h.get c)∧∀ c n,a'=.sl c 0 n n→c=h.next:=by
 obtain⟨vs,h1,h2,h3⟩:=hl
 obtain⟨a',h',q1,q2,q3,q4,q5,q6,_⟩:=h1.app (bytes:=24) hlo om hx hxl hxa rfl (by simp [hv.cells.2]) (by rw[kb,h2]; exact hb) (by rw[kb,h2]; unfold be at *; omega)
 have keep:∀ (w:AV) (cs:List AV),IsSl h 1 lo w cs→(∀ b n b' n',w=.sl b 0 n n→a=.sl b' 0 n' n'→b≠b')→IsSl h' 1 lo w cs∧∀ b n b' n',w=.sl b 0 n n→a'=.sl b' 0 n' n'→b≠b':=λw cs hw hn=>by
  refine⟨hw.cong λb n e _=>q6 b (hw.lt e) λb' n' e'=>hn b n b' n' e e',λb n b' n' e e'=>?_⟩
  have:=hw.lt e
  rw[q4] at e'
  cases e'
  omega
 refine⟨a',h',q1,⟨vs++[v],q2,by rw[aI,aI,h2]; rfl,λi w ys e1 e2=>?_⟩,q3,q5,q6,λc n e=>by rw[q4] at e; cases e; rfl⟩
 by_cases hi:i<vs.length
 ·rw[bC hi] at e1
  rw[bC om] at e2
  obtain⟨k1,k2⟩:=h3 i w ys e1 e2
  exact keep w _ k1 k2
 ·have hil:i<(vs++[v]).length:=(aK.1 e1).1
  rw[aI,aw,aP] at hil
  have hi':i=vs.length:=om
  subst hi'
  rw[aU om,eO] at e1
  rw[h2,aU om,eO] at e2
  cases e1
  cases e2
  exact keep v _ hv hva
theorem LL.at {h:AH}{lo:Nat}{a:AV}{xss:List (List Nat)} (hl:LL h lo a xss) {i:Nat} (hi:i<xss.length):∃ b o v,kR 1 a (.int .i64 (i:Nat))=some (.ptr b o)∧ar h b o 1=some [v]∧IsSl h 1 lo v (nC xss[i])∧b<h.next:=by
 obtain⟨vs,h1,h2,h3⟩:=hl
 have hs:Sl h 1 a (vs.map λx=>[x]):=by
  rcases h1 with ⟨rfl,rfl⟩|⟨b,n,_,rfl,hg,hn⟩
  ·exact .inl ⟨rfl,.inl rfl⟩
  ·exact Sl.row hg om (ae _)
 have hv:vs[i]?=some (vs[i]'om):=ah _
 obtain⟨b,o,q1,q2,q3⟩:=hs.at1 (i:=i) (y:=vs[i]'om) (by rw[aG,hv]; rfl)
 exact⟨b,o,_,q1,q2,(h3 i _ _ hv (ah hi)).1,q3⟩
theorem LL.len {h:AH}{lo:Nat}{a:AV}{xss:List (List Nat)} (hl:LL h lo a xss):jS a=some (.int .i64 (xss.length:Nat)):=by
 obtain⟨vs,h1,h2,h3⟩:=hl
 rcases h1 with ⟨rfl,rfl⟩|⟨b,n,_,rfl,hg,hn⟩
 ·rw[← h2]; rfl
 ·rw[← h2,hn,aO]; rfl
theorem LL.cong {h h':AH}{lo:Nat}{a:AV}{xss:List (List Nat)} (hl:LL h lo a xss) (hk:∀ c,lo≤c→c<h.next→h'.get c=h.get c):LL h' lo a xss:=by
 obtain⟨vs,h1,h2,h3⟩:=hl
 exact⟨vs,h1.cong λb n e hb=>hk b hb (h1.lt e),h2,λi v xs q1 q2=>⟨(h3 i v xs q1 q2).1.cong λb n e hb=>hk b hb ((h3 i v xs q1 q2).1.lt e),(h3 i v xs q1 q2).2⟩⟩
theorem LL.lt {h:AH}{lo:Nat}{a:AV}{xss:List (List Nat)} (hl:LL h lo a xss) {b n:Nat} (e:a=.sl b 0 n n):b<h.next:=by
 obtain⟨vs,h1,_⟩:=hl
 exact h1.lt e
end Go.Proofs.YtpeemonpdlifbaaGreat
