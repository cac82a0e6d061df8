/-
  Lists of lists of numbers, grown from nothing.
-/
import Derived.Test.YticaalcbgikjjaaGreatDoorKLa
set_option linter.all false
namespace Go.Proofs.YticaalcbgikjjaaGreatDoor
open Go.Am
abbrev SlN (h:AH) (v:AV) (l:List Nat):Prop:=SlI h v (l.map fun n=>((n:Nat):Int))
def nC (l:List Nat):List AV:=(l.map fun n=>((n:Nat):Int)).flatMap eI
theorem nC_len (l:List Nat):(nC l).length=l.length:=by
 unfold nC
 rw[flat_len (f:=eI) (e:=1) (fun _=>rfl),List.length_map]; omega
theorem nC_app (a b:List Nat):nC (a++b)=nC a++nC b:=by
 unfold nC
 rw[List.map_append,List.flatMap_append]
theorem nC_sl {h:AH}{lo:Nat}{v:AV}{l:List Nat} (hv:IsSl h 1 lo v (nC l)):SlN h v l:=IsSl.sl (by omega) (fun _=>rfl) hv
def LL (h:AH) (lo:Nat) (a:AV) (xss:List (List Nat)):Prop :=
 ∃ vs:List AV,IsSl h 1 lo a vs∧vs.length=xss.length∧∀ (i:Nat) (v:AV) (xs:List Nat),vs[i]?=some v→xss[i]?=some xs→IsSl h 1 lo v (nC xs)∧∀ b n b' n',v=.sl b 0 n n→a=.sl b' 0 n' n'→b≠b'
theorem LL.ext {h h':AH}{lo hi:Nat}{a:AV}{xss:List (List Nat)} (hl:LL h lo a xss) (hx:Ext hi h h') (hn:h.next≤hi):LL h' lo a xss:=by
 obtain⟨vs,h1,h2,h3⟩:=hl
 exact⟨vs,h1.ext hx hn,h2,fun i v xs q1 q2=>⟨(h3 i v xs q1 q2).1.ext hx hn,(h3 i v xs q1 q2).2⟩⟩
theorem LL.mono {h:AH}{lo lo':Nat}{a:AV}{xss:List (List Nat)} (hl:LL h lo a xss) (hn:lo'≤lo):LL h lo' a xss:=by
 obtain⟨vs,h1,h2,h3⟩:=hl
 exact⟨vs,h1.mono hn,h2,fun i v xs q1 q2=>⟨(h3 i v xs q1 q2).1.mono hn,(h3 i v xs q1 q2).2⟩⟩
theorem LL.push {h:AH}{lo x:Nat}{a v:AV}{xss:List (List Nat)}{xs:List Nat} (hl:LL h lo a xss) (hlo:lo≤h.next) (hv:IsSl h 1 lo v (nC xs)) (hx:h.get x=some (.cells [v] 1 false)) (hxl:lo≤x) (hxa:∀ b n,a=.sl b 0 n n→b≠x)
 (hva:∀ b n b' n',v=.sl b 0 n n→a=.sl b' 0 n' n'→b≠b') (hb:(xss.length+1)*24<tooMany) :
 ∃ a' h',appA h 1 24 a (.sl x 0 1 1)=some (a',h')∧LL h' lo a' (xss++[xs])∧Ext lo h h'∧h'.next=h.next+1∧(∀ c,c<h.next→(∀ b n,a=.sl b 0 n n→c≠b)→h'.get c=h.get c)∧∀ c n,a'=.sl c 0 n n→c=h.next:=by
 obtain⟨vs,h1,h2,h3⟩:=hl
 obtain⟨a',h',q1,q2,q3,q4,q5,q6,_⟩:=h1.app (bytes:=24) hlo (by omega) hx hxl hxa rfl (by simp [hv.cells.2]) (by rw[Nat.div_one,h2]; exact hb) (by rw[Nat.div_one,h2]; unfold tooMany at *; omega)
 have keep:∀ (w:AV) (cs:List AV),IsSl h 1 lo w cs→(∀ b n b' n',w=.sl b 0 n n→a=.sl b' 0 n' n'→b≠b')→IsSl h' 1 lo w cs∧∀ b n b' n',w=.sl b 0 n n→a'=.sl b' 0 n' n'→b≠b':=fun w cs hw hn=>by
  refine⟨hw.cong fun b n e _=>q6 b (hw.lt e) fun b' n' e'=>hn b n b' n' e e',fun b n b' n' e e'=>?_⟩
  have:=hw.lt e
  rw[q4] at e'
  cases e'
  omega
 refine⟨a',h',q1,⟨vs++[v],q2,by rw[List.length_append,List.length_append,h2]; rfl,fun i w ys e1 e2=>?_⟩,q3,q5,q6,fun c n e=>by rw[q4] at e; cases e; rfl⟩
 by_cases hi:i<vs.length
 ·rw[List.getElem?_append_left hi] at e1
  rw[List.getElem?_append_left (by omega)] at e2
  obtain⟨k1,k2⟩:=h3 i w ys e1 e2
  exact keep w _ k1 k2
 ·have hil:i<(vs++[v]).length:=(List.getElem?_eq_some_iff.1 e1).1
  rw[List.length_append,List.length_cons,List.length_nil] at hil
  have hi':i=vs.length:=by omega
  subst hi'
  rw[List.getElem?_append_right (by omega),Nat.sub_self] at e1
  rw[h2,List.getElem?_append_right (by omega),Nat.sub_self] at e2
  cases e1
  cases e2
  exact keep v _ hv hva
theorem LL.at {h:AH}{lo:Nat}{a:AV}{xss:List (List Nat)} (hl:LL h lo a xss) {i:Nat} (hi:i<xss.length):∃ b o v,iadrL 1 a (.int .i64 (i:Nat))=some (.ptr b o)∧rdCells h b o 1=some [v]∧IsSl h 1 lo v (nC xss[i])∧b<h.next:=by
 obtain⟨vs,h1,h2,h3⟩:=hl
 have hs:Sl h 1 a (vs.map fun x=>[x]):=by
  rcases h1 with ⟨rfl,rfl⟩|⟨b,n,_,rfl,hg,hn⟩
  ·exact .inl ⟨rfl,.inl rfl⟩
  ·exact Sl.row hg (by omega) (Nat.le_refl _)
 have hv:vs[i]?=some (vs[i]'(by omega)):=List.getElem?_eq_getElem _
 obtain⟨b,o,q1,q2,q3⟩:=hs.at1 (i:=i) (y:=vs[i]'(by omega)) (by rw[List.getElem?_map,hv]; rfl)
 exact⟨b,o,_,q1,q2,(h3 i _ _ hv (List.getElem?_eq_getElem hi)).1,q3⟩
theorem LL.len {h:AH}{lo:Nat}{a:AV}{xss:List (List Nat)} (hl:LL h lo a xss):lenLA a=some (.int .i64 (xss.length:Nat)):=by
 obtain⟨vs,h1,h2,h3⟩:=hl
 rcases h1 with ⟨rfl,rfl⟩|⟨b,n,_,rfl,hg,hn⟩
 ·rw[← h2]; rfl
 ·rw[← h2,hn,Nat.mul_one]; rfl
theorem LL.cong {h h':AH}{lo:Nat}{a:AV}{xss:List (List Nat)} (hl:LL h lo a xss) (hk:∀ c,lo≤c→c<h.next→h'.get c=h.get c):LL h' lo a xss:=by
 obtain⟨vs,h1,h2,h3⟩:=hl
 exact⟨vs,h1.cong fun b n e hb=>hk b hb (h1.lt e),h2,fun i v xs q1 q2=>⟨(h3 i v xs q1 q2).1.cong fun b n e hb=>hk b hb ((h3 i v xs q1 q2).1.lt e),(h3 i v xs q1 q2).2⟩⟩
theorem LL.lt {h:AH}{lo:Nat}{a:AV}{xss:List (List Nat)} (hl:LL h lo a xss) {b n:Nat} (e:a=.sl b 0 n n):b<h.next:=by
 obtain⟨vs,h1,_⟩:=hl
 exact h1.lt e
end Go.Proofs.YticaalcbgikjjaaGreatDoor
