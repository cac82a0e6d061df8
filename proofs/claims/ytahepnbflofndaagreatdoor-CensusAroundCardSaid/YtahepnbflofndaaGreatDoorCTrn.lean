/-
  arborref15.turns: two of one block and two of another one, by turns.
-/
import Derived.Test.YtahepnbflofndaaGreatDoorCAroP
import Derived.Test.YtahepnbflofndaaGreatDoorCLk
import Derived.Test.YtahepnbflofndaaGreatDoorCAmR
set_option linter.all false
namespace Go.Proofs.YtahepnbflofndaaGreatDoor
open Go.Am
open Go.Aro (nth has t1 t2 t3)
theorem nth_get:∀ (l:List Nat) (i:Nat),i<l.length→l[i]?=some (nth l i)
 | a::l,0,_=>rfl
 | a::l,i+1,h=>by rw[List.getElem?_cons_succ]; exact nth_get l i (by simpa using h)
 | [],i,h=>by simp at h
theorem has_iff {x:Nat}:∀ {l:List Nat},has x l=true↔∃ i,i<l.length∧nth l i=x
 | []=>by simp [has]
 | y::r=>by
   unfold has
   rw[Bool.or_eq_true,Nat.beq_eq,has_iff]
   constructor
   ·rintro (h|⟨i,h1,h2⟩)
    ·exact⟨0,by simp,h⟩
    ·exact⟨i+1,by simpa using h1,h2⟩
   ·rintro⟨i,h1,h2⟩
    cases i with
    | zero=>exact .inl h2
    | succ i=>exact .inr ⟨i,by simpa using h1,h2⟩
theorem t3_iff {w x:Nat}:∀ {l:List Nat},t3 w x l=true↔∃ i j,i<j∧j<l.length∧nth l i=w∧nth l j=x
 | []=>by simp [t3]
 | y::r=>by
   unfold t3
   rw[Bool.or_eq_true,Bool.and_eq_true,Nat.beq_eq,has_iff,t3_iff]
   constructor
   ·rintro (⟨h,j,h1,h2⟩|⟨i,j,h1,h2,h3,h4⟩)
    ·exact⟨0,j+1,by omega,by simpa using h1,h,h2⟩
    ·exact⟨i+1,j+1,by omega,by simpa using h2,h3,h4⟩
   ·rintro⟨i,j,h1,h2,h3,h4⟩
    obtain⟨j,rfl⟩:∃ k,j=k+1:=⟨j-1,by omega⟩
    cases i with
    | zero=>exact .inl ⟨h3,j,by simpa using h2,h4⟩
    | succ i=>exact .inr ⟨i,j,by omega,by simpa using h2,h3,h4⟩
theorem t2_iff {w:Nat}:∀ {l:List Nat},t2 w l=true↔∃ b c d,b<c∧c<d∧d<l.length∧nth l b≠w∧nth l c=w∧nth l d=nth l b
 | []=>by simp [t2]
 | y::r=>by
   unfold t2
   rw[Bool.or_eq_true,Bool.and_eq_true,Bool.not_eq_true',← Bool.not_eq_true,Nat.beq_eq,t3_iff,t2_iff]
   constructor
   ·rintro (⟨h,i,j,h1,h2,h3,h4⟩|⟨b,c,d,h1,h2,h3,h4,h5,h6⟩)
    ·exact⟨0,i+1,j+1,by omega,by omega,by simpa using h2,h,h3,h4⟩
    ·exact⟨b+1,c+1,d+1,by omega,by omega,by simpa using h3,h4,h5,h6⟩
   ·rintro⟨b,c,d,h1,h2,h3,h4,h5,h6⟩
    obtain⟨c,rfl⟩:∃ k,c=k+1:=⟨c-1,by omega⟩
    obtain⟨d,rfl⟩:∃ k,d=k+1:=⟨d-1,by omega⟩
    cases b with
    | zero=>exact .inl ⟨h4,c,d,by omega,by simpa using h3,h5,h6⟩
    | succ b=>exact .inr ⟨b,c,d,by omega,by omega,by simpa using h3,h4,h5,h6⟩
def Tur (f:Nat→Nat) (a b c d:Nat):Prop:=f a=f c∧f b=f d∧f a≠f b
instance (f:Nat→Nat) (a b c d:Nat):Decidable (Tur f a b c d):=by unfold Tur; infer_instance
theorem t1_iff:∀ {l:List Nat},t1 l=true↔∃ a b c d,a<b∧b<c∧c<d∧d<l.length∧Tur (nth l) a b c d
 | []=>by simp [t1]
 | y::r=>by
   unfold t1
   rw[Bool.or_eq_true,t2_iff,t1_iff]
   constructor
   ·rintro (⟨b,c,d,h1,h2,h3,h4,h5,h6⟩|⟨a,b,c,d,h1,h2,h3,h4,h5,h6,h7⟩)
    ·exact⟨0,b+1,c+1,d+1,by omega,by omega,by omega,by simpa using h3,h5.symm,h6.symm,Ne.symm h4⟩
    ·exact⟨a+1,b+1,c+1,d+1,by omega,by omega,by omega,by simpa using h4,h5,h6,h7⟩
   ·rintro⟨a,b,c,d,h1,h2,h3,h4,h5,h6,h7⟩
    obtain⟨b,rfl⟩:∃ k,b=k+1:=⟨b-1,by omega⟩
    obtain⟨c,rfl⟩:∃ k,c=k+1:=⟨c-1,by omega⟩
    obtain⟨d,rfl⟩:∃ k,d=k+1:=⟨d-1,by omega⟩
    cases a with
    | zero=>exact .inl ⟨b,c,d,by omega,by omega,by simpa using h4,Ne.symm h7,h5.symm,h6.symm⟩
    | succ a=>exact .inr ⟨a,b,c,d,by omega,by omega,by omega,by simpa using h4,h5,h6,h7⟩
abbrev SlN (h:AH) (v:AV) (l:List Nat):Prop:=SlI h v (l.map fun n=>((n:Nat):Int))
theorem SlN.at {h:AH}{v:AV}{l:List Nat} (hs:SlN h v l) {i:Nat} (hi:i<l.length):∃ b o,iadrL 1 v (.int .i64 (i:Nat))=some (.ptr b o)∧rdCells h b o 1=some [.int .i64 (nth l i:Nat)]:=by
 obtain⟨b,o,a,r,_⟩:=Sl.at1 hs (i:=i) (y:=.int .i64 (nth l i:Nat)) (by rw[List.getElem?_map,List.getElem?_map,nth_get l i hi]; rfl)
 exact⟨b,o,a,r⟩
theorem nth_map {f:Nat→Nat}:∀ (l:List Nat) (i:Nat),i<l.length→nth (l.map f) i=f (nth l i)
 | a::l,0,_=>rfl
 | a::l,i+1,h=>nth_map l i (by simpa using h)
 | [],i,h=>by simp at h
theorem nth_mem:∀ (l:List Nat) (i:Nat),i<l.length→nth l i∈l:=fun l i h=>List.mem_of_getElem? (nth_get l i h)
set_option maxHeartbeats 1000000 in
theorem turns_ok {h:AH}{v w:AV}{o bk:List Nat} (hv:SlN h v o) (hw:SlN h w bk) (hol:o.length<2 ^ 40) (hin:∀ i∈o,i<bk.length):C prg 38 [v,w] h fun r h'=>r=.bool (t1 (o.map (nth bk)))∧h'=h:=by
 have el:=Sl.len hv
 rw[List.length_map,List.length_map] at el
 have av:∀ i,i<o.length→_:=fun i hi=>hv.at hi
 have aw:∀ i,i<o.length→_:=fun i hi=>hw.at (hin _ (nth_mem o i hi))
 have ht:t1 (o.map (nth bk))=true↔∃ a b c d,a<b∧b<c∧c<d∧d<o.length∧Tur (fun i=>nth bk (nth o i)) a b c d:=by
  rw[t1_iff,List.length_map]
  constructor
  ·rintro⟨a,b,c,d,h1,h2,h3,h4,h5,h6,h7⟩
   rw[nth_map _ _ (by omega),nth_map _ _ (by omega)] at h5 h6 h7
   exact⟨a,b,c,d,h1,h2,h3,h4,h5,h6,h7⟩
  ·rintro⟨a,b,c,d,h1,h2,h3,h4,h5,h6,h7⟩
   refine⟨a,b,c,d,h1,h2,h3,h4,?_,?_,?_⟩<;>rw[nth_map _ _ (by omega),nth_map _ _ (by omega)]<;>assumption
 refine C.func pf38 ?_
 refine W.seq (W.run (by simp only[am,evOp,simprocAttr,initTm]<;>rfl) ?_)
 refine W.seq (W.run (by simp only[am,evOp,simprocAttr,initTm,el]<;>rfl) ?_)
 refine W.seq (W.seq (W.run (by simp only[am,evOp,simprocAttr]<;>rfl) ?_))
 refine W.whl (α:=Unit) (N:=o.length) (fun k _=>[(0,v),(1,w),(5,.int .i64 (o.length:Nat)),(6,.int .i64 (k:Nat))]) (fun k _ h'=>h'=h∧∀ a b c d,a<k→a<b→b<c→c<d→d<o.length→¬ Tur (fun i=>nth bk (nth o i)) a b c d) () (by simp only[hl,am,evOp,simprocAttr,initTm,Int.natCast_zero]) ⟨rfl,fun a b c d q=>absurd q (Nat.not_lt_zero _)⟩ ?_ ?_ ?_
 ·rintro k _ ts h1 hk _ ⟨e0,e1,e5,e6,-⟩
  simp only at e0 e1 e5 e6
  exact⟨_,(by simp only[am,evOp,simprocAttr,e5,e6,Int.ofNat_lt]<;>rfl),by simp only[am,evOp,simprocAttr],by simp only[hl,am,evOp,simprocAttr,e0,e1,e5,e6]⟩
 ·rintro a _ ts h1 ha ⟨rfl,ja⟩ ⟨e0,e1,e5,e6,-⟩
  simp only at e0 e1 e5 e6
  have w1:IntKind.i64.wrap (((a:Nat):Int)+1)=((a+1:Nat):Int):=wr64 (by omega) (by omega)
  refine W.seq (W.run (by simp only[am,evOp,simprocAttr,e6,w1]<;>rfl) ?_)
  refine W.whl (α:=Unit) (N:=o.length-(a+1)) (fun k _=>[(0,v),(1,w),(5,.int .i64 (o.length:Nat)),(6,.int .i64 (a:Nat)),(7,.int .i64 ((a+1+k:Nat):Int))]) (fun k _ h'=>h'=h1∧∀ b c d,b<a+1+k→a<b→b<c→c<d→d<o.length→¬ Tur (fun i=>nth bk (nth o i)) a b c d) () (by simp only[hl,am,evOp,simprocAttr,e0,e1,e5,e6,Nat.add_zero]) ⟨rfl,fun b c d q=>by omega⟩ ?_ ?_ ?_
  ·clear e0 e1 e5 e6
   rintro k _ ts h2 hk _ ⟨e0,e1,e5,e6,e7,-⟩
   simp only at e0 e1 e5 e6 e7
   have c2:decide (((a+1+k:Nat):Int)<((o.length:Nat):Int))=decide (k<o.length-(a+1)):=by simp only[decide_eq_decide]; omega
   exact⟨_,(by simp only[am,evOp,simprocAttr,e5,e7,c2]<;>rfl),by simp only[am,evOp,simprocAttr],by simp only[hl,am,evOp,simprocAttr,e0,e1,e5,e6,e7]⟩
  ·clear e0 e1 e5 e6
   rintro kb _ ts h2 hkb ⟨rfl,jb⟩ ⟨e0,e1,e5,e6,e7,-⟩
   simp only at e0 e1 e5 e6 e7
   obtain⟨b,hb⟩:∃ b,b=a+1+kb:=⟨_,rfl⟩
   rw[← hb] at e7 jb
   have hbl:b<o.length:=by omega
   have w2:IntKind.i64.wrap (((b:Nat):Int)+1)=((b+1:Nat):Int):=wr64 (by omega) (by omega)
   refine W.seq (W.run (by simp only[am,evOp,simprocAttr,e7,w2]<;>rfl) ?_)
   refine W.whl (α:=Unit) (N:=o.length-(b+1)) (fun k _=>[(0,v),(1,w),(5,.int .i64 (o.length:Nat)),(6,.int .i64 (a:Nat)),(7,.int .i64 (b:Nat)),(8,.int .i64 ((b+1+k:Nat):Int))]) (fun k _ h'=>h'=h2∧∀ c d,c<b+1+k→b<c→c<d→d<o.length→¬ Tur (fun i=>nth bk (nth o i)) a b c d) () (by simp only[hl,am,evOp,simprocAttr,e0,e1,e5,e6,e7,Nat.add_zero]) ⟨rfl,fun c d q=>by omega⟩ ?_ ?_ ?_
   ·clear e0 e1 e5 e6 e7
    rintro k _ ts h3 hk _ ⟨e0,e1,e5,e6,e7,e8,-⟩
    simp only at e0 e1 e5 e6 e7 e8
    have c3:decide (((b+1+k:Nat):Int)<((o.length:Nat):Int))=decide (k<o.length-(b+1)):=by simp only[decide_eq_decide]; omega
    exact⟨_,(by simp only[am,evOp,simprocAttr,e5,e8,c3]<;>rfl),by simp only[am,evOp,simprocAttr],by simp only[hl,am,evOp,simprocAttr,e0,e1,e5,e6,e7,e8]⟩
   ·clear e0 e1 e5 e6 e7
    rintro kc _ ts h3 hkc ⟨rfl,jc⟩ ⟨e0,e1,e5,e6,e7,e8,-⟩
    simp only at e0 e1 e5 e6 e7 e8
    obtain⟨c,hc⟩:∃ c,c=b+1+kc:=⟨_,rfl⟩
    rw[← hc] at e8 jc
    have hcl:c<o.length:=by omega
    have w3:IntKind.i64.wrap (((c:Nat):Int)+1)=((c+1:Nat):Int):=wr64 (by omega) (by omega)
    refine W.seq (W.run (by simp only[am,evOp,simprocAttr,e8,w3]<;>rfl) ?_)
    refine W.whl (α:=Unit) (N:=o.length-(c+1)) (fun k _=>[(0,v),(1,w),(5,.int .i64 (o.length:Nat)),(6,.int .i64 (a:Nat)),(7,.int .i64 (b:Nat)),(8,.int .i64 (c:Nat)),(9,.int .i64 ((c+1+k:Nat):Int))]) (fun k _ h'=>h'=h3∧∀ d,d<c+1+k→c<d→d<o.length→¬ Tur (fun i=>nth bk (nth o i)) a b c d) () (by simp only[hl,am,evOp,simprocAttr,e0,e1,e5,e6,e7,e8,Nat.add_zero]) ⟨rfl,fun d q=>by omega⟩ ?_ ?_ ?_
    ·clear e0 e1 e5 e6 e7 e8
     rintro k _ ts h4 hk _ ⟨e0,e1,e5,e6,e7,e8,e9,-⟩
     simp only at e0 e1 e5 e6 e7 e8 e9
     have c4:decide (((c+1+k:Nat):Int)<((o.length:Nat):Int))=decide (k<o.length-(c+1)):=by simp only[decide_eq_decide]; omega
     exact⟨_,(by simp only[am,evOp,simprocAttr,e5,e9,c4]<;>rfl),by simp only[am,evOp,simprocAttr],by simp only[hl,am,evOp,simprocAttr,e0,e1,e5,e6,e7,e8,e9]⟩
    ·clear e0 e1 e5 e6 e7 e8
     rintro kd _ ts h4 hkd ⟨rfl,jd⟩ ⟨e0,e1,e5,e6,e7,e8,e9,-⟩
     simp only at e0 e1 e5 e6 e7 e8 e9
     obtain⟨d,hd⟩:∃ d,d=c+1+kd:=⟨_,rfl⟩
     rw[← hd] at e9 jd
     have hdl:d<o.length:=by omega
     have w4:IntKind.i64.wrap (((d:Nat):Int)+1)=((d+1:Nat):Int):=wr64 (by omega) (by omega)
     obtain⟨b1,p1,a1,r1⟩:=av a ha
     obtain⟨b2,p2,a2,r2⟩:=aw a ha
     obtain⟨b3,p3,a3,r3⟩:=av b hbl
     obtain⟨b4,p4,a4,r4⟩:=aw b hbl
     obtain⟨b5,p5,a5,r5⟩:=av c hcl
     obtain⟨b6,p6,a6,r6⟩:=aw c hcl
     obtain⟨b7,p7,a7,r7⟩:=av d hdl
     obtain⟨b8,p8,a8,r8⟩:=aw d hdl
     refine W.seq (W.run (by simp only[am,evOp,simprocAttr,e0,e1,e6,e7,e8,e9,a1,a2,a3,a4,a5,a6,a7,a8,r1,r2,r3,r4,r5,r6,r7,r8]<;>rfl) ?_)
     generalize hfa:nth bk (nth o a)=fa at *
     generalize hfb:nth bk (nth o b)=fb at *
     generalize hfc:nth bk (nth o c)=fc at *
     generalize hfd:nth bk (nth o d)=fd at *
     have hT:Tur (fun i=>nth bk (nth o i)) a b c d↔fa=fc∧fb=fd∧fa≠fb:=by unfold Tur; simp only[hfa,hfb,hfc,hfd]
     have next:¬ Tur (fun i=>nth bk (nth o i)) a b c d→∀ d',d'<c+1+(kd+1)→c<d'→d'<o.length→¬ Tur (fun i=>nth bk (nth o i)) a b c d':=fun hn d' q1 q2 q3=>by
      by_cases e:d'=d
      ·rw[e]; exact hn
      ·exact jd d' (by omega) q2 q3
     have e9':((d+1:Nat):Int)=((c+1+(kd+1):Nat):Int):=by rw[hd]; rfl
     by_cases q1:fa=fc
     case neg =>
      have c1:decide (((fa:Nat):Int)=((fc:Nat):Int))=false:=decide_eq_false (by omega)
      refine W.seq (W.run (by simp only[am,evOp,simprocAttr,c1]<;>rfl) ?_)
      refine W.no (by simp only[am,evOp,simprocAttr]) (W.skip ⟨(),⟨rfl,next fun t=>q1 (hT.1 t).1⟩,_,(by simp only[am,evOp,simprocAttr,e9,w4]<;>rfl),by simp only[hl,am,evOp,simprocAttr,e0,e1,e5,e6,e7,e8,e9']⟩)
     have c1:decide (((fa:Nat):Int)=((fc:Nat):Int))=true:=decide_eq_true (by omega)
     by_cases q2:fb=fd
     case neg =>
      have c2:decide (((fb:Nat):Int)=((fd:Nat):Int))=false:=decide_eq_false (by omega)
      refine W.seq (W.run (by simp only[am,evOp,simprocAttr,c1,c2]<;>rfl) ?_)
      refine W.no (by simp only[am,evOp,simprocAttr]) (W.skip ⟨(),⟨rfl,next fun t=>q2 (hT.1 t).2.1⟩,_,(by simp only[am,evOp,simprocAttr,e9,w4]<;>rfl),by simp only[hl,am,evOp,simprocAttr,e0,e1,e5,e6,e7,e8,e9']⟩)
     have c2:decide (((fb:Nat):Int)=((fd:Nat):Int))=true:=decide_eq_true (by omega)
     by_cases q3:fa=fb
     ·have c3:decide (((fa:Nat):Int)=((fb:Nat):Int))=true:=decide_eq_true (by omega)
      refine W.seq (W.run (by simp only[am,evOp,simprocAttr,c1,c2,c3]<;>rfl) ?_)
      refine W.no (by simp only[am,evOp,simprocAttr]) (W.skip ⟨(),⟨rfl,next fun t=>(hT.1 t).2.2 q3⟩,_,(by simp only[am,evOp,simprocAttr,e9,w4]<;>rfl),by simp only[hl,am,evOp,simprocAttr,e0,e1,e5,e6,e7,e8,e9']⟩)
     ·have c3:decide (((fa:Nat):Int)=((fb:Nat):Int))=false:=decide_eq_false (by omega)
      refine W.seq (W.run (by simp only[am,evOp,simprocAttr,c1,c2,c3]<;>rfl) ?_)
      refine W.yes (by simp only[am,evOp,simprocAttr]) (W.seq (W.run (by simp only[am,evOp,simprocAttr]<;>rfl) ?_))
      exact W.ret ⟨.bool true,(by simp only[rs,rf38,am,evOp,simprocAttr]<;>rfl),by rw[ht.2 ⟨a,b,c,d,by omega,by omega,by omega,hdl,hT.2 ⟨q1,q2,q3⟩⟩],rfl⟩
    ·rintro _ ts h4 ⟨rfl,jd⟩ ⟨e0,e1,e5,e6,e7,e8,-⟩
     simp only at e0 e1 e5 e6 e7 e8
     have e8':((c+1:Nat):Int)=((b+1+(kc+1):Nat):Int):=by rw[hc]; rfl
     refine⟨(),⟨rfl,fun c' d' q1 q2 q3 q4=>?_⟩,_,(by simp only[am,evOp,simprocAttr,e8,w3]<;>rfl),by simp only[hl,am,evOp,simprocAttr,e0,e1,e5,e6,e7,e8']⟩
     by_cases e:c'=c
     ·rw[e] at q3 ⊢
      exact jd d' (by omega) q3 q4
     ·exact jc c' d' (by omega) q2 q3 q4
   ·rintro _ ts h3 ⟨rfl,jc⟩ ⟨e0,e1,e5,e6,e7,-⟩
    simp only at e0 e1 e5 e6 e7
    have e7':((b+1:Nat):Int)=((a+1+(kb+1):Nat):Int):=by rw[hb]; rfl
    refine⟨(),⟨rfl,fun b' c' d' q1 q2 q3 q4 q5=>?_⟩,_,(by simp only[am,evOp,simprocAttr,e7,w2]<;>rfl),by simp only[hl,am,evOp,simprocAttr,e0,e1,e5,e6,e7']⟩
    by_cases e:b'=b
    ·rw[e] at q3 ⊢
     exact jc c' d' (by omega) q3 q4 q5
    ·exact jb b' c' d' (by omega) q2 q3 q4 q5
  ·rintro _ ts h2 ⟨rfl,jb⟩ ⟨e0,e1,e5,e6,-⟩
   simp only at e0 e1 e5 e6
   refine⟨(),⟨rfl,fun a' b' c' d' q0 q1 q2 q3 q4=>?_⟩,_,(by simp only[am,evOp,simprocAttr,e6,w1]<;>rfl),by simp only[hl,am,evOp,simprocAttr,e0,e1,e5]⟩
   by_cases e:a'=a
   ·rw[e] at q1 ⊢
    exact jb b' c' d' (by omega) q1 q2 q3 q4
   ·exact ja a' b' c' d' (by omega) q1 q2 q3 q4
 ·rintro _ ts h1 ⟨rfl,ja⟩ ⟨e0,e1,e5,e6,-⟩
  refine W.seq (W.run (by simp only[am,evOp,simprocAttr]<;>rfl) ?_)
  refine W.ret ⟨.bool false,(by simp only[rs,rf38,am,evOp,simprocAttr]<;>rfl),?_,rfl⟩
  cases hq:t1 (o.map (nth bk)) with
  | false=>rfl
  | true =>
    obtain⟨a,b,c,d,h1,h2,h3,h4,h5⟩:=ht.1 hq
    exact absurd h5 (ja a b c d (by omega) h1 h2 h3 h4)
end Go.Proofs.YtahepnbflofndaaGreatDoor
