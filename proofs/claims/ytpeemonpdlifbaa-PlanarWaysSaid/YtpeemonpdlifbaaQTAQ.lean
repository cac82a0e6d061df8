/-
  planar: a way is laid. Two ways from one vertex; what is found in a part. Plain words, no program in sight. A way through a part, between two vertices at which it hangs. Plain words, no program in sight.
-/
import Derived.Test.YtpeemonpdlifbaaQTAP
import Derived.Test.YtpeemonpdlifbaaQTAK
set_option linter.all false
namespace Go.Proofs.Ytpeemonpdlifbaa
open Go.Am
open Go.Pla (at_ jn On)
theorem on_take {g:Go.Blk.Gr}{w:List Nat}{k i:Nat} (hk:k<w.length):On g (w.take (k+1)) i↔On g (w.take k) i∨∃ j,k=j+1∧jn g i (w.getD j 0) (w.getD k 0)=true:=by
 have h1:w.take (k+1)=w.take k++[w[k]]:=by rw[List.take_add_one,List.getElem?_eq_getElem hk]; rfl
 have hd:w.getD k 0=w[k]:=by simp [List.getD,hk]
 constructor
 ·rintro⟨a,x,y,b,h2,h3⟩
  rw[h1] at h2
  rcases List.eq_nil_or_concat b with rfl|⟨b,q,rfl⟩
  ·have h4:w.take k++[w[k]]=(a++[x])++[y]:=by rw[h2]; simp
   obtain⟨h5,h6⟩:=List.append_inj' h4 rfl
   injection h6 with h6
   have hl:=congrArg List.length h5
   rw[List.length_take,List.length_append,List.length_singleton] at hl
   have hk1:k=a.length+1:=by omega
   refine .inr ⟨a.length,hk1,?_⟩
   have:w.getD a.length 0=x:=by
    have h7:(w.take k)[a.length]?=some x:=by rw[h5]; simp
    rw[List.getElem?_take] at h7
    rw[if_pos (by omega)] at h7
    simp [List.getD,h7]
   rw[this,hd,h6]; exact h3
  ·rw[List.concat_eq_append] at h2
   have h4:w.take k++[w[k]]=(a++x::y::b)++[q]:=by rw[h2]; simp
   obtain⟨h5,_⟩:=List.append_inj' h4 rfl
   exact .inl ⟨a,x,y,b,h5,h3⟩
 ·rintro (⟨a,x,y,b,h2,h3⟩|⟨j,rfl,h3⟩)
  ·exact⟨a,x,y,b++[w[k]],by rw[h1,h2]; simp,h3⟩
  ·have hj:j<w.length:=by omega
   have h4:w.take (j+1)=w.take j++[w[j]]:=by rw[List.take_add_one,List.getElem?_eq_getElem hj]; rfl
   have hdj:w.getD j 0=w[j]:=by simp [List.getD,hj]
   rw[hd,hdj] at h3
   exact⟨w.take j,w[j],w[j+1],[],by rw[h1,h4,List.append_assoc]; rfl,h3⟩
theorem jn_of {n:Nat}{E:List (Int×Int)}{hE:InG n E}{hL:∀ i,i<E.length→tlE E i≠hdE E i}{i x y:Nat}:jn (grE n E hE hL) i y x=true↔incB E i x=true∧othZ E i x=((y:Nat):Int):=by
 rw[Go.Pla.jn_iff]
 show ((tlE E i=y∧hdE E i=x)∨(tlE E i=x∧hdE E i=y))↔_
 simp only[incB,othZ,Bool.or_eq_true,decide_eq_true_eq]
 omega
set_option maxHeartbeats 2000000 in
theorem pblay_ok {h:AH}{bb n:Nat}{ev edv wv:AV}{E:List (Int×Int)}{Bl w:List Nat}{la pa:Nat}{H V:Nat→Bool}{fav:AV} (u:Bu h bb n ev edv E Bl la pa H V fav) (hE:InG n E) (hL:∀ i,i<E.length→tlE E i≠hdE E i) (hn:n<2 ^ 30) (hm:E.length<2 ^ 30) (hB:∀ i∈Bl,i<E.length) (hBn:Bl.length<2 ^ 30) (hw:SlN h wv w) (hwn:∀ x∈w,x<n) (hwl:w.length<2 ^ 30) (ho:Off (fun c=>c=la∨c=pa) wv) :
 C prg 55 [.ptr bb 0,wv] h fun _ h'=>∃ H' V',Bu h' bb n ev edv E Bl la pa H' V' fav∧Kp (fun c=>c=la∨c=pa) h h'∧(∀ i,H' i=true↔H i=true∨(i∈Bl∧On (grE n E hE hL) w i))∧(∀ v,V' v=true↔V v=true∨v∈w):=by
 refine C.func pf55 ?_
 have wl:=hw.len
 rw[List.length_map,List.length_map] at wl
 refine W.seq (W.run (by simp only[am,evOp,simprocAttr,initTm,wl]<;>rfl) ?_)
 refine W.rng (α:=(Nat→Bool)×(Nat→Bool)) (N:=w.length) (fun _ _=>[(10,wv),(0,.ptr bb 0),(1,wv)])
  (fun k a h'=>Bu h' bb n ev edv E Bl la pa a.1 a.2 fav∧Kp (fun c=>c=la∨c=pa) h h'∧(∀ i,a.1 i=true↔H i=true∨(i∈Bl∧On (grE n E hE hL) (w.take k) i))∧(∀ v,a.2 v=true↔V v=true∨v∈w.take k))
  (H,V) (fun _ _=>rfl) (by omega) (by simp only[hl,am,evOp,simprocAttr,initTm,Int.natCast_zero]) ⟨u,Kp.refl,fun i=>?_,fun v=>by simp⟩ ?_ ?_
 ·constructor
  ·exact .inl
  ·rintro (h|⟨_,a,x,y,b,h,_⟩)
   ·exact h
   ·have:=congrArg List.length h
    simp at this
 ·rintro k ⟨Hk,Vk⟩ ts h1 hk ⟨j1,j2,j3,j4⟩ ⟨ei,en,e10,e0,e1,-⟩
  simp only at ei en e10 e0 e1 j1 j2 j3 j4
  have hw1:=hw.kp j2 ho
  obtain⟨b,o,a,rr,_⟩:=hw1.at1 (i:=k) (y:=.int .i64 (w[k]:Nat)) (by rw[List.getElem?_map,List.getElem?_map,List.getElem?_eq_getElem hk]; rfl)
  have hxn:=hwn _ (List.getElem_mem hk)
  have hgd:w.getD k 0=w[k]:=by simp [List.getD,hk]
  have htk:w.take (k+1)=w.take k++[w[k]]:=by rw[List.take_add_one,List.getElem?_eq_getElem hk]; rfl
  generalize hx:w[k]=x at *
  refine W.seq (W.run (by simp only[am,evOp,simprocAttr,e10,ei,a,rr]<;>rfl) ?_)
  have r4:rdCells h1 bb 4 1=some [.sl pa 0 n n]:=rd_at j1.o rfl
  have ix:idx? ((x:Nat):Int) n=some x:=idx_nat hxn
  obtain⟨h2,w2,u2,up2⟩:=j1.putV hxn
  refine W.seq (W.runs (fun ts h'=>h'=h2∧Held [(12,.int .i64 (k:Nat)),(11,.int .i64 (w.length:Nat)),(10,wv),(0,.ptr bb 0),(1,wv),(4,.int .i64 (k:Nat)),(5,.int .i64 (x:Nat))] ts) (by simp only[am,evOp,simprocAttr,ei,en,e10,e0,e1,r4,ix,Nat.mul_one,w2,held_cons,held_nil]) ?_)
  rintro ts h2' ⟨rfl,ei,en,e10,e0,e1,e4,e5,-⟩
  have k2:=j2.trans (up2.kp (S:=fun c=>c=la∨c=pa) (.inr rfl)) (fun _ _ q=>q)
  have hV2:∀ v,(if v=x then true else Vk v)=true↔V v=true∨v∈w.take (k+1):=fun v=>by
   rw[htk,List.mem_append,List.mem_singleton]
   by_cases q:v=x
   ·simp [q]
   ·simp [q,j4 v]
  by_cases hk0:k=0
  ·subst hk0
   refine W.seq (W.seq (W.run (by simp only[am,evOp,simprocAttr,e4,Int.natCast_zero,decide_true]<;>rfl) ?_))
   refine W.yes (by simp only[am,evOp,simprocAttr,decide_true]) (W.exit ⟨fun _=>⟨(Hk,fun j=>if j=x then true else Vk j),⟨u2,k2,fun i=>?_,hV2⟩,by simp only[hl,am,evOp,simprocAttr,ei,en,e10,e0,e1]⟩,fun e=>absurd rfl e⟩)
   rw[on_take hk,j3]
   constructor
   ·rintro (h|⟨h1,h2⟩)
    ·exact .inl h
    ·exact .inr ⟨h1,.inl h2⟩
   ·rintro (h|⟨h1,h2|⟨j,h2,_⟩⟩)
    ·exact .inl h
    ·exact .inr ⟨h1,h2⟩
    ·omega
  ·obtain⟨k',rfl⟩:∃ k',k=k'+1:=⟨k-1,by omega⟩
   have d0:decide (((k'+1:Nat):Int)=0)=false:=by rw[decide_eq_false_iff_not]; omega
   refine W.seq (W.seq (W.run (by simp only[am,evOp,simprocAttr,e4,d0]<;>rfl) ?_))
   refine W.no (by simp only[am,evOp,simprocAttr,d0]) (W.skip ?_)
   have rb:rdCells h2' bb 2 1=some [edv]:=rd_at u2.o rfl
   have lb:=u2.b.len
   rw[List.length_map,List.length_map] at lb
   refine W.seq (W.run (by simp only[am,evOp,simprocAttr,e0,rb,lb]<;>rfl) ?_)
   have hk':k'<w.length:=by omega
   have hgd':w.getD k' 0=w[k']:=by simp [List.getD,hk']
   have w1:IntKind.i64.wrap (((k'+1:Nat):Int)-1)=((k':Nat):Int):=by
    have:((k'+1:Nat):Int)-1=((k':Nat):Int):=by omega
    rw[this]; exact wr64 (by omega) (by omega)
   refine W.rng (α:=Nat→Bool) (N:=Bl.length) (fun _ _=>[(28,edv),(12,.int .i64 ((k'+1:Nat):Int)),(11,.int .i64 (w.length:Nat)),(10,wv),(0,.ptr bb 0),(1,wv),(4,.int .i64 ((k'+1:Nat):Int)),(5,.int .i64 (x:Nat))])
    (fun i a h'=>Bu h' bb n ev edv E Bl la pa a (fun j=>if j=x then true else Vk j) fav∧Kp (fun c=>c=la∨c=pa) h h'∧∀ j,a j=true↔Hk j=true∨(j∈Bl.take i∧jn (grE n E hE hL) j (w.getD k' 0) x=true))
    Hk (fun _ _=>rfl) (by omega) (by simp only[hl,am,evOp,simprocAttr,ei,en,e10,e0,e1,e4,e5]) ⟨u2,k2,fun j=>by simp⟩ ?_ ?_
   ·clear ei en e10 e0 e1 e4 e5 rb lb r4 a rr
    rintro i Hi ts h3 hi ⟨i1,i2,i3⟩ ⟨f30,f29,f28,ei,en,e10,e0,e1,e4,e5,-⟩
    simp only at f30 f29 f28 ei en e10 e0 e1 e4 e5 i1 i2 i3
    obtain⟨b3,o3,a3,r3,_⟩:=i1.b.at1 (i:=i) (y:=.int .i64 (Bl[i]:Nat)) (by rw[List.getElem?_map,List.getElem?_map,List.getElem?_eq_getElem hi]; rfl)
    have hBi:=List.getElem_mem hi
    have htb:Bl.take (i+1)=Bl.take i++[Bl[i]]:=by rw[List.take_add_one,List.getElem?_eq_getElem hi]; rfl
    have hei:=hB _ hBi
    generalize hq:Bl[i]=q at *
    refine W.seq (W.run (by simp only[am,evOp,simprocAttr,f28,f30,a3,r3]<;>rfl) ?_)
    have hC:=pbother_ok i1 hE (show n<2 ^ 40 by omega) hei hxn
    refine W.seq (W.reg (G.gcall 3 (by simp only[am,evOp,simprocAttr,e0,e5]<;>rfl) rfl (by simp only[am,evOp,simprocAttr,e0,e5]) (by simp only[am,evOp,simprocAttr,e0,e5]<;>rfl) (hC) fun v h4 hv=>?_))
    obtain⟨rfl,x4⟩:=hv
    refine G.run (by simp only[am,evOp,simprocAttr]<;>rfl) ?_
    have u4:=i1.ext x4 (Nat.le_refl _)
    have k4:Kp (fun c=>c=la∨c=pa) h h4:=i2.trans (x4.kp (S:=fun c=>c=la∨c=pa) (Nat.le_refl _)) (fun _ _ q=>q)
    have hw4:=hw.kp k4 ho
    obtain⟨b5,o5,a5,r5,_⟩:=hw4.at1 (i:=k') (y:=.int .i64 (w[k']:Nat)) (by rw[List.getElem?_map,List.getElem?_map,List.getElem?_eq_getElem hk']; rfl)
    have jiff:=jn_of (n:=n) (E:=E) (hE:=hE) (hL:=hL) (i:=q) (x:=x) (y:=w.getD k' 0)
    have step:∀ (a':Nat→Bool),(∀ j,a' j=true↔Hi j=true∨(j=q∧jn (grE n E hE hL) q (w.getD k' 0) x=true))→∀ j,a' j=true↔Hk j=true∨(j∈Bl.take (i+1)∧jn (grE n E hE hL) j (w.getD k' 0) x=true):=fun a' ha' j=>by
     rw[ha',i3,htb,List.mem_append,List.mem_singleton]
     constructor
     ·rintro ((h|⟨h1,h2⟩)|⟨rfl,h2⟩)
      ·exact .inl h
      ·exact .inr ⟨.inl h1,h2⟩
      ·exact .inr ⟨.inr rfl,h2⟩
     ·rintro (h|⟨h1|h1,h2⟩)
      ·exact .inl (.inl h)
      ·exact .inl (.inr ⟨h1,h2⟩)
      ·subst h1; exact .inr ⟨rfl,h2⟩
    cases hI:incB E q x with
    | false =>
      refine W.seq (W.run (by simp only[am,evOp,simprocAttr]<;>rfl) ?_)
      refine W.no (by simp only[am,evOp,simprocAttr]) (W.skip ?_)
      exact⟨Hi,⟨u4,k4,step Hi fun j=>by rw[jiff,hI]; simp⟩,by simp only[hl,am,evOp,simprocAttr,f30,f29,f28,ei,en,e10,e0,e1,e4,e5]⟩
    | true =>
      by_cases hy:othZ E q x=((w[k']:Nat):Int)
      ·have dy:decide (othZ E q x=((w[k']:Nat):Int))=true:=decide_eq_true hy
       refine W.seq (W.run (by simp only[am,evOp,simprocAttr,e1,e4,w1,a5,r5,dy]<;>rfl) ?_)
       refine W.yes (by simp only[am,evOp,simprocAttr,dy]) ?_
       have r6:rdCells h4 bb 3 1=some [.sl la 0 E.length E.length]:=rd_at u4.o rfl
       have iq:idx? ((q:Nat):Int) E.length=some q:=idx_nat hei
       obtain⟨h6,w6,u6,up6⟩:=u4.putH hei
       refine W.runs (fun ts h'=>h'=h6∧Held [(30,.int .i64 (i:Nat)),(29,.int .i64 (Bl.length:Nat)),(28,edv),(12,.int .i64 ((k'+1:Nat):Int)),(11,.int .i64 (w.length:Nat)),(10,wv),(0,.ptr bb 0),(1,wv),(4,.int .i64 ((k'+1:Nat):Int)),(5,.int .i64 (x:Nat))] ts) (by simp only[am,evOp,simprocAttr,f30,f29,f28,ei,en,e10,e0,e1,e4,e5,r6,iq,Nat.mul_one,w6,held_cons,held_nil]) ?_
       rintro ts h6' ⟨rfl,hh⟩
       refine⟨_,⟨u6,k4.trans (up6.kp (S:=fun c=>c=la∨c=pa) (.inl rfl)) (fun _ _ q=>q),step _ fun j=>?_⟩,hh⟩
       have hj:jn (grE n E hE hL) q (w.getD k' 0) x=true:=jiff.2 ⟨hI,by rw[hgd']; exact hy⟩
       by_cases hjq:j=q
       ·subst hjq
        exact⟨fun _=>.inr ⟨rfl,hj⟩,fun _=>by simp⟩
       ·simp [hjq]
      ·have dy:decide (othZ E q x=((w[k']:Nat):Int))=false:=decide_eq_false hy
       refine W.seq (W.run (by simp only[am,evOp,simprocAttr,e1,e4,w1,a5,r5,dy]<;>rfl) ?_)
       refine W.no (by simp only[am,evOp,simprocAttr,dy]) (W.skip ?_)
       refine⟨Hi,⟨u4,k4,step Hi fun j=>?_⟩,by simp only[hl,am,evOp,simprocAttr,f30,f29,f28,ei,en,e10,e0,e1,e4,e5]⟩
       rw[jiff,hgd']
       simp [hy]
   ·rintro Hi ts h3 ⟨i1,i2,i3⟩ ⟨f28,ei,en,e10,e0,e1,e4,e5,-⟩
    simp only at f28 ei en e10 e0 e1 e4 e5 i1 i2 i3
    refine⟨(Hi,fun j=>if j=x then true else Vk j),⟨i1,i2,fun j=>?_,hV2⟩,by simp only[hl,am,evOp,simprocAttr,ei,en,e10,e0,e1]⟩
    rw[List.take_of_length_le (Nat.le_refl _)] at i3
    rw[i3,j3,on_take hk,hgd]
    constructor
    ·rintro ((h|⟨h1,h2⟩)|⟨h1,h2⟩)
     ·exact .inl h
     ·exact .inr ⟨h1,.inl h2⟩
     ·exact .inr ⟨h1,.inr ⟨k',rfl,h2⟩⟩
    ·rintro (h|⟨h1,h2|⟨j',h3,h2⟩⟩)
     ·exact .inl (.inl h)
     ·exact .inl (.inr ⟨h1,h2⟩)
     ·have:j'=k':=by omega
      subst this
      exact .inr ⟨h1,h2⟩
 ·rintro⟨Hk,Vk⟩ ts h1 ⟨j1,j2,j3,j4⟩ ⟨e10,e0,e1,-⟩
  rw[List.take_of_length_le (Nat.le_refl _)] at j3 j4
  exact⟨.tup [],rfl,Hk,Vk,j1,j2,j3,j4⟩
end Go.Proofs.Ytpeemonpdlifbaa
namespace Go.Pla
open Go.Blk
variable {g:Gr}{Bl:List Nat}{laid thr:Nat→Bool}
theorem cut_even (p:Pln g Bl) {X:Nat→Bool} (hX:Even g Bl X) (K:Nat→Bool):par Bl (fun e=>X e&&(K (g.tl e) ^^ K (g.hd e)))=false:=by
 have h1:par (List.range g.n) (fun v=>K v&&par Bl (fun e=>X e&&at_ g e v))=false:=par_no fun v _=>by rw[hX v]; simp
 rw[par_congr (q:=fun v=>par Bl (fun e=>X e&&(K v&&at_ g e v))) (fun v _=>by
  rw[← par_and]
  exact par_congr fun e _=>by cases X e<;>cases K v<;>rfl),par_swap] at h1
 rw[← h1]
 refine par_congr fun e he=>?_
 rw[par_and]
 congr 1
 have hok:=g.ok e (p.lt e he)
 rw[par_congr (q:=fun v=>((v==g.tl e)&&K v) ^^ ((v==g.hd e)&&K v)) (fun v _=>by
  unfold at_
  rw[Bool.beq_comm (a:=g.tl e),Bool.beq_comm (a:=g.hd e)]
  cases v==g.tl e<;>cases v==g.hd e<;>cases K v<;>rfl),par_xor,par_one List.nodup_range (by simpa using hok.1),par_one List.nodup_range (by simpa using hok.2.1)]
theorem tr_in {r:Nat}{L:List (Nat×Nat)} (m:Met g Bl laid thr r L) {y z:Nat} (hy:y∈ks L) (hz:z∈tr L y):z∈ks L:=by
 obtain⟨t,h1,_,_,_,h5⟩:=tr_ok L.length (Nat.le_refl _) m y hy
 rw[h1] at hz
 exact (h5 z hz).1
theorem tr_pre {r:Nat}:∀ (n:Nat) {L:List (Nat×Nat)},L.length≤n→Met g Bl laid thr r L→∀ (y z:Nat),y∈ks L→z∈tr L y→∃ s,tr L y=tr L z++s
 | 0,L,hn,m=>by
   obtain⟨T,hT⟩:=m.root
   rw[hT] at hn; simp at hn
 | n+1,L,hn,m=>by
   intro y z hy hz
   rcases List.eq_nil_or_concat L with h|⟨A,⟨w,x⟩,h⟩
   ·rw[h] at hy; simp [ks] at hy
   rw[List.concat_eq_append] at h
   subst h
   by_cases hA:A=[]
   ·subst hA
    obtain⟨T,hT⟩:=m.root
    rw[List.nil_append] at hT hy hz ⊢
    injection hT with h1 h2
    injection h1 with h1 h3
    subst h1 h3
    have hyw:=hy
    simp only[ks,List.map_cons,List.map_nil,List.mem_singleton] at hyw
    subst hyw
    have hzy:=hz
    simp [tr,trr] at hzy
    subst hzy
    exact⟨[],by simp⟩
   ·have mA:=m.pre hA
    by_cases hyA:y∈ks A
    ·rw[tr_app m.nd hyA] at hz ⊢
     have hzA:=tr_in mA hyA hz
     obtain⟨s,hs⟩:=tr_pre n (by simp at hn; omega) mA y z hyA hz
     exact⟨s,by rw[tr_app m.nd hzA]; exact hs⟩
    ·have hyw:y=w:=by
      rw[ks_app,List.mem_append] at hy
      rcases hy with hy|hy
      ·exact absurd hy hyA
      ·simpa [ks] using hy
     subst hyw
     obtain⟨hx,_⟩:=m.par A y x [] rfl hA
     by_cases hzy:z=y
     ·subst hzy; exact⟨[],by simp⟩
     ·rw[tr_last hA] at hz ⊢
      have hz:z∈tr A x:=by
       rcases List.mem_append.1 hz with h|h
       ·exact h
       ·exact absurd (by simpa using h) hzy
      have hzA:=tr_in mA hx hz
      obtain⟨s,hs⟩:=tr_pre n (by simp at hn; omega) mA x z hx hz
      exact⟨s++[y],by rw[tr_app m.nd hzA,hs,List.append_assoc]⟩
theorem nd_split {z:Nat}:∀ {a b c d:List Nat},(a++z::b).Nodup→a++z::b=c++z::d→a=c
 | [],b,[],d,_,_=>rfl
 | [],b,e::c,d,nd,h=>by
   rw[List.nil_append,List.cons_append] at h
   injection h with h1 h2
   rw[List.nil_append,List.nodup_cons] at nd
   exact absurd (by rw[h2]; simp) nd.1
 | e::a,b,[],d,nd,h=>by
   rw[List.nil_append,List.cons_append] at h
   injection h with h1 h2
   subst h1
   rw[List.cons_append,List.nodup_cons] at nd
   exact absurd (by simp) nd.1
 | e::a,b,e'::c,d,nd,h=>by
   rw[List.cons_append,List.cons_append] at h
   injection h with h1 h2
   subst h1
   rw[List.cons_append,List.nodup_cons] at nd
   rw[nd_split nd.2 h2]
theorem lst_cat {r:Nat}:∀ {t:List Nat},∃ s,r::t=s++[lst r t]
 | []=>⟨[],rfl⟩
 | y::t=>by
   obtain⟨s,h⟩:=lst_cat (r:=y) (t:=t)
   exact⟨r::s,by rw[lst,List.cons_append,← h]⟩
theorem fork {r:Nat}{L:List (Nat×Nat)} (m:Met g Bl laid thr r L) {y1 y2:Nat} (h1:y1∈ks L) (h2:y2∈ks L) {c a b:List Nat}{v:Nat} (e1:tr L y1=c++v::a) (e2:tr L y2=c++v::b) (hd:∀ z a' b',a=z::a'→b=z::b'→False):∀ z∈a,z∉b:=by
 intro z hza hzb
 obtain⟨s1,q1⟩:=tr_pre L.length (Nat.le_refl _) m y1 z h1 (by rw[e1]; simp [hza])
 obtain⟨s2,q2⟩:=tr_pre L.length (Nat.le_refl _) m y2 z h2 (by rw[e2]; simp [hzb])
 have hz:z∈ks L:=tr_in m h1 (by rw[e1]; simp [hza])
 obtain⟨t,t1,t2,_⟩:=tr_ok L.length (Nat.le_refl _) m z hz
 obtain⟨s,hs⟩:=lst_cat (r:=r) (t:=t)
 rw[← t1,t2] at hs
 obtain⟨a1,a2,rfl⟩:=List.append_of_mem hza
 obtain⟨b1,b2,rfl⟩:=List.append_of_mem hzb
 have n1:(c++v::(a1++z::a2)).Nodup:=by
  obtain⟨t',u1,_,u3,_⟩:=tr_ok L.length (Nat.le_refl _) m y1 h1
  rw[← e1,u1]; exact u3
 have n2:(c++v::(b1++z::b2)).Nodup:=by
  obtain⟨t',u1,_,u3,_⟩:=tr_ok L.length (Nat.le_refl _) m y2 h2
  rw[← e2,u1]; exact u3
 rw[e1,hs] at q1
 rw[e2,hs] at q2
 have r1:c++v::a1=s:=nd_split (z:=z) (b:=a2) (d:=s1) (by simpa using n1) (by simpa using q1)
 have r2:c++v::b1=s:=nd_split (z:=z) (b:=b2) (d:=s2) (by simpa using n2) (by simpa using q2)
 have r3:a1=b1:=by
  have:=r1.trans r2.symm
  have:=List.append_cancel_left this
  injection this
 subst r3
 cases a1 with
 | nil=>exact hd z a2 b2 rfl rfl
 | cons w a1=>exact hd w (a1++z::a2) (a1++z::b2) rfl rfl
theorem back_ex (p:Pln g Bl) (hb:Bond g Bl) (hl:Link g Bl) {e0 k0:Nat} (he0:e0∈Bl) (hk0:k0∈Bl) (hne:k0≠e0) {f:Nat} (hf:g.n≤f) {o:Option Nat} (h:Hit (full g Bl (fun e=>decide (e=e0)) (fun _=>true) f ([(g.tl e0,g.tl e0)],[g.tl e0])) (fun y=>decide (y=g.hd e0)) o) :
 o=some (g.hd e0)∧∃ t,tr (full g Bl (fun e=>decide (e=e0)) (fun _=>true) f ([(g.tl e0,g.tl e0)],[g.tl e0])) (g.hd e0)=t∧Cc g Bl t∧∃ t',t=g.tl e0::t'∧lst (g.tl e0) t'=g.hd e0:=by
 have hlt:=p.lt e0 he0
 have hok:=g.ok e0 hlt
 have hs:=full_srch (g:=g) (Bl:=Bl) (laid:=fun e=>decide (e=e0)) (thr:=fun _=>true) (r:=g.tl e0) p.lt hok.1 f Srch.start (by show g.n-1+1≤f; omega)
 generalize full g Bl (fun e=>decide (e=e0)) (fun _=>true) f ([(g.tl e0,g.tl e0)],[g.tl e0])=F at h hs ⊢
 have hm:Met g Bl (fun e=>decide (e=e0)) (fun _=>true) (g.tl e0) F:=hs.met
 have hcl:∀ z∈ks F,∀ i∈Bl,at_ g i z=true→i≠e0→g.oth i z∈ks F:=fun z hz i hi ha hie=>by
  rcases hs.done z hz (.inr rfl) with h1|⟨_,h1⟩|h1
  ·simp at h1
  ·cases h1
  ·exact h1 i hi ha (by simpa using hie)
 obtain⟨T,hT⟩:=hm.root
 have hroot:g.tl e0∈ks F:=by rw[hT]; simp [ks]
 have hmet:g.hd e0∈ks F:=by
  refine Classical.byContradiction fun hno=>?_
  have:∃ v k,k∈Bl∧k≠e0∧at_ g e0 v=true∧at_ g k v=true:=by
   refine Classical.byContradiction fun hnx=>?_
   have:=hl (fun e=>e==e0) (fun v e k he hk hev hkv=>by
    by_cases q1:e=e0
    ·by_cases q2:k=e0
     ·rw[q1,q2]
     ·exact absurd ⟨v,k,hk,q2,q1▸hev,hkv⟩ hnx
    ·by_cases q2:k=e0
     ·exact absurd ⟨v,e,he,q1,q2▸hkv,hev⟩ hnx
     ·rw[beq_eq_false_iff_ne.2 q1,beq_eq_false_iff_ne.2 q2]) e0 he0 k0 hk0
   simp [hne] at this
  obtain⟨v,k,hk,hke,hev,hkv⟩:=this
  obtain⟨X,hX,hXj⟩:=hb v e0 k he0 hk hev hkv (Ne.symm hke)
  have hx0:X e0=true:=by rw[hXj e0 he0 hev]; simp
  have h1:=cut_even p hX (fun z=>decide (z∈ks F))
  rw[par_congr (q:=fun e=>(e==e0)&&X e) (fun e he=>by
   by_cases q:e=e0
   ·subst q
    rw[decide_eq_true hroot,decide_eq_false hno,beq_self_eq_true]; cases X e<;>rfl
   ·rw[beq_eq_false_iff_ne.2 q]
    have hie:=p.lt e he
    have it:g.inc e (g.tl e):=⟨hie,.inl rfl⟩
    have ih:g.inc e (g.hd e):=⟨hie,.inr rfl⟩
    have ot:g.oth e (g.tl e)=g.hd e:=by unfold Gr.oth; omega
    have oh:g.oth e (g.hd e)=g.tl e:=by unfold Gr.oth; omega
    have:(g.tl e∈ks F)↔(g.hd e∈ks F):=by
     constructor
     ·intro hz; have:=hcl _ hz e he ((at_inc hie).2 it) q; rwa [ot] at this
     ·intro hz; have:=hcl _ hz e he ((at_inc hie).2 ih) q; rwa [oh] at this
    have this:decide (g.tl e∈ks F)=decide (g.hd e∈ks F):=by rw[decide_eq_decide]; exact this
    rw[this]; simp),par_one p.nd he0,hx0] at h1
  cases h1
 obtain⟨t,t1,t2,t3,t4,t5⟩:=tr_ok F.length (Nat.le_refl _) hm (g.hd e0) hmet
 constructor
 ·cases o with
  | none =>
    exfalso
    have h:∀ z∈ks F.tail,decide (z=g.hd e0)=false:=h
    have:g.hd e0∈ks F.tail:=by
     rw[hT] at hmet ⊢
     simp only[ks,List.map_cons,List.mem_cons,List.tail_cons] at hmet ⊢
     rcases hmet with h1|h1
     ·exact absurd h1.symm hok.2.2
     ·exact h1
    have:=h _ this
    simp at this
  | some y =>
    obtain⟨A,x,C,_,_,_,hy⟩:=h
    have:y=g.hd e0:=by simpa using hy
    rw[this]
 ·refine⟨_,t1,?_⟩
  have hmono:∀ (s:List Nat),Ch g (Bl.filter fun i=>!(decide (i=e0))) s→Ch g Bl s:=by
   intro s
   induction s with
   | nil=>exact fun h=>h
   | cons a s ih =>
     cases s with
     | nil=>exact fun h=>h
     | cons b s =>
       rintro⟨⟨e,he,hj⟩,h2⟩
       exact⟨⟨e,(List.mem_filter.1 he).1,hj⟩,ih h2⟩
  refine⟨⟨?_,t3,?_⟩,t,rfl,t2⟩
  ·have key:∀ (t:List Nat) (u:Nat),Ch g Bl (u::t)→lst u t=g.hd e0→Ch g Bl (u::t++[g.tl e0]):=by
    intro t
    induction t with
    | nil =>
      intro u _ hu
      have hu:u=g.hd e0:=hu
      subst hu
      exact⟨⟨e0,he0,by rw[jn_iff]; exact .inr ⟨rfl,rfl⟩⟩,trivial⟩
    | cons w t ih =>
      intro u hc hu
      exact⟨hc.1,ih w hc.2 hu⟩
   exact key t _ (hmono _ t4) t2
  ·cases t with
   | nil=>exact absurd t2 hok.2.2
   | cons a t =>
     cases t with
     | nil =>
       have:a=g.hd e0:=t2
       subst this
       obtain⟨⟨e,he,hj⟩,_⟩:=t4
       obtain⟨he1,he2⟩:=List.mem_filter.1 he
       have:=p.one e he1 e0 he0 _ _ hj (by rw[jn_iff]; exact .inl ⟨rfl,rfl⟩)
       simp [this] at he2
     | cons b t=>simp
end Go.Pla
namespace Go.Pla
open Go.Blk
variable {g:Gr}{Bl:List Nat}{H V:Nat→Bool}{pt:Nat→Nat}
def Plc (g:Gr) (Bl:List Nat) (H V:Nat→Bool):Prop:=∀ v,V v=true↔∃ e∈Bl,at_ g e v=true∧H e=true
theorem Plc.fresh (h:Plc g Bl H V) {v:Nat} (hv:V v=false):∀ e∈Bl,at_ g e v=true→H e=false:=fun e he ha=>by
 cases hH:H e
 ·rfl
 ·rw[(h v).2 ⟨e,he,ha,hH⟩] at hv; cases hv
theorem oth_at {e v:Nat} (he:e<g.m) (h:at_ g e v=true):at_ g e (g.oth e v)=true∧g.oth e (g.oth e v)=v:=by
 have:=inc_oth ((at_inc he).1 h)
 exact⟨(at_inc he).2 this.1,this.2.2⟩
theorem met_pt (p:Pln g Bl) (hV:Plc g Bl H V) (P:Part g Bl H pt) {x0 e0:Nat} (h0:V x0=false) (he0:e0∈Bl) (ha0:at_ g e0 x0=true):∀ (n:Nat) {L:List (Nat×Nat)},L.length≤n→Met g Bl H (fun v=>!(V v)) x0 L→∀ z∈ks L,V z=false→∀ e∈Bl,at_ g e z=true→pt e=pt e0
 | 0,L,hn,m=>by
   obtain⟨T,hT⟩:=m.root
   rw[hT] at hn; simp at hn
 | n+1,L,hn,m=>by
   intro z hz hvz e he ha
   rcases List.eq_nil_or_concat L with h|⟨A,⟨y,x⟩,h⟩
   ·rw[h] at hz; simp [ks] at hz
   rw[List.concat_eq_append] at h
   subst h
   by_cases hA:A=[]
   ·subst hA
    obtain⟨T,hT⟩:=m.root
    rw[List.nil_append] at hT hz
    injection hT with h1 _
    injection h1 with h1 _
    subst h1
    have:z=y:=by simpa [ks] using hz
    subst this
    exact P.same z (hV.fresh hvz) e he e0 he0 ha ha0
   ·have mA:=m.pre hA
    have ih:=met_pt p hV P h0 he0 ha0 n (by simp at hn; omega) mA
    by_cases hzA:z∈ks A
    ·exact ih z hzA hvz e he ha
    ·have hzy:z=y:=by
      rw[ks_app,List.mem_append] at hz
      rcases hz with h|h
      ·exact absurd h hzA
      ·simpa [ks] using h
     subst hzy
     obtain⟨hx,hxr,i,hi,hj,_⟩:=m.par A z x [] rfl hA
     have hvx:V x=false:=by
      rcases hxr with h|h
      ·rw[h]; exact h0
      ·simpa using h
     have aix:at_ g i x=true:=by rw[p.jat hi hj]; simp [Ne.symm (p.jne hi hj)]
     have aiz:at_ g i z=true:=by rw[p.jat hi hj]; simp [p.jne hi hj]
     rw[← ih x hx hvx i hi aix]
     exact P.same z (hV.fresh hvz) e he i hi ha aiz
structure Deep (g:Gr) (Bl:List Nat) (H V:Nat→Bool) (x0:Nat) (F:List (Nat×Nat)):Prop where
 met:Met g Bl H (fun v=>!(V v)) x0 F
 shut:∀ z∈ks F,V z=false→∀ i∈Bl,at_ g i z=true→g.oth i z∈ks F
theorem deep_full (p:Pln g Bl) (hV:Plc g Bl H V) {x0 f:Nat} (h0:V x0=false) (hx:x0<g.n) (hf:g.n≤f):Deep g Bl H V x0 (full g Bl H (fun v=>!(V v)) f ([(x0,x0)],[x0])):=by
 have hs:=full_srch (g:=g) (Bl:=Bl) (laid:=H) (thr:=fun v=>!(V v)) (r:=x0) p.lt hx f Srch.start (by show g.n-1+1≤f; omega)
 refine⟨hs.met,fun z hz hv i hi ha=>?_⟩
 rcases hs.done z hz (.inr (by simp [hv])) with h1|⟨_,h1⟩|h1
 ·simp at h1
 ·cases h1
 ·exact h1 i hi ha (hV.fresh hv i hi ha)
theorem deep_mem {x0:Nat}{F:List (Nat×Nat)} (d:Deep g Bl H V x0 F) (h0:V x0=false) {z:Nat} (hz:z∈ks F) (hv:V z=true):z∈ks F.tail:=by
 obtain⟨T,hT⟩:=d.met.root
 rw[hT] at hz ⊢
 simp only[ks,List.map_cons,List.mem_cons,List.tail_cons] at hz ⊢
 rcases hz with h|h
 ·rw[h,h0] at hv; cases hv
 ·exact h
theorem first_end (p:Pln g Bl) (hl:Link g Bl) (hV:Plc g Bl H V) {x0:Nat}{F:List (Nat×Nat)} (d:Deep g Bl H V x0 F) (h0:V x0=false) {e0:Nat} (he0:e0∈Bl) (ha0:at_ g e0 x0=true) (hex:∃ j∈Bl,H j=true) {o:Option Nat} (h:Hit F V o):∃ y,o=some y∧y∈ks F∧V y=true:=by
 cases o with
 | some y =>
   obtain⟨A,x,C,h1,_,_,h2⟩:=h
   exact⟨y,rfl,by rw[h1]; simp [ks],h2⟩
 | none =>
   exfalso
   have h:∀ z∈ks F.tail,V z=false:=h
   have hall:∀ z∈ks F,V z=false:=fun z hz=>by
    cases hv:V z
    ·rfl
    ·rw[← hv]; exact h z (deep_mem d h0 hz hv)
   obtain⟨j,hj,hjH⟩:=hex
   have key:=hl (fun e=>decide (g.tl e∈ks F)) (fun v e k he hk hev hkv=>by
    have one:∀ e∈Bl,at_ g e v=true→(g.tl e∈ks F↔v∈ks F):=fun e he ha=>by
     have hinc:=(at_inc (p.lt e he)).1 ha
     rcases hinc.2 with h1|h1
     ·rw[h1]
     ·have ot:g.oth e (g.tl e)=v:=by unfold Gr.oth; omega
      have oh:g.oth e v=g.tl e:=by unfold Gr.oth; omega
      constructor
      ·intro hz
       have:=d.shut _ hz (hall _ hz) e he ((at_inc (p.lt e he)).2 ⟨p.lt e he,.inl rfl⟩)
       rwa [ot] at this
      ·intro hz
       have:=d.shut _ hz (hall _ hz) e he ha
       rwa [oh] at this
    rw[decide_eq_decide,one e he hev,one k hk hkv]) e0 he0 j hj
   obtain⟨T,hT⟩:=d.met.root
   have hr:x0∈ks F:=by rw[hT]; simp [ks]
   have h1:g.tl e0∈ks F:=by
    have hinc:=(at_inc (p.lt e0 he0)).1 ha0
    rcases hinc.2 with h1|h1
    ·rw[h1]; exact hr
    ·have oh:g.oth e0 x0=g.tl e0:=by unfold Gr.oth; omega
     have:=d.shut _ hr h0 e0 he0 ha0
     rwa [oh] at this
   have h2:g.tl j∈ks F:=by
    have:decide (g.tl e0∈ks F)=decide (g.tl j∈ks F):=key
    rw[decide_eq_true h1] at this
    exact of_decide_eq_true this.symm
   have:=hall _ h2
   rw[(hV _).2 ⟨j,hj,(at_inc (p.lt j hj)).2 ⟨p.lt j hj,.inl rfl⟩,hjH⟩] at this
   cases this
theorem second_end (p:Pln g Bl) (hb:Bond g Bl) (hV:Plc g Bl H V) {x0:Nat}{F:List (Nat×Nat)} (d:Deep g Bl H V x0 F) (h0:V x0=false) {y1:Nat} (hy1:y1∈ks F) (hvy:V y1=true) {o:Option Nat} (h:Hit F (fun y=>V y&&!(decide (y=y1))) o):∃ y,o=some y∧y∈ks F∧V y=true∧y≠y1:=by
 cases o with
 | some y =>
   obtain⟨A,x,C,h1,_,_,h2⟩:=h
   simp only[Bool.and_eq_true,Bool.not_eq_true',decide_eq_false_iff_not] at h2
   exact⟨y,rfl,by rw[h1]; simp [ks],h2.1,h2.2⟩
 | none =>
   exfalso
   have h:∀ z∈ks F.tail,(V z&&!(decide (z=y1)))=false:=h
   have hall:∀ z∈ks F,V z=true→z=y1:=fun z hz hv=>by
    have:=h z (deep_mem d h0 hz hv)
    rw[hv] at this
    simpa using this
   obtain⟨K,hK⟩:∃ K:Nat→Bool,∀ z,K z=true↔z∈ks F∧V z=false:=⟨fun z=>decide (z∈ks F∧V z=false),fun z=>by simp⟩
   have hcut:∀ e∈Bl,(K (g.tl e) ^^ K (g.hd e))=((K (g.tl e)||K (g.hd e))&&at_ g e y1):=by
    intro e he
    have hok:=g.ok e (p.lt e he)
    have ky:K y1=false:=by
     cases hk:K y1
     ·rfl
     ·rw[((hK _).1 hk).2] at hvy; cases hvy
    have it:=(at_inc (p.lt e he)).2 (⟨p.lt e he,.inl rfl⟩:g.inc e (g.tl e))
    have ih:=(at_inc (p.lt e he)).2 (⟨p.lt e he,.inr rfl⟩:g.inc e (g.hd e))
    have ot:g.oth e (g.tl e)=g.hd e:=by unfold Gr.oth; omega
    have oh:g.oth e (g.hd e)=g.tl e:=by unfold Gr.oth; omega
    have next:∀ a b,K a=true→at_ g e a=true→g.oth e a=b→K b=true∨b=y1:=fun a b ha hat hab=>by
     have:=d.shut a ((hK _).1 ha).1 ((hK _).1 ha).2 e he hat
     rw[hab] at this
     cases hvb:V b
     ·exact .inl ((hK _).2 ⟨this,hvb⟩)
     ·exact .inr (hall b this hvb)
    have hat:at_ g e y1=((g.tl e==y1) ^^ (g.hd e==y1)):=rfl
    cases h1:K (g.tl e)
    ·cases h2:K (g.hd e)
     ·rfl
     ·rcases next _ _ h2 ih oh with h3|h3
      ·rw[h1] at h3; cases h3
      ·have:g.hd e≠y1:=fun q=>by rw[q,ky] at h2; cases h2
       rw[hat,beq_iff_eq.2 h3,beq_eq_false_iff_ne.2 this]; rfl
    ·have t1:g.tl e≠y1:=fun q=>by rw[q,ky] at h1; cases h1
     cases h2:K (g.hd e)
     ·rcases next _ _ h1 it ot with h3|h3
      ·rw[h2] at h3; cases h3
      ·rw[hat,beq_iff_eq.2 h3,beq_eq_false_iff_ne.2 t1]; rfl
     ·have t2:g.hd e≠y1:=fun q=>by rw[q,ky] at h2; cases h2
      rw[hat,beq_eq_false_iff_ne.2 t1,beq_eq_false_iff_ne.2 t2]; rfl
   obtain⟨q,hq,hqy⟩:=List.mem_map.1 hy1
   obtain⟨A,C,hF⟩:=List.append_of_mem hq
   have hA:A≠[]:=by
    intro hA; subst hA
    obtain⟨T,hT⟩:=d.met.root
    rw[hT,List.nil_append] at hF
    injection hF with h1 _
    rw[← h1] at hqy
    have:x0=y1:=hqy
    rw[this,hvy] at h0; cases h0
   have hq':q=(y1,q.2):=by rw[← hqy]
   rw[hq'] at hF
   obtain⟨hx,hxr,i,hi,hj,_⟩:=d.met.par A y1 q.2 C hF hA
   have hvx:V q.2=false:=by
    rcases hxr with h|h
    ·rw[h]; exact h0
    ·simpa using h
   have kx:K q.2=true:=(hK _).2 ⟨by rw[hF,ks_app]; exact List.mem_append_left _ hx,hvx⟩
   have iy:at_ g i y1=true:=by rw[p.jat hi hj]; simp [p.jne hi hj]
   have Yi:(K (g.tl i)||K (g.hd i))=true:=by
    rcases jn_iff.1 hj with ⟨a,b⟩|⟨a,b⟩
    ·rw[a,kx]; rfl
    ·rw[b,kx]; simp
   obtain⟨j,hj',hja,hjH⟩:=(hV y1).1 hvy
   have Yj:(K (g.tl j)||K (g.hd j))=false:=by
    have t1:K (g.tl j)=false:=by
     cases hk:K (g.tl j)
     ·rfl
     ·have:=hV.fresh ((hK _).1 hk).2 j hj' ((at_inc (p.lt j hj')).2 ⟨p.lt j hj',.inl rfl⟩)
      rw[hjH] at this; cases this
    have t2:K (g.hd j)=false:=by
     cases hk:K (g.hd j)
     ·rfl
     ·have:=hV.fresh ((hK _).1 hk).2 j hj' ((at_inc (p.lt j hj')).2 ⟨p.lt j hj',.inr rfl⟩)
      rw[hjH] at this; cases this
    rw[t1,t2]; rfl
   have:=bond_all p.nd hb (Y:=fun e=>K (g.tl e)||K (g.hd e)) (v:=y1) (fun X hX=>by
    rw[← cut_even p hX K]
    exact par_congr fun e he=>by rw[hcut e he]) hi hj' iy hja
   rw[Yi,Yj] at this
   cases this
theorem mid_way (p:Pln g Bl) (hV:Plc g Bl H V) {x0:Nat}{F:List (Nat×Nat)} (d:Deep g Bl H V x0 F) (h0:V x0=false) {y1 y2:Nat} (h1:y1∈ks F) (h2:y2∈ks F) (v1:V y1=true) (v2:V y2=true) (hne:y2≠y1) {c a b:List Nat}{v:Nat} (e1:tr F y1=c++v::a) (e2:tr F y2=c++v::b) (hd:∀ z a' b',a=z::a'→b=z::b'→False) :
 ∃ i,a.reverse++v::b=y1::i++[y2]∧(y1::i++[y2]).Nodup∧Ch g Bl (y1::i++[y2])∧i≠[]∧∀ z∈i,z∈ks F∧V z=false:=by
 obtain⟨t1,q1,q2,q3,q4,q5⟩:=tr_ok F.length (Nat.le_refl _) d.met y1 h1
 obtain⟨t2,r1,r2,r3,r4,r5⟩:=tr_ok F.length (Nat.le_refl _) d.met y2 h2
 have in1:∀ z∈tr F y1,V z=true→z=y1:=fun z hz hv=>by
  rw[q1] at hz
  rcases (q5 z hz).2 with h|h|h
  ·rw[h,h0] at hv; cases hv
  ·rw[hv] at h; cases h
  ·exact h
 have in2:∀ z∈tr F y2,V z=true→z=y2:=fun z hz hv=>by
  rw[r1] at hz
  rcases (r5 z hz).2 with h|h|h
  ·rw[h,h0] at hv; cases hv
  ·rw[hv] at h; cases h
  ·exact h
 have hfork:=fork d.met h1 h2 e1 e2 hd
 have vv:V v=false:=by
  cases h:V v
  ·rfl
  ·have a1:=in1 v (by rw[e1]; simp) h
   have a2:=in2 v (by rw[e2]; simp) h
   exact absurd (a2.symm.trans a1) hne
 obtain⟨s1,l1⟩:=lst_cat (r:=x0) (t:=t1)
 obtain⟨s2,l2⟩:=lst_cat (r:=x0) (t:=t2)
 rw[← q1,q2,e1] at l1
 rw[← r1,r2,e2] at l2
 have last:∀ {a:List Nat}{y:Nat}{s:List Nat},c++v::a=s++[y]→V y=true→∃ a',a=a'++[y]:=fun {a y s} h hv=>by
  rcases List.eq_nil_or_concat a with rfl|⟨a',w,rfl⟩
  ·have h':c++[v]=s++[y]:=h
   obtain⟨_,h3⟩:=List.append_inj' h' rfl
   injection h3 with h3
   rw[h3,hv] at vv; cases vv
  ·rw[List.concat_eq_append] at h ⊢
   have h':(c++v::a')++[w]=s++[y]:=by rw[← h]; simp
   obtain⟨_,h3⟩:=List.append_inj' h' rfl
   injection h3 with h3
   exact⟨a',by rw[h3]⟩
 obtain⟨a',rfl⟩:=last l1 v1
 obtain⟨b',rfl⟩:=last l2 v2
 have n1:(c++v::(a'++[y1])).Nodup:=by rw[← e1,q1]; exact q3
 have n2:(c++v::(b'++[y2])).Nodup:=by rw[← e2,r1]; exact r3
 have hmono:∀ (s:List Nat),Ch g (Bl.filter fun i=>!(H i)) s→Ch g Bl s:=by
  intro s
  induction s with
  | nil=>exact fun h=>h
  | cons a s ih =>
    cases s with
    | nil=>exact fun h=>h
    | cons b s =>
      rintro⟨⟨e,he,hj⟩,h2⟩
      exact⟨⟨e,(List.mem_filter.1 he).1,hj⟩,ih h2⟩
 have c1:Ch g Bl (v::(a'++[y1])):=by
  have:Ch g Bl (c++v::(a'++[y1])):=by rw[← e1,q1]; exact hmono _ q4
  exact (ch_app.1 this).2
 have c2:Ch g Bl (v::(b'++[y2])):=by
  have:Ch g Bl (c++v::(b'++[y2])):=by rw[← e2,r1]; exact hmono _ r4
  exact (ch_app.1 this).2
 rw[List.nodup_append] at n1 n2
 refine⟨a'.reverse++v::b',by simp,?_,?_,by simp,fun z hz=>?_⟩
 ·rw[show y1::(a'.reverse++v::b')++[y2]=(a'++[y1]).reverse++v::(b'++[y2]) by simp]
  rw[List.nodup_append]
  refine⟨(List.reverse_perm _).nodup_iff.2 (List.nodup_cons.1 n1.2.1).2,n2.2.1,fun z hz w hw=>?_⟩
  intro h; subst h
  have hz:z∈a'++[y1]:=List.mem_reverse.1 hz
  rcases List.mem_cons.1 hw with rfl|hw
  ·exact (List.nodup_cons.1 n1.2.1).1 hz
  ·exact hfork z hz hw
 ·rw[show y1::(a'.reverse++v::b')++[y2]=(a'++[y1]).reverse++v::(b'++[y2]) by simp,ch_app]
  refine⟨?_,c2⟩
  rw[show (a'++[y1]).reverse++[v]=(v::(a'++[y1])).reverse by simp,ch_rev]
  exact c1
 ·have key:z∈tr F y1∧z≠y1∨z∈tr F y2∧z≠y2:=by
   rcases List.mem_append.1 hz with h|h
   ·refine .inl ⟨by rw[e1]; simp; right; right; left; simpa using h,fun e=>?_⟩
    have:=(List.nodup_cons.1 n1.2.1).2
    rw[List.nodup_append] at this
    exact this.2.2 z (by simpa using h) y1 (by simp) e
   ·rcases List.mem_cons.1 h with rfl|h
    ·exact .inl ⟨by rw[e1]; simp,fun e=>by rw[e,v1] at vv; cases vv⟩
    ·refine .inr ⟨by rw[e2]; simp; right; right; left; exact h,fun e=>?_⟩
     have:=(List.nodup_cons.1 n2.2.1).2
     rw[List.nodup_append] at this
     exact this.2.2 z h y2 (by simp) e
  rcases key with ⟨k1,k2⟩|⟨k1,k2⟩
  ·refine⟨tr_in d.met h1 k1,?_⟩
   cases hv:V z
   ·rfl
   ·exact absurd (in1 z k1 hv) k2
  ·refine⟨tr_in d.met h2 k1,?_⟩
   cases hv:V z
   ·rfl
   ·exact absurd (in2 z k1 hv) k2
end Go.Pla
