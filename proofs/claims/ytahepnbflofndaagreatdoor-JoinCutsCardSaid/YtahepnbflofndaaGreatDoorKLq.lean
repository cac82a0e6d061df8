/- A plan that runs, cut to a part, runs -/
import Derived.Test.YtahepnbflofndaaGreatDoorKNi
import Derived.Test.YtahepnbflofndaaGreatDoorKLf
import Derived.Test.YtahepnbflofndaaGreatDoorKLj
set_option linter.all false
namespace Go.Proofs.YtahepnbflofndaaGreatDoor
open Go.Am
open Go.Blk (Gr Lst canon)
def inb (b:List Nat) (i:Int):Bool:=decide (i∈nI b)
def mz (b:List Nat) (k:Int):Int:=(nI b).getD k.toNat 0
def AR (b:List Nat) (i:Int):Int:=dW (i==·) (nI b) 0
def jH (b:List Nat) (l:List Int):List Int:=(l.filter (inb b)).map (AR b)
def gj (n:Nat) (E:List (Int×Int)) (b:List Nat) (order:List Int):List Int:=(order.filter λx=>decide (x∈vsM n E (nI b))).map λx=>((cV n E (nI b) x:Nat):Int)
def jS (n:Nat) (E:List (Int×Int)) (b:List Nat) (outs:List (List Int)):List (List Int):=(vsM n E (nI b)).map λx=>jH b (outs.getD x.toNat [])
theorem tw {P:Int→Bool}:∀ {A:List Int}{h:Int}{t:List Int},(∀ z∈A,P z=false)→P h=true→(A++h::t).takeWhile (λz=>!P z)=A
 | [],h,t,_,hh=>by simp [hh]
 | a::A,h,t,ha,hh=>by
   have h1:=ha a (bd ..);have h2:=tw (A:=A) (t:=t) (λz hz=>ha z (bw _ hz)) hh;rw[bU,List.takeWhile_cons_of_pos (by simp [h1]),h2]
theorem HC {P:Int→Bool}{A1 X1 C1 A2 X2 C2:List Int} (e:A1++X1++C1=A2++X2++C2) (a1:∀ z∈A1,P z=false) (c1:∀ z∈C1,P z=false) (a2:∀ z∈A2,P z=false) (c2:∀ z∈C2,P z=false)
 (n1:X1≠[]) (x1:∀ z∈X1,P z=true) (h2:∃ h t,X2=h::t∧P h=true) (t2:∃ t z,X2=t++[z]∧P z=true):A1=A2∧X1=X2∧C1=C2:=by
 obtain⟨h,t,rfl,hh⟩:=h2;obtain⟨t',z,ez,hz⟩:=t2;obtain⟨h1,t1,rfl⟩:∃ h1 t1,X1=h1::t1:=by
  cases X1 with
  | nil=>exact absurd rfl n1
  | cons a r=>exact⟨a,r,rfl⟩
 have hh1:=x1 h1 (bd ..);have k1:=tw (P:=P) (A:=A1) (h:=h1) (t:=t1++C1) a1 hh1;have k2:=tw (P:=P) (A:=A2) (h:=h) (t:=t++C2) a2 hh;have e':A1++h1::(t1++C1)=A2++h::(t++C2):=by simpa using e
 rw[e',k2] at k1;subst k1;have e2:h1::(t1++C1)=h::(t++C2):=List.append_cancel_left e';have e3:(h1::t1)++C1=(h::t)++C2:=e2;have hlast:∃ s w,h1::t1=s++[w]∧P w=true:=by
  refine⟨(h1::t1).dropLast,(h1::t1).getLast (by simp),(List.dropLast_concat_getLast (by simp)).symm,x1 _ (List.getLast_mem _)⟩
 obtain⟨s,w,es,hw⟩:=hlast;rw[es,ez] at e3;have e4:=congrArg List.reverse e3;simp only[List.reverse_append,Fc,Iy,cH,cB,bU] at e4;have q1:=tw (P:=P) (A:=C1.reverse) (h:=w) (t:=s.reverse) (λz hz=>c1 z (List.mem_reverse.1 hz)) hw;have q2:=tw (P:=P) (A:=C2.reverse) (h:=z) (t:=t'.reverse) (λz hz=>c2 z (List.mem_reverse.1 hz)) hz;rw[e4,q2] at q1;have hC:C1=C2:=by have:=congrArg List.reverse q1; simpa using this.symm
 refine⟨rfl,?_,hC⟩;subst hC;rw[← es,← ez] at e3;exact List.append_cancel_right e3
theorem LV {l m:List Int} (hn:l.Nodup) (hs:∀ x∈l,x∈m) (hl:m.length≤l.length):∀ y∈m,y∈l:=λy hy=>Classical.byContradiction λhc=>by
 have:=nH (l:=y::l) (m:=m) (dm.2 ⟨hc,hn⟩) λx hx=>by
  rcases aA.1 hx with rfl|hx
  ·exact hy
  ·exact hs x hx
 simp only[bf] at this;omega
theorem zK {p:Int→Bool}{L:List Int} (h:∀ j∈L,p j=false):L.filter p=[]:=List.filter_eq_nil_iff.2 λa ha=>by rw[h a ha]; decide
theorem Gt {f:Int→Int}{l:List Int} (hn:l.Nodup) (hf:∀ a∈l,∀ b∈l,f a=f b→a=b):(l.map f).Nodup:=by
 unfold List.Nodup;rw[eP];exact List.Pairwise.imp_of_mem (fun {a b} ha hb hne e=>hne (hf a ha b hb e)) hn
def eds (R:List It):List Int:=(R.filter λi=>decide (0≤i.1)).map (·.1)
theorem eO (A B:List It):eds (A++B)=eds A++eds B:=by simp [eds]
theorem mB {R:List It}{j:Int}:j∈eds R↔∃ i∈R,0≤i.1∧i.1=j:=by
 unfold eds;rw[bB];constructor
 ·rintro⟨i,h1,h2⟩;rw[bj,aJ] at h1;exact⟨i,h1.1,h1.2,h2⟩
 ·rintro⟨i,h1,h2,h3⟩;exact⟨i,by rw[bj,aJ]; exact⟨h1,h2⟩,h3⟩
section
variable {n:Nat}{E:List (Int×Int)}{b:List Nat}
theorem nJ {i:Int}:i∈nI b↔∃ k∈b,i=((k:Nat):Int):=by
 unfold nI;rw[bB];exact⟨λ⟨k,h1,h2⟩=>⟨k,h1,h2.symm⟩,λ⟨k,h1,h2⟩=>⟨k,h1,h2.symm⟩⟩
theorem my {k:Nat} (h:k<b.length):mz b ((k:Nat):Int)=((b[k]:Nat):Int):=by
 unfold mz nI;rw[aY,aL,aX,aq h];rfl
theorem Cl {i:Nat} (h:i∈b):AR b ((i:Nat):Int)=((b.idxOf i:Nat):Int):=by
 unfold AR;rw[CG h 0,bM]
theorem pU {i:Int} (h:i∈nI b):mz b (AR b i)=i∧∃ k:Nat,AR b i=k∧k<b.length:=by
 obtain⟨j,hj,rfl⟩:=nJ.1 h;have hlt:=rF.2 hj;rw[Cl hj,my hlt,BV];exact⟨rfl,_,rfl,hlt⟩
theorem qx (hE:InG n E) (hb:∀ i∈b,i<E.length) {k:Nat} (hk:k<b.length):(fO n E (nI b))[k]?=some (((cV n E (nI b) (tlE E b[k]:Nat):Nat):Int),((cV n E (nI b) (hdE E b[k]:Nat):Nat):Int)):=by
 unfold fO;rw[aX];have:(nI b)[k]?=some ((b[k]:Nat):Int):=by
  unfold nI;rw[aX,aq hk];rfl
 rw[this];simp only[aQ];rw[lD hE (hb _ (aP hk))]
theorem wL {k:Nat}{e:Int×Int} (h:(fO n E (nI b))[k]?=some e):k<b.length:=by
 have:=(aI.1 h).1;unfold fO at this;rwa [ai,fE] at this
theorem zi (hE:InG n E) (hb:∀ i∈b,i<E.length) {x:Nat} (hx:((x:Nat):Int)∈vsM n E (nI b)) {k:Int}:k∈dg (fO n E (nI b)) ((cV n E (nI b) (x:Nat):Nat):Int)↔∃ j:Nat,∃ hj:j<b.length,k=j∧hdE E b[j]=x:=by
 rw[xc];constructor
 ·rintro⟨j,rfl,t,ht⟩;have hj:=wL ht;rw[qx hE hb hj] at ht;simp only[aa,ar] at ht;have:=kG (mG hE hb (aP hj)).2 hx om;exact⟨j,hj,rfl,om⟩
 ·rintro⟨j,hj,rfl,rfl⟩;exact⟨j,rfl,_,qx hE hb hj⟩
theorem xa (hE:InG n E) (hb:∀ i∈b,i<E.length) {x:Nat} (hx:((x:Nat):Int)∈vsM n E (nI b)) {k:Int}:k∈dz (fO n E (nI b)) ((cV n E (nI b) (x:Nat):Nat):Int)↔∃ j:Nat,∃ hj:j<b.length,k=j∧tlE E b[j]=x:=by
 rw[fw];constructor
 ·rintro⟨j,rfl,t,ht⟩;have hj:=wL ht;rw[qx hE hb hj] at ht;simp only[aa,ar] at ht;have:=kG (mG hE hb (aP hj)).1 hx om;exact⟨j,hj,rfl,om⟩
 ·rintro⟨j,hj,rfl,rfl⟩;exact⟨j,rfl,_,qx hE hb hj⟩
theorem sL (hE:InG n E) {i:It}{R:List It}{pl:List Int} (v:Inv n E R pl) (hi:i∈R) (h0:0≤i.1):∃ k:Nat,i.1=k∧k<E.length∧i.2.1=((tlE E k:Nat):Int)∧i.2.2=((hdE E k:Nat):Int):=by
 rcases v.it i hi with ⟨h1,_⟩|⟨k,h1,h2,_⟩
 ·omega
 ·obtain⟨h3,h4⟩:=aI.1 h2;have:=(hE k h3).1;rw[h4] at this;simp only[ar] at this;exact⟨k,h1,h3,this.1,this.2⟩
theorem ly (hE:InG n E) {x:Nat}{i:Int}:i∈dg E ((x:Nat):Int)↔∃ k:Nat,i=k∧k<E.length∧hdE E k=x:=by
 rw[xc];constructor
 ·rintro⟨k,rfl,t,ht⟩;obtain⟨h3,h4⟩:=aI.1 ht;have:=(hE k h3).1;rw[h4] at this;simp only[ar] at this;exact⟨k,rfl,h3,om⟩
 ·rintro⟨k,rfl,h3,rfl⟩;exact⟨k,rfl,_,by rw[aq h3,(hE k h3).1]⟩
theorem mA (hE:InG n E) {x:Nat}{i:Int}:i∈dz E ((x:Nat):Int)↔∃ k:Nat,i=k∧k<E.length∧tlE E k=x:=by
 rw[fw];constructor
 ·rintro⟨k,rfl,t,ht⟩;obtain⟨h3,h4⟩:=aI.1 ht;have:=(hE k h3).1;rw[h4] at this;simp only[ar] at this;exact⟨k,rfl,h3,om⟩
 ·rintro⟨k,rfl,h3,rfl⟩;exact⟨k,rfl,_,by rw[aq h3,(hE k h3).1]⟩
theorem xM (hE:InG n E) (hb:∀ i∈b,i<E.length) (hnd:b.Nodup) {x:Nat} (hx:((x:Nat):Int)∈vsM n E (nI b)) {lx:List Int} (ho:OutsOk E ((x:Nat):Int) lx):OutsOk (fO n E (nI b)) ((cV n E (nI b) (x:Nat):Nat):Int) (jH b lx):=by
 have hn:(jH b lx).Nodup:=by
  refine Gt (ho.nodup.filter _) λi hi k hk e=>?_;rw[bj] at hi hk;have h1:=(pU (b:=b) (aR hi.2)).1;have h2:=(pU (b:=b) (aR hk.2)).1;rw[← h1,← h2,e]
 refine (List.perm_ext_iff_of_nodup hn (hM _ _ _)).2 λk=>?_;rw[show dr (λe=>decide (e.1=((cV n E (nI b) (x:Nat):Nat):Int))) (fO n E (nI b)) 0=dz (fO n E (nI b)) ((cV n E (nI b) (x:Nat):Nat):Int) from rfl,xa hE hb hx];unfold jH;rw[bB];constructor
 ·rintro⟨i,hi,rfl⟩;rw[bj] at hi;have hi2:i∈nI b:=aR hi.2;obtain⟨h1,j,h2,h3⟩:=pU hi2;obtain⟨k,rfl,h4,h5⟩:=(mA hE).1 (ho.mem.1 hi.1);rw[h2,my h3] at h1;exact⟨j,h3,h2,by rw[show b[j]=k by omega]; exact h5⟩
 ·rintro⟨j,hj,rfl,h⟩;have hm:b[j]∈b:=aP hj;refine⟨((b[j]:Nat):Int),?_,?_⟩
  ·rw[bj];exact⟨ho.mem.2 ((mA hE).2 ⟨b[j],rfl,hb _ hm,h⟩),aH (nJ.2 ⟨_,hm,rfl⟩)⟩
  ·rw[Cl hm,hnd.idxOf_getElem]
theorem zY {lx:List Int}:(jH b lx).map (mz b)=lx.filter (inb b):=by
 unfold jH;rw[gQ]
 conv=>rhs; rw[← IE (lx.filter (inb b))]
 refine cK λi hi=>?_;rw[bj] at hi;exact (pU (b:=b) (aR hi.2)).1
def Alk (b:List Nat) (R R':List It):Prop:=(eds R').map (mz b)=(eds R).filter (inb b)
theorem Lf (hE:InG n E) (hb:∀ i∈b,i<E.length) {R R':List It}{pl:List Int} (v:Inv n E R pl) (a:Alk b R R') {x:Nat} (hx:((x:Nat):Int)∉vsM n E (nI b)) {lx:List Int} (ho:OutsOk E ((x:Nat):Int) lx) (hr:uP E R ((x:Nat):Int)=true):Alk b (ij E ((x:Nat):Int) lx R) R':=by
 have hae:eds (eF E ((x:Nat):Int) lx)=lx:=lF ho;have hlx:lx.filter (inb b)=[]:=zK λj hj=>by
  obtain⟨k,rfl,h1,h2⟩:=(mA hE).1 (ho.mem.1 hj);refine aw λh=>hx ?_;obtain⟨k',hk',e⟩:=nJ.1 h;have hkk:k=k':=om;subst hkk;rw[← h2];exact (mG hE hb hk').1
 unfold Alk;rcases mr.1 hr with ⟨_,hno⟩|⟨A,X,C,c,_,hX⟩
 ·rw[lU hno,eO,hae,bI,hlx];exact a
 ·have hXn:(eds X).filter (inb b)=[]:=zK λj hj=>by
   obtain⟨i,hi,h0,rfl⟩:=mB.1 hj;obtain⟨k,h1,h2,h3,h4⟩:=sL hE v (by rw[c.eq]; simp [hi]) h0;refine aw λh=>hx ?_;obtain⟨k',hk',e⟩:=nJ.1 h;have hkk:k=k':=om;subst hkk;have hh:i.2.2=((x:Nat):Int):=by
    rcases hX i hi with q|q
    ·exact q
    ·omega
   rw[← hh,h4];exact (mG hE hb hk').2
  rw[c.next,eO,eO,hae,bI,bI,hlx];have e:=a;unfold Alk at e;rw[c.eq,eO,eO,bI,bI,hXn] at e;exact e
theorem tM {R A X C:List It}{pl:List Int} (v:Inv n E R pl) (e:R=A++X++C):(eds X).Nodup:=by
 have h:=v.nd;change (eds R).Nodup at h;rw[e,eO,eO,cB] at h;exact (bV.1 (bV.1 h).2.1).1
theorem Mj (hE:InG n E) (hb:∀ i∈b,i<E.length) (hnd:b.Nodup) (hE':InG (vsM n E (nI b)).length (fO n E (nI b))) {R R':List It}{pl pl':List Int} (v:Inv n E R pl) (v':Inv (vsM n E (nI b)).length (fO n E (nI b)) R' pl') (a:Alk b R R') {x:Nat} (hx:((x:Nat):Int)∈vsM n E (nI b)) (hpl:((cV n E (nI b) (x:Nat):Nat):Int)∉pl')
 {lx:List Int} (ho:OutsOk E ((x:Nat):Int) lx) (hr:uP E R ((x:Nat):Int)=true) :
 uP (fO n E (nI b)) R' ((cV n E (nI b) (x:Nat):Nat):Int)=true∧Alk b (ij E ((x:Nat):Int) lx R) (ij (fO n E (nI b)) ((cV n E (nI b) (x:Nat):Nat):Int) (jH b lx) R'):=by
 have hae:eds (eF E ((x:Nat):Int) lx)=lx:=lF ho;have hae':eds (eF (fO n E (nI b)) ((cV n E (nI b) (x:Nat):Nat):Int) (jH b lx))=jH b lx:=lF (xM hE hb hnd hx ho);have hrl:=oA hx;have hins:∀ k:Int,k∈dg (fO n E (nI b)) ((cV n E (nI b) (x:Nat):Nat):Int)↔∃ j:Nat,∃ hj:j<b.length,k=j∧hdE E b[j]=x:=λk=>zi hE hb hx;have real':∀ i∈R',0≤i.1→∃ j:Nat,∃ hj:j<b.length,i.1=j∧(i.2.2=((cV n E (nI b) (x:Nat):Nat):Int)↔hdE E b[j]=x):=λi hi h0=>by
  rcases v'.it i hi with ⟨h1,_⟩|⟨j,h1,h2,_⟩
  ·omega
  ·have hj:=wL h2;rw[qx hE hb hj] at h2;simp only[aa,ar] at h2;refine⟨j,hj,h1,?_⟩;rw[← h2.2];constructor
   ·intro e;have:=kG (mG hE hb (aP hj)).2 hx om;omega
   ·intro e;rw[e]
 have loose':∀ i∈R',i.2.2=((cV n E (nI b) (x:Nat):Nat):Int)→0≤i.1:=λi hi e=>by
  rcases v'.it i hi with ⟨_,h2⟩|⟨j,h1,_⟩
  ·omega
  ·omega
 generalize hv:((cV n E (nI b) (x:Nat):Nat):Int)=vx at *
 by_cases hneed:(dg (fO n E (nI b)) vx).length=0
 ·
  have hR':R'=[]:=by
   rcases v'.src with ⟨_,h⟩|h
   ·exact h
   ·exact absurd (by rw[← hv]; exact h _ hrl (by rw[hv]; exact hneed)) hpl
  subst hR';have hR0:(eds R).filter (inb b)=[]:=by
   have:=a;unfold Alk at this;exact this.symm
  refine⟨mr.2 (.inl ⟨hneed,λi hi=>by cases hi⟩),?_⟩;unfold Alk;rw[lU (λi hi=>by cases hi),bO,hae',zY];rcases mr.1 hr with ⟨_,hno⟩|⟨A,X,C,c,_,hX⟩
  ·rw[lU hno,eO,hae,bI,hR0,bO]
  ·rw[c.eq,eO,eO,bI,bI] at hR0;have h1:=List.append_eq_nil_iff.1 hR0;have h2:=List.append_eq_nil_iff.1 h1.1;rw[c.next,eO,eO,hae,bI,bI,h2.1,h1.2,bO,cH]
 ·
  obtain⟨k0,hk0⟩:∃ k,k∈dg (fO n E (nI b)) vx:=by
   match h:dg (fO n E (nI b)) vx,hneed with
   | [],hn=>exact absurd rfl hn
   | k::_,_=>exact⟨k,bd ..⟩
  obtain⟨j0,hj0,rfl,hh0⟩:=(hins k0).1 hk0;have hins0:((b[j0]:Nat):Int)∈dg E ((x:Nat):Int):=(ly hE).2 ⟨_,rfl,hb _ (aP hj0),hh0⟩;rcases mr.1 hr with ⟨h0,_⟩|⟨A,X,C,c,hcnt,hX⟩
  ·have:=uH hins0;omega
  have memR:∀ {i:It},(i∈A∨i∈X∨i∈C)→i∈R:=fun {i} h=>by
   rw[c.eq];simp only[aV];rcases h with h|h|h
   ·exact .inl (.inl h)
   ·exact .inl (.inr h)
   ·exact .inr h
  have hXh:∀ i∈X,0≤i.1→i.2.2=((x:Nat):Int):=λi hi h0=>by
   rcases hX i hi with q|q
   ·exact q
   ·obtain⟨k,_,_,_,h4⟩:=sL hE v (memR (.inr (.inl hi))) h0;omega
  have hXr:∀ i∈X,i.2.2=((x:Nat):Int)→0≤i.1:=λi hi e=>by
   rcases v.it i (memR (.inr (.inl hi))) with ⟨_,h⟩|⟨k,h,_⟩
   ·omega
   ·omega
  have hlen:(eds X).length=(dg E ((x:Nat):Int)).length:=by
   unfold eds;rw[ai,← List.countP_eq_length_filter,← hcnt];unfold gz;exact List.countP_congr λi hi=>by
    simp only[aJ];exact⟨hXh i hi,hXr i hi⟩
  have hsub:∀ j∈eds X,j∈dg E ((x:Nat):Int):=λj hj=>by
   obtain⟨i,hi,h0,rfl⟩:=mB.1 hj;obtain⟨k,h1,h2,_,h4⟩:=sL hE v (memR (.inr (.inl hi))) h0;have:=hXh i hi h0;exact (ly hE).2 ⟨k,h1,h2,om⟩
  have hall:=LV (tM v c.eq) hsub om;have hPt:∀ (i:It),i∈R→0≤i.1→(decide (hdE E i.1.toNat=x)=true↔i.2.2=((x:Nat):Int)):=λi hi h0=>by
   obtain⟨k,h1,_,_,h4⟩:=sL hE v hi h0;rw[aJ,h1,aY,h4];omega
  have hPt':∀ (i:It),i∈R'→0≤i.1→(decide (hdE E (mz b i.1).toNat=x)=true↔i.2.2=vx):=λi hi h0=>by
   obtain⟨j,hj,h1,h2⟩:=real' i hi h0;rw[aJ,h1,my hj,aY,h2]
  have hξ:∀ z,z∈(eds X).filter (inb b)→decide (hdE E z.toNat=x)=true:=λz hz=>by
   rw[bj] at hz;obtain⟨i,hi,h0,rfl⟩:=mB.1 hz.1;exact (hPt i (memR (.inr (.inl hi))) h0).2 (hXh i hi h0)
  have hξn:(eds X).filter (inb b)≠[]:=λe=>by
   have:((b[j0]:Nat):Int)∈(eds X).filter (inb b):=by
    rw[bj];exact⟨hall _ hins0,aH (nJ.2 ⟨_,aP hj0,rfl⟩)⟩
   rw[e] at this;cases this
  have hR':∃ i∈R',i.2.2=vx:=by
   have h1:((b[j0]:Nat):Int)∈(eds R).filter (inb b):=by
    rw[c.eq,eO,eO,bI,bI,aV,aV];refine .inl (.inr ?_);rw[bj];exact⟨hall _ hins0,aH (nJ.2 ⟨_,aP hj0,rfl⟩)⟩
   rw[← (show (eds R').map (mz b)=(eds R).filter (inb b) from a),bB] at h1;obtain⟨z,hz,e⟩:=h1;obtain⟨i,hi,h0,rfl⟩:=mB.1 hz;refine⟨i,hi,(hPt' i hi h0).1 ?_⟩;rw[e,aY];exact aH hh0
  rcases px vx R' with hno|⟨A',X',C',c'⟩
  ·obtain⟨i,hi,e⟩:=hR';exact absurd e (hno i hi)
  have memR':∀ {i:It},(i∈A'∨i∈X'∨i∈C')→i∈R':=fun {i} h=>by
   rw[c'.eq];simp only[aV];rcases h with h|h|h
   ·exact .inl (.inl h)
   ·exact .inl (.inr h)
   ·exact .inr h
  have e:=a;unfold Alk at e;rw[c'.eq,c.eq,eO,eO,eO,eO,cj,cj,bI,bI] at e;have off:∀ (B:List It),(∀ i∈B,i∈R)→(∀ i∈B,i.2.2≠((x:Nat):Int))→∀ z∈(eds B).filter (inb b),decide (hdE E z.toNat=x)=false:=λB h1 h2 z hz=>by
   rw[bj] at hz;obtain⟨i,hi,h0,rfl⟩:=mB.1 hz.1;cases hq:decide (hdE E i.1.toNat=x) with
   | false=>rfl
   | true=>exact absurd ((hPt i (h1 i hi) h0).1 hq) (h2 i hi)
  have off':∀ (B:List It),(∀ i∈B,i∈R')→(∀ i∈B,i.2.2≠vx)→∀ z∈(eds B).map (mz b),decide (hdE E z.toNat=x)=false:=λB h1 h2 z hz=>by
   obtain⟨w,hw,rfl⟩:=bB.1 hz;obtain⟨i,hi,h0,rfl⟩:=mB.1 hw;cases hq:decide (hdE E (mz b i.1).toNat=x) with
   | false=>rfl
   | true=>exact absurd ((hPt' i (h1 i hi) h0).1 hq) (h2 i hi)
  obtain⟨ah,at_,ea,eah⟩:=c'.hd;obtain⟨zh,zt,ez,ezt⟩:=c'.tl;have h0a:=loose' ah (memR' (.inr (.inl (by rw[ea]; simp)))) eah;have h0z:=loose' zt (memR' (.inr (.inl (by rw[ez]; simp)))) ezt
  obtain⟨d1,d2,d3⟩:=HC (P:=λz=>decide (hdE E z.toNat=x)) e.symm (off A (λi hi=>memR (.inl hi)) c.na) (off C (λi hi=>memR (.inr (.inr hi))) c.nc) (off' A' (λi hi=>memR' (.inl hi)) c'.na) (off' C' (λi hi=>memR' (.inr (.inr hi))) c'.nc) hξn hξ
   ⟨mz b ah.1,(eds at_).map (mz b),by rw[ea]; simp [eds,h0a],(hPt' ah (memR' (.inr (.inl (by rw[ea]; simp)))) h0a).2 eah⟩
   ⟨(eds zh).map (mz b),mz b zt.1,by rw[ez,eO]; simp [eds,h0z],(hPt' zt (memR' (.inr (.inl (by rw[ez]; simp)))) h0z).2 ezt⟩
  have hX':∀ i∈X',i.2.2=vx∨i.2.2=-1:=λi hi=>by
   rcases v'.it i (memR' (.inr (.inl hi))) with ⟨_,h⟩|⟨j,h,_⟩
   ·exact .inr h
   ·have h0:0≤i.1:=om;have hm:mz b i.1∈(eds X').map (mz b):=bB.2 ⟨_,mB.2 ⟨i,hi,h0,rfl⟩,rfl⟩;rw[← d2] at hm;exact .inl ((hPt' i (memR' (.inr (.inl hi))) h0).1 (hξ _ hm))
  have hcX':gz vx X'=(eds X').length:=by
   unfold eds gz;rw[ai,← List.countP_eq_length_filter];refine List.countP_congr λi hi=>?_;simp only[aJ];refine⟨λq=>loose' i (memR' (.inr (.inl hi))) q,λq=>?_⟩;rcases hX' i hi with h|h
   ·exact h
   ·obtain⟨j,hj,h1,_⟩:=real' i (memR' (.inr (.inl hi))) q;rcases v'.it i (memR' (.inr (.inl hi))) with ⟨h2,_⟩|⟨j',_,h3,_⟩
    ·omega
    ·rw[qx hE hb (wL h3)] at h3;simp only[aa,ar] at h3;omega
  have hmem:∀ z,z∈(eds X').map (mz b)↔z∈(dg (fO n E (nI b)) vx).map (mz b):=λz=>by
   rw[← d2,bj,bB];constructor
   ·rintro⟨h1,h2⟩;obtain⟨k,rfl,_,h4⟩:=(ly hE).1 (hsub z h1);obtain⟨k',hk',e'⟩:=nJ.1 (aR h2);have hkk:k=k':=om;subst hkk;have hlt:=rF.2 hk';exact⟨_,(hins _).2 ⟨b.idxOf k,hlt,rfl,by rw[BV]; exact h4⟩,by rw[my hlt,BV]⟩
   ·rintro⟨w,hw,rfl⟩;obtain⟨j,hj,rfl,h⟩:=(hins w).1 hw;rw[my hj];exact⟨hall _ ((ly hE).2 ⟨_,rfl,hb _ (aP hj),h⟩),aH (nJ.2 ⟨_,aP hj,rfl⟩)⟩
  have hnd1:((eds X').map (mz b)).Nodup:=by
   rw[← d2];exact (tM v c.eq).filter _
  have hnd2:((dg (fO n E (nI b)) vx).map (mz b)).Nodup:=Gt (hM _ _ _) λp hp q hq e'=>by
   obtain⟨j,hj,rfl,_⟩:=(hins p).1 hp;obtain⟨k,hk,rfl,_⟩:=(hins q).1 hq;rw[my hj,my hk] at e';have:b[j]=b[k]:=om;rw[(List.getElem_inj hnd).1 this]
  have hlen2:(eds X').length=(dg (fO n E (nI b)) vx).length:=by
   have h1:=nH hnd1 λz hz=>(hmem z).1 hz;have h2:=nH hnd2 λz hz=>(hmem z).2 hz;rw[ai,ai] at h1 h2;omega
  refine⟨mr.2 (.inr ⟨A',X',C',c',by rw[hcX',hlen2],hX'⟩),?_⟩;unfold Alk;rw[c'.next,c.next,eO,eO,eO,eO,hae,hae',cj,cj,bI,bI,zY,d1,d3]
end
open Go.Am
open Go.Blk (Gr Lst canon)
section
variable {n:Nat}{E:List (Int×Int)}{b:List Nat}
theorem yV {a:Nat} (ha:a<(vsM n E (nI b)).length):cV n E (nI b) (vsM n E (nI b))[a]=a:=by
 have hv:=aP ha;have hlt:=oA hv;have hp:=pJ n E (nI b);have e1:(vsM n E (nI b))[cV n E (nI b) (vsM n E (nI b))[a]]=(vsM n E (nI b))[a]:=by
  have:=jQ hv;rw[aq hlt] at this;exact Option.some.inj this
 rw[gC] at hp;rcases lN (cV n E (nI b) (vsM n E (nI b))[a]) a with h|h|h
 ·have:=hp _ _ hlt ha h; omega
 ·exact h
 ·have:=hp _ _ ha hlt h; omega
theorem IH:(vsM n E (nI b)).map (λx=>((cV n E (nI b) x:Nat):Int))=ju (vsM n E (nI b)).length:=by
 refine cW λi=>?_;rw[aX];by_cases h:i<(vsM n E (nI b)).length
 ·rw[aq h,sP h];simp only[aQ];rw[yV h]
 ·rw[bG om,bG (by rw[kh]; omega)];rfl
theorem CH {outs:List (List Int)}{x:Nat} (hx:((x:Nat):Int)∈vsM n E (nI b)):(jS n E b outs).getD (cV n E (nI b) (x:Nat)) []=jH b (outs.getD x []):=by
 unfold jS;rw[aL,aX,jQ hx];simp only[aQ,aY];rfl
theorem Lw {x:Int} (h:x∈vsM n E (nI b)):0≤x∧x<(n:Nat):=by
 unfold vsM at h;rw[bj,gf] at h;exact h.1
theorem HK (hE:InG n E) (hb:∀ i∈b,i<E.length) (hnd:b.Nodup) {order:List Int}{outs:List (List Int)} (hp:PlanP n E order outs):PlanP (vsM n E (nI b)).length (fO n E (nI b)) (gj n E b order) (jS n E b outs):=by
 obtain⟨h1,h2,h3⟩:=hp;refine⟨?_,by unfold jS; rw[ai],λa ha=>?_⟩
 ·unfold gj;rw[← IH];refine List.Perm.map _ ?_;have h4:=h1.filter λx=>decide (x∈vsM n E (nI b));refine h4.trans ?_;have e:(ju n).filter (λx=>decide (x∈vsM n E (nI b)))=vsM n E (nI b):=by
   conv=>rhs; unfold vsM
   refine Ff λx hx=>?_;rw[decide_eq_decide];unfold vsM;rw[bj,aJ];exact⟨λq=>q.2,λq=>⟨hx,q⟩⟩
  rw[e]
 ·have hv:=aP ha;obtain⟨q1,q2⟩:=Lw hv;obtain⟨x,ex⟩:∃ x:Nat,(vsM n E (nI b))[a]=((x:Nat):Int):=⟨((vsM n E (nI b))[a]).toNat,om⟩
  have hr:=yV ha;rw[ex] at hr hv;have:=xM hE hb hnd hv (h3 x om);rw[← CH (outs:=outs) hv,hr] at this;exact this
theorem wP (hE:InG n E) (hb:∀ i∈b,i<E.length) (hnd:b.Nodup) (hE':InG (vsM n E (nI b)).length (fO n E (nI b)))
 (hone:∀ a b:Nat,a<n→b<n→(dg E a).length=0→(dg E b).length=0→a=b) (hone':∀ a c:Nat,a<(vsM n E (nI b)).length→c<(vsM n E (nI b)).length→(dg (fO n E (nI b)) a).length=0→(dg (fO n E (nI b)) c).length=0→a=c)
 {outs:List (List Int)} (ho:∀ x:Nat,x<n→OutsOk E x (outs.getD x [])) :
 ∀ (q pl:List Int) (R:List It) (ends:List (List It)) (i:Nat) (r:List (List It)×List It) (R':List It) (ends':List (List It)) (i':Nat),oM n E outs q pl R ends i=.inl r→Inv n E R pl→Inv (vsM n E (nI b)).length (fO n E (nI b)) R' (gj n E b pl)→Alk b R R' →
   ∃ r',oM (vsM n E (nI b)).length (fO n E (nI b)) (jS n E b outs) (gj n E b q) (gj n E b pl) R' ends' i'=.inl r'
 | [],pl,R,ends,i,r,R',ends',i',_,_,_,_=>⟨_,rfl⟩
 | x::q,pl,R,ends,i,r,R',ends',i',h,v,v',a=>by
   unfold oM at h;by_cases hr:gu n E R pl x=true
   ·rw[if_pos hr] at h;obtain⟨h1,h2,h3⟩:=oz.1 hr;obtain⟨x,rfl⟩:∃ y:Nat,x=y:=⟨x.toNat,om⟩
    rw[aY] at h;have hox:=ho x om;have vn:=v.next hox h2 h3 hone h1;by_cases hx:((x:Nat):Int)∈vsM n E (nI b)
    ·have hpl:((cV n E (nI b) (x:Nat):Nat):Int)∉gj n E b pl:=λhm=>by
      unfold gj at hm;obtain⟨y,hy,e⟩:=bB.1 hm;rw[bj,aJ] at hy;have:=kG hy.2 hx om;subst this;exact h2 hy.1
     obtain⟨k1,k2⟩:=Mj hE hb hnd hE' v v' a hx hpl hox h3;have hrl:=oA hx;have ho':=xM hE hb hnd hx hox;have vn':=v'.next ho' hpl k1 hone' ⟨om,om⟩;have e1:gj n E b (((x:Nat):Int)::q)=((cV n E (nI b) (x:Nat):Nat):Int)::gj n E b q:=by
      unfold gj;rw[eZ (by simpa using hx),cM]
     have e2:gj n E b (pl++[((x:Nat):Int)])=gj n E b pl++[((cV n E (nI b) (x:Nat):Nat):Int)]:=by
      unfold gj;rw[bI,cj,eZ (by simpa using hx)];rfl
     rw[e1];unfold oM;rw[if_pos (oz.2 ⟨⟨om,om⟩,hpl,k1⟩),aY,CH hx,← e2];rw[← e2] at vn';exact wP hE hb hnd hE' hone hone' ho q _ _ _ _ _ _ _ _ h vn vn' k2
    ·have e1:gj n E b (((x:Nat):Int)::q)=gj n E b q:=by
      unfold gj;rw[fc (by simpa using hx)]
     have e2:gj n E b (pl++[((x:Nat):Int)])=gj n E b pl:=by
      unfold gj;rw[bI,fc (by simpa using hx)];simp
     rw[e1];have:=wP hE hb hnd hE' hone hone' ho q (pl++[((x:Nat):Int)]) _ _ _ _ R' ends' i' h vn (by rw[e2]; exact v') (Lf hE hb v a hx hox h3);rw[e2] at this;exact this
   ·rw[if_neg hr] at h;cases h
theorem HJ (hE:InG n E) (hb:∀ i∈b,i<E.length) (hnd:b.Nodup) (hg:gJ (n:Nat) E) (hg':gJ (((vsM n E (nI b)).length:Nat):Int) (fO n E (nI b))) {order:List Int}{outs:List (List Int)} (hp:PlanP n E order outs) {r:List (List It)×List It} (hr:oM n E outs order [] [] (List.replicate n []) 0=.inl r) :
 ∃ r',oM (vsM n E (nI b)).length (fO n E (nI b)) (jS n E b outs) (gj n E b order) [] [] (List.replicate (vsM n E (nI b)).length []) 0=.inl r':=by
 have h1:=hg.2.2.2.2;have h2:=hg'.2.2.2.2;rw[aY] at h1 h2;have h:=wP hE hb hnd (tO hg'.1) (wX h1) (wX h2) hp.2.2 order [] [] _ 0 r [] (List.replicate (vsM n E (nI b)).length []) 0 hr Inv.start Inv.start rfl;exact h
end
end Go.Proofs.YtahepnbflofndaaGreatDoor
