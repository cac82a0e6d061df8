/- reach -/
import Derived.Test.YtpeemonpdlifbaaGreatVTAD
import Derived.Test.YtpeemonpdlifbaaGreatVTAF
import Derived.Test.YtpeemonpdlifbaaGreatVTAM
set_option linter.all false
namespace Go.Proofs.YtpeemonpdlifbaaGreat
open Go.Am
inductive ClU (E:List (Int×Int)) (P:Nat→Bool) (s0:List Int):List Int→Prop
 | base:ClU E P s0 s0
 | step {s:List Int}{i:Nat} (h:ClU E P s0 s) (hi:i<E.length) (hp:P i=true):ClU E P s0 (ip s E[i])
set_option maxHeartbeats 1000000 in
theorem zh {h:AH}{n ab:Nat}{ev:AV}{E:List (Int×Int)}{f:FuncId}{caps:List AV}{s0:List Int}{P:Nat→Bool} (he:SlE h ev E) (hm:gG (n:Nat) E=true) (hoff:∀ b o m c,ev=.sl b o m c→b≠ab)
 (hg:h.get ab=some (.cells (s0.flatMap uI) 1 false)) (hs0:s0.length=n) (hu:∀ z∈s0,inU z)
 (hcl:∀ h',h.next≤h'.next→(∀ c,c<h.next→c≠ab→h'.get c=h.get c)→∀ i:Nat,i<E.length→C prg f ([.int .i64 (i:Nat)]++caps) h' λr h''=>r=.bool (P i)∧Ext h'.next h' h'') :
 C prg 36 [.agg [.int .i64 (n:Nat),ev],.sl ab 0 n n,.bool true,.fn f caps] h λ_ h'=>∃ s,ClU E P s0 s∧(∀ i (hi:i<E.length),P i=true→ip s E[i]=s)∧s.length=n∧(∀ z∈s,inU z)∧Mod h.next h h' ab (.cells (s.flatMap uI) 1 false):=by
 obtain⟨ec,eo⟩:=he.cells
 obtain⟨m1,m2,m3,m4⟩:=jQ hm
 have hab:=AH.lt_of_get hg
 have hlim:∀ {s:List Int},s.length=n→(∀ z∈s,inU z)→s.sum≤(n:Nat)*2 ^ 64:=fun {s} h1 h2=>by rw[← h1]; exact sum_le h2
 have el:=he.len
 rw[ak] at el
 refine LB pf36 ?_
 refine aj (aB (Mi0) ?_)
 have x0:Ext h.next h (h.new (.cells [.int .i64 (n:Nat),ev] 2 false)):=Ly (ae _)
 have g0:(h.new (.cells [.int .i64 (n:Nat),ev] 2 false)).get h.next=some (.cells [.int .i64 (n:Nat),ev] 2 false):=by rw[AH.get_new,if_pos rfl]
 have n0:(h.new (.cells [.int .i64 (n:Nat),ev] 2 false)).next=h.next+1:=rfl
 generalize (h.new (.cells [.int .i64 (n:Nat),ev] 2 false))=h1 at *
 have M1:Mod h.next h h1 ab (.cells (s0.flatMap uI) 1 false):=x0.mod (Mod.refl (by rw[x0.gt _ hab]; exact hg))
 refine aj (aB (Mi0) ?_)
 refine cL (fW (λm ts h'=>∃ (s:List Int) (b:Bool),ClU E P s0 s∧s.length=n∧(∀ z∈s,inU z)∧(b=false→∀ i (hi:i<E.length),P i=true→ip s E[i]=s)∧m=(if b then (((n:Nat):Int)*2 ^ 64-s.sum).toNat+1 else 0)∧Mod h.next h h' ab (.cells (s.flatMap uI) 1 false) ∧
  h'.get h.next=some (.cells [.int .i64 (n:Nat),ev] 2 false)∧Held [(1,.sl ab 0 n n),(2,.bool true),(3,.fn f caps),(4,.ptr h.next 0),(8,.bool b)] ts) ?_ (n:=(((n:Nat):Int)*2 ^ 64-s0.sum).toNat+1)
  ⟨s0,true,.base,hs0,hu,(λe=>by cases e),rfl,M1,g0,Hi0⟩)
 clear g0 M1 x0 n0
 rintro m ts h2 ⟨s,b,hk,hsl,hsu,hst,rfl,M2,g2,e1,e2,e3,e4,e8,-⟩
 simp only at e1 e2 e3 e4 e8
 refine aj (aj (aB (M1 e8) ?_))
 cases b with
 | false =>
   refine dL (Z0) ?_
   exact ft ⟨λ_=>⟨.tup [],rfl,s,hk,hst rfl,hsl,hsu,M2⟩,λe=>absurd rfl e⟩
 | true =>
 refine cX (Z0) (bK ?_)
 refine cL (aj (aB (M0) ?_))
 have rE:ar h2 h.next 1 1=some [ev]:=bq g2 rfl
 refine aj (aB (M3 e4 rE el) ?_)
 have hnb:h.next≠ab:=om
 refine fB (α:=List Int×Bool) (N:=E.length) (λ_ a=>[(15,ev),(1,.sl ab 0 n n),(2,.bool true),(3,.fn f caps),(4,.ptr h.next 0),(8,.bool a.2)])
  (λk a h'=>ClU E P s0 a.1∧a.1.length=n∧(∀ z∈a.1,inU z)∧s.sum≤a.1.sum∧(a.2=false→a.1=s∧∀ i (hi:i<E.length),i<k→P i=true→ip s E[i]=s)∧(a.2=true→s.sum<a.1.sum)∧Mod h.next h h' ab (.cells (a.1.flatMap uI) 1 false)∧h'.get h.next=some (.cells [.int .i64 (n:Nat),ev] 2 false))
  (s,false) (λ_ _=>rfl) om (H4 e1 e2 e3 e4) ⟨hk,hsl,hsu,Int.le_refl _,λ_=>⟨rfl,λi hi h=>absurd h (eP _)⟩,(λe=>by cases e),M2,g2⟩ ?_ ?_
 ·clear e1 e2 e3 e4 e8 rE
  rintro k ⟨t,b⟩ ts h3 hk2 ⟨j1,j2,j3,j4,j5,j6,j7,j8⟩ ⟨ei,en,e15,e1,e2,e3,e4,e8,-⟩
  simp only at ei en e15 e1 e2 e3 e4 e8 j1 j2 j3 j4 j5 j6 j7 j8
  obtain⟨a,bb,eab,ha,hb⟩:=vO (cj.1 m4 _ (aR hk2))
  have n3:=j7.nx
  have he3:SlE h3 ev E:=he.cong λb o m c e=>j7.gt b (hoff b o m c e) (he.lt e)
  obtain⟨qb,qp,a1,r1,_⟩:=he3.at (fE (f:=eE) hk2)
  rw[eab] at r1
  have r1:ar h3 qb qp 2=some [.int .i64 (a:Nat),.int .i64 (bb:Nat)]:=r1
  obtain⟨h4,w4,x4,g4,n4⟩:=gm (h:=h3) (z:=[.int .i64 0,.int .i64 0]) (cs:=[.int .i64 (a:Nat),.int .i64 (bb:Nat)]) (e:=2) rfl
  refine aj (aB (M5 e15 ei a1 r1 w4) ?_)
  have M4:=j7.ext hab (x4.mono n3)
  have hc:=hcl h4 M4.nx (λc c1 c2=>M4.gt c c2 c1) k hk2
  refine aj (aj (bO (ka 2 (M1 e3) rfl (Z1 e3) (M1 e3) (M1 e3) (hc) λr h5 hq=>?_)))
  obtain⟨rfl,x5⟩:=hq
  refine bI (M0) ?_
  have n5:=x5.nx
  have M5:=M4.ext hab (x5.mono M4.nx)
  cases hP:P k with
  | false =>
    refine cX (Z0) (ft ⟨λ_=>⟨(t,b),⟨j1,j2,j3,j4,λhf=>⟨(j5 hf).1,λi hi hik hp=>?_⟩,j6,M5,?_⟩,by simp only[hl,am,aF,simprocAttr,ei,en,e15,e1,e2,e3,e4,e8]⟩,λe=>absurd rfl e⟩)
    ·by_cases hik':i=k
     ·subst hik'
      rw[hP] at hp
      cases hp
     ·exact (j5 hf).2 i hi om hp
    ·have:=AH.lt_of_get j8
     rw[x5.gt _ om,x4.gt _ this]
     exact j8
  | true =>
  refine dL (Z0) (bK ?_)
  have g5:h5.get h3.next=some (.cells [.int .i64 (a:Nat),.int .i64 (bb:Nat)] 2 false):=by rw[x5.gt _ om]; exact g4
  have gA:=M5.get
  have gB:h5.get h.next=some (.cells [.int .i64 (n:Nat),ev] 2 false):=by
   have:=AH.lt_of_get j8
   rw[x5.gt _ om,x4.gt _ this]
   exact j8
  have rx:ar h5 h3.next 0 1=some [.int .i64 (a:Nat)]:=bq g5 rfl
  have ry:ar h5 h3.next 1 1=some [.int .i64 (bb:Nat)]:=bq g5 rfl
  have ia:fU ((a:Nat):Int) n=some a:=dU ha
  have ib:fU ((bb:Nat):Int) n=some bb:=dU hb
  have ra:ar h5 ab a 1=some [.int .u64 (t.getD a 0)]:=bq gA (GV om)
  have rb:ar h5 ab bb 1=some [.int .u64 (t.getD bb 0)]:=bq gA (GV om)
  refine aj (aB (by simp only[am,aF,simprocAttr,e1,rx,ry,ia,ib,aO,ra,rb,bin_or64]<;>rfl) ?_)
  refine aj (aj (aB (M1 e2) ?_))
  refine cX (Z0) ?_
  refine aB (M0) ?_
  obtain⟨s1,s2,s3,s4,s5⟩:=Ef (b:=bb) j3 (show a<t.length by omega) om
  have hst:ip t (((a:Nat):Int),((bb:Nat):Int))=(t.set a (kA (t.getD a 0) (t.getD bb 0))).set bb (kA (t.getD a 0) (t.getD bb 0)):=rfl
  have hcl':ClU E P s0 (ip t (((a:Nat):Int),((bb:Nat):Int))):=by
   have:=ClU.step (i:=k) j1 hk2 hP
   rw[eab] at this
   exact this
  generalize hv:kA (t.getD a 0) (t.getD bb 0)=v at *
  refine aj (sV (λts h'=>h5=h'∧Held [(17,.int .i64 (k:Nat)),(16,.int .i64 (E.length:Nat)),(15,ev),(1,.sl ab 0 n n),(2,.bool true),(3,.fn f caps),(4,.ptr h.next 0),(10,.ptr h3.next 0),(11,.int .u64 v),(12,.int .u64 v),(8,.bool (b||!decide (v=t.getD a 0)||!decide (v=t.getD bb 0)))] ts) ?_ ?_)
  ·cases b with
   | true =>
     refine aB (M1 e8) ?_
     exact⟨rfl,by simp only[hl,am,aF,simprocAttr,ei,en,e15,e1,e2,e3,e4,DQ]⟩
   | false =>
     by_cases q1:v=t.getD a 0
     ·have c1:decide (v=t.getD a 0)=true:=aL q1
      refine aB (by simp only[am,aF,simprocAttr,e8,e1,rx,ry,ia,ib,aO,ra,rb,c1]<;>rfl) ?_
      exact⟨rfl,by simp only[hl,am,aF,simprocAttr,ei,en,e15,e1,e2,e3,e4,c1,eA,cr]⟩
     ·have c1:decide (v=t.getD a 0)=false:=aJ q1
      refine aB (by simp only[am,aF,simprocAttr,e8,e1,rx,ry,ia,ib,aO,ra,rb,c1]<;>rfl) ?_
      exact⟨rfl,by simp only[hl,am,aF,simprocAttr,ei,en,e15,e1,e2,e3,e4,c1,eA,bQ,DQ]⟩
  ·clear ei en e15 e1 e2 e3 e4 e8
   rintro ts h' ⟨rfl,ei,en,e15,e1,e2,e3,e4,e10,e11,e12,e8,-⟩
   simp only at ei en e15 e1 e2 e3 e4 e10 e11 e12 e8
   have w6:=gv (v:=.int .u64 v) gA (show a<(t.flatMap uI).length by rw[nO]; omega)
   rw[EG] at w6
   have u6:=LA (o:=.cells ((t.set a v).flatMap uI) 1 false) gA
   have rx6:ar (h5.put ab (.cells ((t.set a v).flatMap uI) 1 false)) h3.next 0 1=some [.int .i64 (a:Nat)]:=by rw[cM (u6.ne om)]; exact rx
   have ry6:ar (h5.put ab (.cells ((t.set a v).flatMap uI) 1 false)) h3.next 1 1=some [.int .i64 (bb:Nat)]:=by rw[cM (u6.ne om)]; exact ry
   generalize h5.put ab (.cells ((t.set a v).flatMap uI) 1 false)=h6 at *
   have w7:=gv (v:=.int .u64 v) u6.get (show bb<((t.set a v).flatMap uI).length by rw[nO,bE]; omega)
   rw[EG] at w7
   have u7:=LA (o:=.cells (((t.set a v).set bb v).flatMap uI) 1 false) u6.get
   refine aB (by simp only[am,aF,simprocAttr,e1,e10,e11,e12,rx,ry,ia,ib,aO,w6,rx6,ry6,w7]<;>rfl) ?_
   generalize h6.put ab (.cells (((t.set a v).set bb v).flatMap uI) 1 false)=h7 at *
   rw[← hst] at u7
   refine⟨(ip t (((a:Nat):Int),((bb:Nat):Int)),b||!decide (v=t.getD a 0)||!decide (v=t.getD bb 0)),⟨hcl',by rw[s1]; exact j2,s2,Int.le_trans j4 s3,λhf=>?_,λht=>?_,(M5.upd u6).upd u7,by rw[u7.ne om,u6.ne om]; exact gB⟩,by simp only[hl,am,aF,simprocAttr,ei,en,e15,e1,e2,e3,e4,e8]⟩
   ·simp only[Bool.or_eq_false_iff,Bool.not_eq_false',aA] at hf
    obtain⟨⟨hf1,hf2⟩,hf3⟩:=hf
    have hs:=s4 hf2 hf3
    obtain⟨q1,q2⟩:=j5 hf1
    refine⟨hs.trans q1,λi hi hik hp=>?_⟩
    by_cases hik':i=k
    ·subst hik'
     rw[eab,← q1]
     exact hs
    ·exact q2 i hi om hp
   ·simp only[bN,da,aV] at ht
    show s.sum<(ip t (((a:Nat):Int),((bb:Nat):Int))).sum
    rcases ht with (ht|ht)|ht
    ·exact Int.lt_of_lt_of_le (j6 ht) s3
    ·exact Int.lt_of_le_of_lt j4 (s5 λq=>ht q.1)
    ·exact Int.lt_of_le_of_lt j4 (s5 λq=>ht q.2)
 ·rintro⟨t,b⟩ ts h3 ⟨j1,j2,j3,j4,j5,j6,j7,j8⟩ ⟨e15,e1,e2,e3,e4,e8,-⟩
  simp only at e15 e1 e2 e3 e4 e8 j1 j2 j3 j4 j5 j6 j7 j8
  have hl1:=hlim hsl hsu
  have hl2:=hlim j2 j3
  refine⟨_,?_,t,b,j1,j2,j3,λhb=>?_,rfl,j7,j8,H5 e1 e2 e3 e4 e8⟩
  ·cases b with
   | false=>simp
   | true =>
     have:=j6 rfl
     simp only[if_true]
     omega
  ·obtain⟨q1,q2⟩:=j5 hb
   intro i hi hp
   rw[q1]
   exact q2 i hi hi hp
open Go.Am
open Go.Blk (RC)
open Go.Spl (RepP nParts cw rc_trans rc_lt rep_ex rc_w)
theorem DL {a b:Nat} (ha:a<2 ^ 64) (hb:b<2 ^ 64):BK (a:Nat) (b:Nat)=((a &&& b:Nat):Int):=by
 have h:a &&& b<2 ^ 64:=Nat.and_lt_two_pow _ hb
 unfold BK
 have e:(BitVec.ofInt 64 ((a:Nat):Int) &&& BitVec.ofInt 64 ((b:Nat):Int)).toNat=a &&& b:=by
  rw[BitVec.toNat_and,BitVec.ofInt_natCast,BitVec.ofInt_natCast,BitVec.toNat_ofNat,BitVec.toNat_ofNat,bR ha,bR hb]
 rw[e]
 exact IntWalk.u64_in _ ⟨om,om⟩
theorem Ej {a x:Nat} (hx:x<64):qV ((a:Nat):Int) ((x:Nat):Int)=((a / 2 ^ x:Nat):Int):=by
 unfold qV
 have h1:min ((x:Nat):Int).toNat IntKind.u64.bits=x:=by
  have:IntKind.u64.bits=64:=rfl
  rw[this,cB]
  omega
 rw[h1,Int.fdiv_eq_ediv_of_nonneg _ (Int.le_of_lt (Int.pow_pos (by decide)))]
 simp
theorem Ep {x:Nat} (hx:x<64):tP 1 ((x:Nat):Int)=((2 ^ x:Nat):Int):=by
 unfold tP
 have h1:min ((x:Nat):Int).toNat IntKind.u64.bits=x:=by
  have:IntKind.u64.bits=64:=rfl
  rw[this,cB]
  omega
 have h2:(2:Nat) ^ x<2 ^ 64:=wM om hx
 have h3:(1:Int)*2 ^ x=((2 ^ x:Nat):Int):=by simp
 rw[h1,h3]
 have h4:=Ka x
 generalize (2:Nat) ^ x=z at *
 exact IntWalk.u64_in _ ⟨om,om⟩
theorem qH {s x:Nat} (hs:s<2 ^ 64):iK ((s:Nat):Int) ((x:Nat):Int)=(decide (x<64)&&s.testBit x):=by
 unfold iK
 rw[aL (by omega:(0:Int)≤((x:Nat):Int)),fD]
 by_cases hx:x<64
 ·rw[aL hx,aL (by omega:((x:Nat):Int)<64),fD,fD,Ej hx]
  have h1:s / 2 ^ x<2 ^ 64:=Nat.lt_of_le_of_lt (Nat.div_le_self ..) hs
  have:=DL (a:=s / 2 ^ x) (b:=1) h1 om
  rw[show ((1:Nat):Int)=1 from rfl] at this
  rw[this,Nat.and_one_is_mod,Nat.testBit_eq_decide_div_mod_eq]
  congr 1
  simp only[eq_iff_iff]
  omega
 ·rw[aJ hx,aJ (by omega:¬ ((x:Nat):Int)<64)]
  rfl
theorem zI {a b:Int} (ha:inU a) (hb:inU b) (y:Nat):iK (kA a b) ((y:Nat):Int)=(iK a ((y:Nat):Int)||iK b ((y:Nat):Int)):=by
 obtain⟨a1,a2⟩:=ha
 obtain⟨b1,b2⟩:=hb
 obtain⟨x,rfl⟩:=fJ a1
 obtain⟨z,rfl⟩:=fJ b1
 have hx:x<2 ^ 64:=om
 have hz:z<2 ^ 64:=om
 rw[rR hx hz,qH hx,qH hz,qH (DM hx hz),Nat.testBit_or]
 cases decide (y<64)<;>simp
theorem KN {x:Nat} (hx:x<64):ofU ((x:Nat):Int)=((2 ^ x:Nat):Int):=by
 have h2:(2:Nat) ^ x<2 ^ 64:=wM om hx
 unfold ofU
 rw[if_pos om,Ep hx]
 have:=rR (a:=0) (b:=2 ^ x) om h2
 rw[show ((0:Nat):Int)=0 from rfl,Nat.zero_or] at this
 exact this
theorem has_of {x y:Nat} (hx:x<64):iK (ofU ((x:Nat):Int)) ((y:Nat):Int)=decide (y=x):=by
 have h2:(2:Nat) ^ x<2 ^ 64:=wM om hx
 rw[KN hx,qH h2,Nat.testBit_two_pow,cW]
 simp only[aM,aA]
 omega
theorem uv {l:List Int}{a b:Nat}{v:Int} (ha:a<l.length):(l.set a v).getD b 0=if b=a then v else l.getD b 0:=by
 rw[ai,ai,cZ]
 by_cases e:a=b
 ·subst e; simp [ha]
 ·rw[if_neg e,if_neg λq=>e q.symm]
theorem pL {n x:Nat} (hx:x<n):(sS n).getD x 0=ofU ((x:Nat):Int):=by
 unfold sS
 rw[ai,aG,fk hx]
 rfl
theorem my {E:List (Int×Int)}{n i:Nat}{s:List Int} (hE:InG n E) (hi:i<E.length) (hs:s.length=n) (x:Nat) :
 (ip s E[i]).getD x 0=if x=tlE E i∨x=hdE E i then kA (s.getD (tlE E i) 0) (s.getD (hdE E i) 0) else s.getD x 0:=by
 obtain⟨q1,q2,q3⟩:=hE i hi
 rw[q1]
 unfold ip
 simp only[cB]
 rw[uv (by rw[bE]; omega),uv om]
 by_cases e1:x=hdE E i
 ·rw[if_pos e1,if_pos (.inr e1)]
 ·rw[if_neg e1]
  by_cases e2:x=tlE E i
  ·rw[if_pos e2,if_pos (.inl e2)]
  ·rw[if_neg e2,if_neg (by simp [e1,e2])]
theorem uW {E:List (Int×Int)}{n:Nat}{P:Nat→Bool} (hE:InG n E) (hn:n≤64) {s:List Int} (h:ClU E P (sS n) s) :
 s.length=n∧(∀ x,x<n→inU (s.getD x 0))∧(∀ x,x<n→iK (s.getD x 0) ((x:Nat):Int)=true)∧∀ x y:Nat,x<n→iK (s.getD x 0) ((y:Nat):Int)=true→RC E.length (tlE E) (hdE E) P x y:=by
 induction h with
 | base =>
   refine⟨by simp [sS],λx hx=>by rw[pL hx]; exact AY _,λx hx=>?_,λx y hx hy=>?_⟩
   ·rw[pL hx,has_of om]; simp
   ·rw[pL hx,has_of om,aA] at hy
    subst hy
    exact .refl
 | @step s i h hi hp ih =>
   obtain⟨h1,h2,h3,h4⟩:=ih
   obtain⟨q1,q2,q3⟩:=hE i hi
   refine⟨by unfold ip; simp [h1],λx hx=>?_,λx hx=>?_,λx y hx hy=>?_⟩
   ·rw[my hE hi h1]
    split
    ·exact (qB (h2 _ q2) (h2 _ q3)).2.2
    ·exact h2 x hx
   ·rw[my hE hi h1]
    split
    ·rename_i e
     rw[zI (h2 _ q2) (h2 _ q3)]
     rcases e with e|e
     ·rw[← e,h3 x hx]; rfl
     ·rw[← e,h3 x hx]; simp
    ·exact h3 x hx
   ·rw[my hE hi h1] at hy
    split at hy
    ·rename_i e
     rw[zI (h2 _ q2) (h2 _ q3),bN] at hy
     rcases e with rfl|rfl
     ·rcases hy with hy|hy
      ·exact h4 _ _ hx hy
      ·exact rc_trans (.one .refl hi hp rfl) (h4 _ _ q3 hy)
     ·rcases hy with hy|hy
      ·exact rc_trans (.two .refl hi hp rfl) (h4 _ _ q2 hy)
      ·exact h4 _ _ hx hy
    ·exact h4 _ _ hx hy
theorem Jv {E:List (Int×Int)}{n:Nat}{P:Nat→Bool} (hE:InG n E) (hn:n≤64) {s:List Int} (h:ClU E P (sS n) s) (hf:∀ i (hi:i<E.length),P i=true→ip s E[i]=s) (x y:Nat) (hx:x<n) :
 iK (s.getD x 0) ((y:Nat):Int)=true↔RC E.length (tlE E) (hdE E) P x y:=by
 obtain⟨h1,h2,h3,h4⟩:=uW hE hn h
 refine⟨h4 x y hx,λhr=>?_⟩
 have hst:∀ i,i<E.length→P i=true→s.getD (tlE E i) 0=s.getD (hdE E i) 0:=λi hi hp=>by
  have e1:=my hE hi h1 (tlE E i)
  have e2:=my hE hi h1 (hdE E i)
  rw[hf i hi hp,if_pos (.inl rfl)] at e1
  rw[hf i hi hp,if_pos (.inr rfl)] at e2
  exact e1.trans e2.symm
 have:s.getD x 0=s.getD y 0:=by
  clear h4
  induction hr with
  | refl=>rfl
  | one _ a b e ih=>rw[ih,← hst _ a b,e]
  | two _ a b e ih=>rw[ih,hst _ a b,e]
 rw[this]
 exact h3 y (rc_lt (λi hi=>(hE i hi).2) hr hx)
theorem rM {E:List (Int×Int)}{n:Nat}{w:Nat→Bool}{Wz:Int} (hE:InG n E) (hn:n≤64) (hW:inU Wz) (hw:∀ y:Nat,y<n→iK Wz ((y:Nat):Int)=w y) {s:List Int} (h:ClU E (cw (tlE E) (hdE E) w) (sS n) s)
 (hf:∀ i (hi:i<E.length),cw (tlE E) (hdE E) w i=true→ip s E[i]=s):∀ k,k≤n →
 ((List.range k).foldl (kz s) ([],Wz)).1.length=nParts k E.length (tlE E) (hdE E) w∧inU ((List.range k).foldl (kz s) ([],Wz)).2 ∧
   ∀ z,z<n→(iK ((List.range k).foldl (kz s) ([],Wz)).2 ((z:Nat):Int)=true↔(w z=true∨∃ x,x<k∧RepP E.length (tlE E) (hdE E) w x∧RC E.length (tlE E) (hdE E) (cw (tlE E) (hdE E) w) x z))
 | 0,_=>⟨rfl,hW,λz hz=>by
   show iK Wz _=true↔_
   rw[hw z hz]
   exact⟨.inl,λq=>q.elim id λ⟨x,hx,_⟩=>absurd hx (eP _)⟩⟩
 | k+1,hk=>by
   obtain⟨i1,i2,i3⟩:=rM hE hn hW hw h hf k om
   obtain⟨h1,h2,h3,h4⟩:=uW hE hn h
   have hi:=Jv hE hn h hf
   have hcnt:∀ (b:Prop),(RepP E.length (tlE E) (hdE E) w k↔b)→nParts (k+1) E.length (tlE E) (hdE E) w=nParts k E.length (tlE E) (hdE E) w+@ite _ b (Classical.propDecidable _) 1 0:=λb hb=>by
    unfold nParts
    rw[bD,oA]
    congr 1
    rw[cU,tk]
    by_cases q:b
    ·rw[if_pos q,if_pos (by simpa using hb.2 q)]
    ·rw[if_neg q,if_neg (by simpa using λr=>q (hb.1 r))]
   rw[bD,cS]
   generalize (List.range k).foldl (kz s) ([],Wz)=a at *
   simp only[dP,ou,kz]
   cases q:iK a.2 ((k:Nat):Int) with
   | true =>
     rw[if_pos rfl]
     have hnr:¬ RepP E.length (tlE E) (hdE E) w k:=λhr=>by
      rcases (i3 k om).1 q with e|⟨x,hx,_,hc⟩
      ·rw[hr.1] at e; cases e
      ·exact hr.2 x hx hc
     refine⟨by rw[hcnt False ⟨λr=>hnr r,False.elim⟩,if_neg id,i1]; rfl,i2,λz hz=>(i3 z hz).trans ⟨λe=>e.imp id λ⟨x,hx,r⟩=>⟨x,om,r⟩,λe=>e.imp id λ⟨x,hx,r⟩=>⟨x,?_,r⟩⟩⟩
     by_cases e:x=k
     ·subst e; exact absurd r.1 hnr
     ·omega
   | false =>
     rw[if_neg (by simp)]
     have hno:¬ (w k=true∨∃ x,x<k∧RepP E.length (tlE E) (hdE E) w x∧RC E.length (tlE E) (hdE E) (cw (tlE E) (hdE E) w) x k):=λe=>by
      have:=(i3 k om).2 e
      rw[q] at this
      cases this
     have wk:w k=false:=by
      cases e:w k with
      | false=>rfl
      | true=>exact absurd (.inl e) hno
     have hr:RepP E.length (tlE E) (hdE E) w k:=by
      obtain⟨x,x1,x2,x3⟩:=rep_ex (m:=E.length) (tl:=tlE E) (hd:=hdE E) k wk
      by_cases e:x=k
      ·subst e; exact x2
      ·exact absurd (.inr ⟨x,om,x2,x3⟩) hno
     refine⟨by rw[hcnt True ⟨λ_=>trivial,λ_=>hr⟩,if_pos trivial,aI,i1]; rfl,(qB i2 (h2 k om)).2.2,λz hz=>?_⟩
     rw[zI i2 (h2 k om),bN,i3 z hz,hi k z om]
     constructor
     ·rintro ((e|⟨x,hx,r⟩)|e)
      ·exact .inl e
      ·exact .inr ⟨x,om,r⟩
      ·exact .inr ⟨k,om,hr,e⟩
     ·rintro (e|⟨x,hx,r⟩)
      ·exact .inl (.inl e)
      ·by_cases e:x=k
       ·subst e; exact .inr r.2
       ·exact .inl (.inr ⟨x,om,r⟩)
theorem vJ {h:AH}{wb gb n i:Nat}{Wz:Int}{ev:AV}{E:List (Int×Int)} (hw:h.get wb=some (.cells [.int .u64 Wz] 1 false)) (hg:h.get gb=some (.cells [.int .i64 (n:Nat),ev] 2 false)) (he:SlE h ev E) (hE:InG n E) (hi:i<E.length) :
 C prg 37 ([.int .i64 (i:Nat)]++[.ptr wb 0,.ptr gb 0]) h λr h'=>r=.bool (!(iK Wz ((tlE E i:Nat):Int))&&!(iK Wz ((hdE E i:Nat):Int)))∧Ext h.next h h':=by
 refine LB pf37 ?_
 obtain⟨q1,q2,q3⟩:=hE i hi
 have rw0:ar h wb 0 1=some [.int .u64 Wz]:=bq hw rfl
 have rE:ar h gb 1 1=some [ev]:=bq hg rfl
 obtain⟨qb,qp,a1,_,r1,_⟩:=he.at (fE (f:=eE) hi)
 rw[q1] at r1
 have r0:=r1 0 (.int .i64 (tlE E i:Nat)) rfl
 have r1:=r1 1 (.int .i64 (hdE E i:Nat)) rfl
 rw[dh] at r0
 refine aj (aB (Mi0) ?_)
 refine aj (bO (bt 7 (Mi4 rw0 rE a1 r0) rfl (Zi4 rw0 rE a1 r0) (Mi4 rw0 rE a1 r0) (rG) λr h1 hq=>?_))
 obtain⟨rfl,rfl⟩:=hq
 cases c1:iK Wz ((tlE E i:Nat):Int) with
 | true =>
   refine jZ 9 (Mi3 rw0 rE a1) rfl (Z0) ?_
   refine bI (M0) ?_
   exact bG ⟨.bool false,(by simp only[rs,rf37,am,aF,simprocAttr]<;>rfl),rfl,Lz⟩
 | false =>
 refine bt 9 (Mi4 rw0 rE a1 r1) rfl (Zi4 rw0 rE a1 r1) (Mi4 rw0 rE a1 r1) (rG) λr h2 hq=>?_
 obtain⟨rfl,rfl⟩:=hq
 refine bI (M0) ?_
 exact bG ⟨.bool (!(iK Wz ((hdE E i:Nat):Int))),(by simp only[rs,rf37,am,aF,simprocAttr]<;>rfl),rfl,Lz⟩
theorem ing_ofX {n:Nat}{E:List (Int×Int)} (hm:gG (n:Nat) E=true):InG n E:=λi hi=>by
 obtain⟨m1,m2,m3,m4⟩:=jQ hm
 obtain⟨a,b,e,ha,hb⟩:=vO (cj.1 m4 _ (aR hi))
 have:E.getD i (0,0)=E[i]:=by rw[ai,ah hi]; rfl
 unfold tlE hdE
 rw[this,e]
 exact⟨rfl,ha,hb⟩
set_option maxHeartbeats 1000000 in
theorem xz {h:AH}{n:Nat}{ev:AV}{E:List (Int×Int)}{w:Nat→Bool}{Wz:Int} (he:SlE h ev E) (hm:gG (n:Nat) E=true) (hW:inU Wz) (hw:∀ y:Nat,y<n→iK Wz ((y:Nat):Int)=w y) :
 C prg 19 [.agg [.int .i64 (n:Nat),ev],.int .u64 Wz] h λr h'=>jS r=some (.int .i64 (nParts n E.length (tlE E) (hdE E) w:Nat))∧Ext h.next h h':=by
 obtain⟨ec,eo⟩:=he.cells
 have hE:=ing_ofX hm
 obtain⟨m1,m2,m3,m4⟩:=jQ hm
 refine LB pf19 ?_
 refine aj (aB (Mi0) ?_)
 have x0:Ext h.next h ((h.new (.cells [.int .i64 (n:Nat),ev] 2 false)).new (.cells [.int .u64 Wz] 1 false)):=(Ly (ae _)).trans (Ly (by simp))
 have g0:((h.new (.cells [.int .i64 (n:Nat),ev] 2 false)).new (.cells [.int .u64 Wz] 1 false)).get h.next=some (.cells [.int .i64 (n:Nat),ev] 2 false):=by rw[AH.get_new,if_neg (by simp),AH.get_new,if_pos rfl]
 have w0:((h.new (.cells [.int .i64 (n:Nat),ev] 2 false)).new (.cells [.int .u64 Wz] 1 false)).get (h.next+1)=some (.cells [.int .u64 Wz] 1 false):=by rw[AH.get_new]; exact if_pos rfl
 have n0:((h.new (.cells [.int .i64 (n:Nat),ev] 2 false)).new (.cells [.int .u64 Wz] 1 false)).next=h.next+2:=rfl
 generalize ((h.new (.cells [.int .i64 (n:Nat),ev] 2 false)).new (.cells [.int .u64 Wz] 1 false))=h1 at *
 have rA:ar h1 h.next 0 2=some [.int .i64 (n:Nat),ev]:=by rw[bg g0]; rfl
 refine aj (bO (bt 1 (Mi1 rA) rfl (Zi1 rA) (Mi1 rA) (Cw (n:=n) (he.ext x0 (ae _)) hm) λr h2 hq=>?_))
 obtain⟨i2,x2⟩:=hq
 refine bI (M0) ?_
 have n2:=x2.nx
 rcases i2 with ⟨_,hz⟩|⟨ab,nn,hab,rfl,ga,hal⟩
 ·exfalso
  have:=congrArg List.length hz
  rw[nO] at this
  simp [sS] at this
  omega
 have hnn:nn=n:=by rw[nO] at hal; simp [sS] at hal; omega
 subst hnn
 have c0:decide (((nn:Nat):Int)=0)=false:=aJ om
 refine aj (aj (aB (M1 c0) ?_))
 refine dL (Z0) (bK ?_)
 have X2:Ext h.next h h2:=x0.trans (x2.mono om)
 have g2:h2.get h.next=some (.cells [.int .i64 (nn:Nat),ev] 2 false):=by rw[x2.gt _ om]; exact g0
 have w2:h2.get (h.next+1)=some (.cells [.int .u64 Wz] 1 false):=by rw[x2.gt _ om]; exact w0
 have rA2:ar h2 h.next 0 2=some [.int .i64 (nn:Nat),ev]:=by rw[bg g2]; rfl
 have he2:=he.ext X2 (ae _)
 have hu:∀ z∈sS nn,inU z:=λz hz=>by
  obtain⟨x,_,rfl⟩:=bu.1 hz
  exact AY _
 have hoff:∀ b o m c,ev=.sl b o m c→b≠ab:=λb o m c e=>by have:=he.lt e; omega
 have hgr:=zh (n:=nn) (f:=37) (P:=cw (tlE E) (hdE E) w) (caps:=[.ptr (h.next+1) 0,.ptr h.next 0]) he2 hm hoff ga (by simp [sS]) hu λh' q1 q2 i hi =>
  (vJ (n:=nn) (Wz:=Wz) (by rw[q2 _ om om]; exact w2) (by rw[q2 _ om om]; exact g2) (he2.cong λb o m c e=>q2 b (he2.lt e) (hoff b o m c e)) hE hi).mono λr h'' ⟨a,b⟩=>⟨by rw[a,hw _ (hE i hi).2.1,hw _ (hE i hi).2.2]; rfl,b⟩
 refine aj (bO (bt 3 (Mi1 rA2) rfl (Zi1 rA2) (Mi1 rA2) (hgr) λr h3 hq=>?_))
 obtain⟨s,hcl,hfix,hsl,hsu,M3⟩:=hq
 refine bI (M0) ?_
 have hpf:=rM hE m2 hW hw hcl hfix
 have w3:h3.get (h.next+1)=some (.cells [.int .u64 Wz] 1 false):=by rw[M3.gt _ om om]; exact w2
 have rw3:ar h3 (h.next+1) 0 1=some [.int .u64 Wz]:=bq w3 rfl
 have X3:Ext h.next h h3:=X2.trans ((M3.mono (m:=ab) (by have:=AH.lt_of_get ga; omega)).toExt (ae _) |>.mono om)
 refine aj (aB (Mi1 rw3) ?_)
 refine aj (aj (aB (M0) ?_))
 refine fB (α:=AV×List Int×Int) (N:=nn) (λ_ a=>[(19,.sl ab 0 nn nn),(4,a.1),(6,.int .u64 a.2.2)])
  (λk a h'=>a.2=(List.range k).foldl (kz s) ([],Wz)∧IsSl h' 1 (ab+1) a.1 (a.2.1.flatMap uI)∧h'.get ab=some (.cells (s.flatMap uI) 1 false)∧Ext h.next h h') (.nils,[],Wz) (λ_ _=>rfl) om (Hi0) ⟨rfl,.inl ⟨rfl,rfl⟩,M3.get,X3⟩ ?_ ?_
 ·rintro k ⟨a,out,dn⟩ ts h4 hk ⟨j1,j2,j3,j4⟩ ⟨ei,en,e19,e4,e6,-⟩
  simp only at ei en e19 e4 e6 j1 j2 j3 j4
  have ik:fU ((k:Nat):Int) nn=some k:=dU hk
  have rk:ar h4 ab k 1=some [.int .u64 (s.getD k 0)]:=bq j3 (GV om)
  refine aj (aB (M5 e19 ei ik @aO rk) ?_)
  refine aj (bO (bt 2 (M1 e6) rfl (Z1 e6) (M1 e6) (rG) λr h5 hq=>?_))
  obtain⟨rfl,rfl⟩:=hq
  refine bI (M0) ?_
  have hsucc:(List.range (k+1)).foldl (kz s) ([],Wz)=kz s (out,dn) k:=by
   rw[bD,cS,← j1]
   rfl
  have hol:out.length≤k:=by
   have:=(hpf k om).1
   rw[← j1] at this
   have h2:nParts k E.length (tlE E) (hdE E) w≤k:=by
    unfold nParts
    refine cN fY ?_
    rw[bF]
    exact ae _
   exact this▸h2
  refine jq (t:=!iK dn ((k:Nat):Int)) (Z0) (λq=>?_) λq=>?_
  ·have q:iK dn ((k:Nat):Int)=false:=by simpa using q
   have hab4:=AH.lt_of_get j3
   obtain⟨s',h6,a1,i1,x1,n1⟩:=j2.push (bytes:=8) (uI (s.getD k 0)) om om rfl rfl (by rw[nO]; unfold be; omega) (by rw[nO]; unfold be; omega)
   rw[show uI (s.getD k 0)=[.int .u64 (s.getD k 0)] from rfl] at a1 i1
   refine aj (aB (M2 e4 a1) ?_)
   refine aB (M2 e6 @bin_or64) ?_
   refine⟨(s',out++[s.getD k 0],kA dn (s.getD k 0)),⟨?_,?_,by rw[x1.gt _ om]; exact j3,j4.trans (x1.mono om)⟩,by simp only[hl,am,aF,simprocAttr,ei,en,e19,e4,e6]⟩
   ·rw[hsucc,kz,if_neg (by simp [q])]
   ·rw[eH]
    exact i1
  ·have q:iK dn ((k:Nat):Int)=true:=by simpa using q
   refine bK ⟨(a,out,dn),⟨?_,j2,j3,j4⟩,by simp only[hl,am,aF,simprocAttr,ei,en,e19,e4,e6]⟩
   rw[hsucc,kz,if_pos q]
 ·rintro⟨a,out,dn⟩ ts h4 ⟨j1,j2,j3,j4⟩ ⟨e19,e4,e6,-⟩
  simp only at e19 e4 e6 j1 j2 j3 j4
  refine aj (aB (M1 e4) ?_)
  refine bG ⟨a,(by simp only[rs,rf19,am,aF,simprocAttr,j2.cells.1]<;>rfl),?_,j4⟩
  have e:=(hpf nn (ae _)).1
  rw[← j1] at e
  have hl:=(j2.sl (f:=uI) Nat.one_pos (λ_=>rfl)).len
  rw[ak] at hl
  rw[hl,← e]
end Go.Proofs.YtpeemonpdlifbaaGreat
