/- reach -/
import Derived.Test.YthbmhbldmcbnpaaGreatDoorYTAI
import Derived.Test.YthbmhbldmcbnpaaGreatDoorYTAG
import Derived.Test.YthbmhbldmcbnpaaGreatDoorYTAD
import Derived.Test.YthbmhbldmcbnpaaGreatDoorYTAC
set_option linter.all false
namespace Go.Proofs.YthbmhbldmcbnpaaGreatDoor
open Go.Am
open Go.Blk (RC)
open Go.Spl (RepP nParts cw rc_trans rc_symm rc_lt rep_ex rc_w)
theorem uZ {a b:Nat} (ha:a<2 ^ 64) (hb:b<2 ^ 64):vd (a:Nat) (b:Nat)=((a &&& b:Nat):Int):=by
 have h:a &&& b<2 ^ 64:=Nat.and_lt_two_pow _ hb
 unfold vd
 have e:(BitVec.ofInt 64 ((a:Nat):Int) &&& BitVec.ofInt 64 ((b:Nat):Int)).toNat=a &&& b:=by
  rw[BitVec.toNat_and,BitVec.ofInt_natCast,BitVec.ofInt_natCast,BitVec.toNat_ofNat,BitVec.toNat_ofNat,lH ha,lH hb]
 rw[e]
 exact IntWalk.u64_in _ ⟨om,om⟩
theorem DQ {a x:Nat} (hx:x<64):qR ((a:Nat):Int) ((x:Nat):Int)=((a / 2 ^ x:Nat):Int):=by
 unfold qR
 have h1:min ((x:Nat):Int).toNat IntKind.u64.bits=x:=by
  have:IntKind.u64.bits=64:=rfl
  rw[this,eC]
  omega
 rw[h1,Int.fdiv_eq_ediv_of_nonneg _ (Int.le_of_lt (Int.pow_pos (by decide)))]
 simp
theorem qY {x:Nat} (hx:x<64):lX 1 ((x:Nat):Int)=((2 ^ x:Nat):Int):=by
 unfold lX
 have h1:min ((x:Nat):Int).toNat IntKind.u64.bits=x:=by
  have:IntKind.u64.bits=64:=rfl
  rw[this,eC]
  omega
 have h2:(2:Nat) ^ x<2 ^ 64:=ij om hx
 have h3:(1:Int)*2 ^ x=((2 ^ x:Nat):Int):=by simp
 rw[h1,h3]
 have h4:=Nat.two_pow_pos x
 generalize (2:Nat) ^ x=z at *
 exact IntWalk.u64_in _ ⟨om,om⟩
theorem mP {s x:Nat} (hs:s<2 ^ 64):fG ((s:Nat):Int) ((x:Nat):Int)=(decide (x<64)&&s.testBit x):=by
 unfold fG
 rw[aq (by omega:(0:Int)≤((x:Nat):Int)),fK]
 by_cases hx:x<64
 ·rw[aq hx,aq (by omega:((x:Nat):Int)<64),fK,fK,DQ hx]
  have h1:s / 2 ^ x<2 ^ 64:=Nat.lt_of_le_of_lt (Nat.div_le_self ..) hs
  have:=uZ (a:=s / 2 ^ x) (b:=1) h1 om
  rw[show ((1:Nat):Int)=1 from rfl] at this
  rw[this,Nat.and_one_is_mod,Nat.testBit_eq_decide_div_mod_eq]
  congr 1
  simp only[eq_iff_iff]
  omega
 ·rw[ai hx,ai (by omega:¬ ((x:Nat):Int)<64)]
  rfl
theorem si {a b:Int} (ha:inU a) (hb:inU b) (y:Nat):fG (fY a b) ((y:Nat):Int)=(fG a ((y:Nat):Int)||fG b ((y:Nat):Int)):=by
 obtain⟨a1,a2⟩:=ha
 obtain⟨b1,b2⟩:=hb
 obtain⟨x,rfl⟩:=cS a1
 obtain⟨z,rfl⟩:=cS b1
 have hx:x<2 ^ 64:=om
 have hz:z<2 ^ 64:=om
 rw[rF hx hz,mP hx,mP hz,mP (Dz hx hz),Nat.testBit_or]
 cases decide (y<64)<;>simp
theorem NA {x:Nat} (hx:x<64):ofU ((x:Nat):Int)=((2 ^ x:Nat):Int):=by
 have h2:(2:Nat) ^ x<2 ^ 64:=ij om hx
 unfold ofU
 rw[if_pos om,qY hx]
 have:=rF (a:=0) (b:=2 ^ x) om h2
 rw[show ((0:Nat):Int)=0 from rfl,Nat.zero_or] at this
 exact this
theorem has_of {x y:Nat} (hx:x<64):fG (ofU ((x:Nat):Int)) ((y:Nat):Int)=decide (y=x):=by
 have h2:(2:Nat) ^ x<2 ^ 64:=ij om hx
 rw[NA hx,mP h2,mS,cW]
 simp only[aH,az]
 omega
theorem uC {l:List Int}{a b:Nat}{v:Int} (ha:a<l.length):(l.set a v).getD b 0=if b=a then v else l.getD b 0:=by
 rw[aF,aF,cn]
 by_cases e:a=b
 ·subst e; simp [ha]
 ·rw[if_neg e,if_neg λq=>e q.symm]
theorem pL {n x:Nat} (hx:x<n):(sT n).getD x 0=ofU ((x:Nat):Int):=by
 unfold sT
 rw[aF,aE,cu hx]
 rfl
theorem lV {E:List (Int×Int)}{n i:Nat}{s:List Int} (hE:InG n E) (hi:i<E.length) (hs:s.length=n) (x:Nat) :
 (gw s E[i]).getD x 0=if x=tlE E i∨x=hdE E i then fY (s.getD (tlE E i) 0) (s.getD (hdE E i) 0) else s.getD x 0:=by
 obtain⟨q1,q2,q3⟩:=hE i hi
 rw[q1]
 unfold gw
 simp only[eC]
 rw[uC (by rw[dc]; omega),uC om]
 by_cases e1:x=hdE E i
 ·rw[if_pos e1,if_pos (.inr e1)]
 ·rw[if_neg e1]
  by_cases e2:x=tlE E i
  ·rw[if_pos e2,if_pos (.inl e2)]
  ·rw[if_neg e2,if_neg (by simp [e1,e2])]
theorem uP {E:List (Int×Int)}{n:Nat}{P:Nat→Bool} (hE:InG n E) (hn:n≤64) {s:List Int} (h:ClU E P (sT n) s) :
 s.length=n∧(∀ x,x<n→inU (s.getD x 0))∧(∀ x,x<n→fG (s.getD x 0) ((x:Nat):Int)=true)∧∀ x y:Nat,x<n→fG (s.getD x 0) ((y:Nat):Int)=true→RC E.length (tlE E) (hdE E) P x y:=by
 induction h with
 | base =>
   refine⟨by simp [sT],λx hx=>by rw[pL hx]; exact AL _,λx hx=>?_,λx y hx hy=>?_⟩
   ·rw[pL hx,has_of om]; simp
   ·rw[pL hx,has_of om,az] at hy
    subst hy
    exact .refl
 | @step s i h hi hp ih =>
   obtain⟨h1,h2,h3,h4⟩:=ih
   obtain⟨q1,q2,q3⟩:=hE i hi
   refine⟨by unfold gw; simp [h1],λx hx=>?_,λx hx=>?_,λx y hx hy=>?_⟩
   ·rw[lV hE hi h1]
    split
    ·exact (lf (h2 _ q2) (h2 _ q3)).2.2
    ·exact h2 x hx
   ·rw[lV hE hi h1]
    split
    ·rename_i e
     rw[si (h2 _ q2) (h2 _ q3)]
     rcases e with e|e
     ·rw[← e,h3 x hx]; rfl
     ·rw[← e,h3 x hx]; simp
    ·exact h3 x hx
   ·rw[lV hE hi h1] at hy
    split at hy
    ·rename_i e
     rw[si (h2 _ q2) (h2 _ q3),bV] at hy
     rcases e with rfl|rfl
     ·rcases hy with hy|hy
      ·exact h4 _ _ hx hy
      ·exact rc_trans (.one .refl hi hp rfl) (h4 _ _ q3 hy)
     ·rcases hy with hy|hy
      ·exact rc_trans (.two .refl hi hp rfl) (h4 _ _ q2 hy)
      ·exact h4 _ _ hx hy
    ·exact h4 _ _ hx hy
theorem JG {E:List (Int×Int)}{n:Nat}{P:Nat→Bool} (hE:InG n E) (hn:n≤64) {s:List Int} (h:ClU E P (sT n) s) (hf:∀ i (hi:i<E.length),P i=true→gw s E[i]=s) (x y:Nat) (hx:x<n) :
 fG (s.getD x 0) ((y:Nat):Int)=true↔RC E.length (tlE E) (hdE E) P x y:=by
 obtain⟨h1,h2,h3,h4⟩:=uP hE hn h
 refine⟨h4 x y hx,λhr=>?_⟩
 have hst:∀ i,i<E.length→P i=true→s.getD (tlE E i) 0=s.getD (hdE E i) 0:=λi hi hp=>by
  have e1:=lV hE hi h1 (tlE E i)
  have e2:=lV hE hi h1 (hdE E i)
  rw[hf i hi hp,if_pos (.inl rfl)] at e1
  rw[hf i hi hp,if_pos (.inr rfl)] at e2
  exact e1.trans e2.symm
 have:s.getD x 0=s.getD y 0:=by
  clear h4
  induction hr with
  | refl=>rfl
  | one _ a b e ih=>rw[ih,← hst _ a b,e]
  | two _ a b e ih=>rw[ih,hst _ a b,e]
 rw[this]
 exact h3 y (rc_lt (λi hi=>(hE i hi).2) hr hx)
theorem rC {E:List (Int×Int)}{n:Nat}{w:Nat→Bool}{Wz:Int} (hE:InG n E) (hn:n≤64) (hW:inU Wz) (hw:∀ y:Nat,y<n→fG Wz ((y:Nat):Int)=w y) {s:List Int} (h:ClU E (cw (tlE E) (hdE E) w) (sT n) s)
 (hf:∀ i (hi:i<E.length),cw (tlE E) (hdE E) w i=true→gw s E[i]=s):∀ k,k≤n →
 ((List.range k).foldl (jZ s) ([],Wz)).1.length=nParts k E.length (tlE E) (hdE E) w∧inU ((List.range k).foldl (jZ s) ([],Wz)).2 ∧
   ∀ z,z<n→(fG ((List.range k).foldl (jZ s) ([],Wz)).2 ((z:Nat):Int)=true↔(w z=true∨∃ x,x<k∧RepP E.length (tlE E) (hdE E) w x∧RC E.length (tlE E) (hdE E) (cw (tlE E) (hdE E) w) x z))
 | 0,_=>⟨rfl,hW,λz hz=>by
   show fG Wz _=true↔_
   rw[hw z hz]
   exact⟨.inl,λq=>q.elim id λ⟨x,hx,_⟩=>absurd hx (bm _)⟩⟩
 | k+1,hk=>by
   obtain⟨i1,i2,i3⟩:=rC hE hn hW hw h hf k om
   obtain⟨h1,h2,h3,h4⟩:=uP hE hn h
   have hi:=JG hE hn h hf
   have hcnt:∀ (b:Prop),(RepP E.length (tlE E) (hdE E) w k↔b)→nParts (k+1) E.length (tlE E) (hdE E) w=nParts k E.length (tlE E) (hdE E) w+@ite _ b (Classical.propDecidable _) 1 0:=λb hb=>by
    unfold nParts
    rw[bT,dW]
    congr 1
    rw[df,jh]
    by_cases q:b
    ·rw[if_pos q,if_pos (by simpa using hb.2 q)]
    ·rw[if_neg q,if_neg (by simpa using λr=>q (hb.1 r))]
   rw[bT,dv]
   generalize (List.range k).foldl (jZ s) ([],Wz)=a at *
   simp only[dB,List.foldl_nil,jZ]
   cases q:fG a.2 ((k:Nat):Int) with
   | true =>
     rw[if_pos rfl]
     have hnr:¬ RepP E.length (tlE E) (hdE E) w k:=λhr=>by
      rcases (i3 k om).1 q with e|⟨x,hx,_,hc⟩
      ·rw[hr.1] at e; cases e
      ·exact hr.2 x hx hc
     refine⟨by rw[hcnt False ⟨λr=>hnr r,False.elim⟩,if_neg id,i1]; rfl,i2,λz hz=>(i3 z hz).trans ⟨λe=>e.imp id λ⟨x,hx,r⟩=>⟨x,om,r⟩,λe=>e.imp id λ⟨x,hx,r⟩=>⟨x,?_,r⟩⟩⟩
     by_cases e:x=k
     ·subst e; exact absurd r.1 hnr
     ·omega
   | false =>
     rw[if_neg (by simp)]
     have hno:¬ (w k=true∨∃ x,x<k∧RepP E.length (tlE E) (hdE E) w x∧RC E.length (tlE E) (hdE E) (cw (tlE E) (hdE E) w) x k):=λe=>by
      have:=(i3 k om).2 e
      rw[q] at this
      cases this
     have wk:w k=false:=by
      cases e:w k with
      | false=>rfl
      | true=>exact absurd (.inl e) hno
     have hr:RepP E.length (tlE E) (hdE E) w k:=by
      obtain⟨x,x1,x2,x3⟩:=rep_ex (m:=E.length) (tl:=tlE E) (hd:=hdE E) k wk
      by_cases e:x=k
      ·subst e; exact x2
      ·exact absurd (.inr ⟨x,om,x2,x3⟩) hno
     refine⟨by rw[hcnt True ⟨λ_=>trivial,λ_=>hr⟩,if_pos trivial,aN,i1]; rfl,(lf i2 (h2 k om)).2.2,λz hz=>?_⟩
     rw[si i2 (h2 k om),bV,i3 z hz,hi k z om]
     constructor
     ·rintro ((e|⟨x,hx,r⟩)|e)
      ·exact .inl e
      ·exact .inr ⟨x,om,r⟩
      ·exact .inr ⟨k,om,hr,e⟩
     ·rintro (e|⟨x,hx,r⟩)
      ·exact .inl (.inl e)
      ·by_cases e:x=k
       ·subst e; exact .inr r.2
       ·exact .inl (.inr ⟨x,om,r⟩)
theorem vr {h:AH}{wb gb n i:Nat}{Wz:Int}{ev:AV}{E:List (Int×Int)} (hw:h.get wb=some (.cells [.int .u64 Wz] 1 false)) (hg:h.get gb=some (.cells [.int .i64 (n:Nat),ev] 2 false)) (he:SlE h ev E) (hE:InG n E) (hi:i<E.length) :
 C prg 63 ([.int .i64 (i:Nat)]++[.ptr wb 0,.ptr gb 0]) h λr h'=>r=.bool (!(fG Wz ((tlE E i:Nat):Int))&&!(fG Wz ((hdE E i:Nat):Int)))∧Ext h.next h h':=by
 refine NX pf63 ?_
 obtain⟨q1,q2,q3⟩:=hE i hi
 have rw0:aj h wb 0 1=some [.int .u64 Wz]:=aJ hw rfl
 have rE:aj h gb 1 1=some [ev]:=aJ hg rfl
 obtain⟨qb,qp,a1,_,r1,_⟩:=he.at (dp (f:=eE) hi)
 rw[q1] at r1
 have r0:=r1 0 (.int .i64 (tlE E i:Nat)) rfl
 have r1:=r1 1 (.int .i64 (hdE E i:Nat)) rfl
 rw[ce] at r0
 refine ah (ak (Mi0) ?_)
 refine ah (bF (bg 7 (Mi4 rw0 rE a1 r0) rfl (Zi4 rw0 rE a1 r0) (Mi4 rw0 rE a1 r0) (rq) λr h1 hq=>?_))
 obtain⟨rfl,rfl⟩:=hq
 cases c1:fG Wz ((tlE E i:Nat):Int) with
 | true =>
   refine ee 9 (Mi3 rw0 rE a1) rfl (Z0) ?_
   refine bp (M0) ?_
   exact aV ⟨.bool false,(by simp only[rs,rf63,am,aC,simprocAttr]<;>rfl),rfl,NV⟩
 | false =>
 refine bg 9 (Mi4 rw0 rE a1 r1) rfl (Zi4 rw0 rE a1 r1) (Mi4 rw0 rE a1 r1) (rq) λr h2 hq=>?_
 obtain⟨rfl,rfl⟩:=hq
 refine bp (M0) ?_
 exact aV ⟨.bool (!(fG Wz ((hdE E i:Nat):Int))),(by simp only[rs,rf63,am,aC,simprocAttr]<;>rfl),rfl,NV⟩
theorem FL {n:Nat}{E:List (Int×Int)} (hm:fE (n:Nat) E=true):InG n E:=λi hi=>by
 obtain⟨m1,m2,m3,m4⟩:=pn hm
 obtain⟨a,b,e,ha,hb⟩:=AJ (bS.1 m4 _ (aO hi))
 have:E.getD i (0,0)=E[i]:=by rw[aF,au hi]; rfl
 unfold tlE hdE
 rw[this,e]
 exact⟨rfl,ha,hb⟩
set_option maxHeartbeats 1000000 in
theorem mf {h:AH}{n:Nat}{ev:AV}{E:List (Int×Int)}{w:Nat→Bool}{Wz:Int} (he:SlE h ev E) (hm:fE (n:Nat) E=true) (hW:inU Wz) (hw:∀ y:Nat,y<n→fG Wz ((y:Nat):Int)=w y) :
 C prg 31 [.agg [.int .i64 (n:Nat),ev],.int .u64 Wz] h λr h'=>gD r=some (.int .i64 (nParts n E.length (tlE E) (hdE E) w:Nat))∧Ext h.next h h':=by
 obtain⟨ec,eo⟩:=he.cells
 have hE:=FL hm
 obtain⟨m1,m2,m3,m4⟩:=pn hm
 refine NX pf31 ?_
 refine ah (ak (Mi0) ?_)
 have x0:Ext h.next h ((h.new (.cells [.int .i64 (n:Nat),ev] 2 false)).new (.cells [.int .u64 Wz] 1 false)):=(NU (ae _)).trans (NU (by simp))
 have g0:((h.new (.cells [.int .i64 (n:Nat),ev] 2 false)).new (.cells [.int .u64 Wz] 1 false)).get h.next=some (.cells [.int .i64 (n:Nat),ev] 2 false):=by rw[AH.get_new,if_neg (by simp),AH.get_new,if_pos rfl]
 have w0:((h.new (.cells [.int .i64 (n:Nat),ev] 2 false)).new (.cells [.int .u64 Wz] 1 false)).get (h.next+1)=some (.cells [.int .u64 Wz] 1 false):=by rw[AH.get_new]; exact if_pos rfl
 have n0:((h.new (.cells [.int .i64 (n:Nat),ev] 2 false)).new (.cells [.int .u64 Wz] 1 false)).next=h.next+2:=rfl
 generalize ((h.new (.cells [.int .i64 (n:Nat),ev] 2 false)).new (.cells [.int .u64 Wz] 1 false))=h1 at *
 have rA:aj h1 h.next 0 2=some [.int .i64 (n:Nat),ev]:=by rw[aP g0]; rfl
 refine ah (bF (bg 1 (Mi1 rA) rfl (Zi1 rA) (Mi1 rA) (Cd (n:=n) (he.ext x0 (ae _)) hm) λr h2 hq=>?_))
 obtain⟨i2,x2⟩:=hq
 refine bp (M0) ?_
 have n2:=x2.nx
 rcases i2 with ⟨_,hz⟩|⟨ab,nn,hab,rfl,ga,hal⟩
 ·exfalso
  have:=congrArg List.length hz
  rw[nG] at this
  simp [sT] at this
  omega
 have hnn:nn=n:=by rw[nG] at hal; simp [sT] at hal; omega
 subst hnn
 have c0:decide (((nn:Nat):Int)=0)=false:=ai om
 refine ah (ah (ak (M1 c0) ?_))
 refine cj (Z0) (be ?_)
 have X2:Ext h.next h h2:=x0.trans (x2.mono om)
 have g2:h2.get h.next=some (.cells [.int .i64 (nn:Nat),ev] 2 false):=by rw[x2.gt _ om]; exact g0
 have w2:h2.get (h.next+1)=some (.cells [.int .u64 Wz] 1 false):=by rw[x2.gt _ om]; exact w0
 have rA2:aj h2 h.next 0 2=some [.int .i64 (nn:Nat),ev]:=by rw[aP g2]; rfl
 have he2:=he.ext X2 (ae _)
 have hu:∀ z∈sT nn,inU z:=λz hz=>by
  obtain⟨x,_,rfl⟩:=bi.1 hz
  exact AL _
 have hoff:∀ b o m c,ev=.sl b o m c→b≠ab:=λb o m c e=>by have:=he.lt e; omega
 have hgr:=zd (n:=nn) (f:=63) (P:=cw (tlE E) (hdE E) w) (caps:=[.ptr (h.next+1) 0,.ptr h.next 0]) he2 hm hoff ga (by simp [sT]) hu λh' q1 q2 i hi =>
  (vr (n:=nn) (Wz:=Wz) (by rw[q2 _ om om]; exact w2) (by rw[q2 _ om om]; exact g2) (he2.cong λb o m c e=>q2 b (he2.lt e) (hoff b o m c e)) hE hi).mono λr h'' ⟨a,b⟩=>⟨by rw[a,hw _ (hE i hi).2.1,hw _ (hE i hi).2.2]; rfl,b⟩
 refine ah (bF (bg 3 (Mi1 rA2) rfl (Zi1 rA2) (Mi1 rA2) (hgr) λr h3 hq=>?_))
 obtain⟨s,hcl,hfix,hsl,hsu,M3⟩:=hq
 refine bp (M0) ?_
 have hpf:=rC hE m2 hW hw hcl hfix
 have w3:h3.get (h.next+1)=some (.cells [.int .u64 Wz] 1 false):=by rw[M3.gt _ om om]; exact w2
 have rw3:aj h3 (h.next+1) 0 1=some [.int .u64 Wz]:=aJ w3 rfl
 have X3:Ext h.next h h3:=X2.trans ((M3.mono (m:=ab) (by have:=AH.lt_of_get ga; omega)).toExt (ae _) |>.mono om)
 refine ah (ak (Mi1 rw3) ?_)
 refine ah (ah (ak (M0) ?_))
 refine fW (α:=AV×List Int×Int) (N:=nn) (λ_ a=>[(19,.sl ab 0 nn nn),(4,a.1),(6,.int .u64 a.2.2)])
  (λk a h'=>a.2=(List.range k).foldl (jZ s) ([],Wz)∧IsSl h' 1 (ab+1) a.1 (a.2.1.flatMap uI)∧h'.get ab=some (.cells (s.flatMap uI) 1 false)∧Ext h.next h h') (.nils,[],Wz) (λ_ _=>rfl) om (Hi0) ⟨rfl,.inl ⟨rfl,rfl⟩,M3.get,X3⟩ ?_ ?_
 ·rintro k ⟨a,out,dn⟩ ts h4 hk ⟨j1,j2,j3,j4⟩ ⟨ei,en,e19,e4,e6,-⟩
  simp only at ei en e19 e4 e6 j1 j2 j3 j4
  have ik:eQ ((k:Nat):Int) nn=some k:=cJ hk
  have rk:aj h4 ab k 1=some [.int .u64 (s.getD k 0)]:=aJ j3 (GA om)
  refine ah (ak (by simp only[am,aC,simprocAttr,e19,ei,ik,aD,rk]<;>rfl) ?_)
  refine ah (bF (bg 2 (M1 e6) rfl (Z1 e6) (M1 e6) (rq) λr h5 hq=>?_))
  obtain⟨rfl,rfl⟩:=hq
  refine bp (M0) ?_
  have hsucc:(List.range (k+1)).foldl (jZ s) ([],Wz)=jZ s (out,dn) k:=by
   rw[bT,dv,← j1]
   rfl
  have hol:out.length≤k:=by
   have:=(hpf k om).1
   rw[← j1] at this
   have h2:nParts k E.length (tlE E) (hdE E) w≤k:=by
    unfold nParts
    refine bW dQ ?_
    rw[aZ]
    exact ae _
   exact this▸h2
  refine jE (t:=!fG dn ((k:Nat):Int)) (Z0) (λq=>?_) λq=>?_
  ·have q:fG dn ((k:Nat):Int)=false:=by simpa using q
   have hab4:=AH.lt_of_get j3
   obtain⟨s',h6,a1,i1,x1,n1⟩:=j2.push (bytes:=8) (uI (s.getD k 0)) om om rfl rfl (by rw[nG]; unfold aQ; omega) (by rw[nG]; unfold aQ; omega)
   rw[show uI (s.getD k 0)=[.int .u64 (s.getD k 0)] from rfl] at a1 i1
   refine ah (ak (M2 e4 a1) ?_)
   refine ak (M2 e6 @mF) ?_
   refine⟨(s',out++[s.getD k 0],fY dn (s.getD k 0)),⟨?_,?_,by rw[x1.gt _ om]; exact j3,j4.trans (x1.mono om)⟩,H5 ei en e19 e4 e6⟩
   ·rw[hsucc,jZ,if_neg (by simp [q])]
   ·rw[cI]
    exact i1
  ·have q:fG dn ((k:Nat):Int)=true:=by simpa using q
   refine be ⟨(a,out,dn),⟨?_,j2,j3,j4⟩,H5 ei en e19 e4 e6⟩
   rw[hsucc,jZ,if_pos q]
 ·rintro⟨a,out,dn⟩ ts h4 ⟨j1,j2,j3,j4⟩ ⟨e19,e4,e6,-⟩
  simp only at e19 e4 e6 j1 j2 j3 j4
  refine ah (ak (M1 e4) ?_)
  refine aV ⟨a,(by simp only[rs,rf31,am,aC,simprocAttr,j2.cells.1]<;>rfl),?_,j4⟩
  have e:=(hpf nn (ae _)).1
  rw[← j1] at e
  have hl:=(j2.sl (f:=uI) Nat.one_pos (λ_=>rfl)).len
  rw[ar] at hl
  rw[hl,← e]
end Go.Proofs.YthbmhbldmcbnpaaGreatDoor
namespace Go.Spl
theorem Ji:∀ y:Nat,∃ k,(∀ j,j<k→(y+1).testBit j=false)∧(y+1).testBit k=true∧∀ i,((y+1).testBit i&&!(y.testBit i))=decide (i=k):=by
 intro y
 induction y using Nat.strongRecOn with
 | _ y ih =>
   by_cases h:y % 2=0
   ·obtain⟨z,rfl⟩:∃ z,y=2*z:=⟨y / 2,om⟩
    refine⟨0,λj hj=>absurd hj (bm _),by rw[lG]; exact aq om,λi=>?_⟩
    cases i with
    | zero=>rw[lG,lG,aq om,ai om]; rfl
    | succ i =>
      rw[iA,iA,show (2*z+1) / 2=z from by omega,show 2*z / 2=z from by omega]
      simp
   ·obtain⟨z,rfl⟩:∃ z,y=2*z+1:=⟨y / 2,om⟩
    obtain⟨k,h1,h2,h3⟩:=ih z om
    have e1:(2*z+1+1) / 2=z+1:=om
    have e2:(2*z+1) / 2=z:=om
    refine⟨k+1,λj hj=>?_,by rw[iA,e1]; exact h2,λi=>?_⟩
    ·cases j with
     | zero=>rw[lG]; exact ai om
     | succ j=>rw[iA,e1]; exact h1 j om
    ·cases i with
     | zero=>rw[lG,ai om]; simp
     | succ i =>
       rw[iA,iA,e1,e2,h3 i]
       simp
theorem and_neg {x:Nat} (h0:0<x) (h:x<2 ^ 64):∃ k,k<64∧x &&& (2 ^ 64-x)=2 ^ k∧x.testBit k=true∧∀ j,j<k→x.testBit j=false:=by
 obtain⟨y,rfl⟩:∃ y,x=y+1:=⟨x-1,om⟩
 obtain⟨k,h1,h2,h3⟩:=Ji y
 have hk:k<64:=by
  refine Classical.byContradiction λhc=>?_
  have:=sZ (x:=y+1) (i:=k) (cY h (wq om om))
  rw[h2] at this
  cases this
 refine⟨k,hk,Nat.eq_of_testBit_eq λi=>?_,h2,h1⟩
 rw[Nat.testBit_and,Nat.testBit_two_pow_sub_succ om,mS]
 have:=h3 i
 by_cases hi:i<64
 ·rw[aq hi,fK,this]
  by_cases e:i=k
  ·subst e; simp
  ·rw[ai e,ai λq=>e q.symm]
 ·rw[ai hi,ai (by omega:¬ k=i)]
  simp
def nBits (x:Nat):Nat:=(List.range 64).countP λi=>x.testBit i
theorem nBits_zero:nBits 0=0:=by
 unfold nBits
 rw[yA]
 intro i _
 simp
theorem sK {p q:Nat→Bool}{k:Nat}:∀ (l:List Nat),l.Nodup→k∈l→p k=true→q k=false→(∀ i,i≠k→q i=p i)→l.countP p=l.countP q+1
 | a::l,hn,hk,h1,h2,h3=>by
   obtain⟨n1,n2⟩:=bU.1 hn
   rw[df,df]
   by_cases e:a=k
   ·subst e
    have:l.countP p=l.countP q:=oS λi hi=>by
     rw[h3 i λe=>n1 (e▸hi)]
    rw[h1,h2,this]
    rfl
   ·have hk:k∈l:=by
     rcases aA.1 hk with q|q
     ·exact absurd q.symm e
     ·exact q
    rw[sK l n2 hk h1 h2 h3,h3 a e]
    omega
theorem nBits_del {x y k:Nat} (hk:k<64) (h1:x.testBit k=true) (h2:∀ i,y.testBit i=(x.testBit i&&decide (i≠k))):nBits x=nBits y+1:=by
 refine sK (k:=k) _ iB (aL.2 hk) h1 (by rw[h2]; simp) λi hi=>?_
 rw[h2,aq hi,iW]
theorem nBits_le (x:Nat):nBits x≤64:=by
 unfold nBits
 refine bW dQ ?_
 rw[aZ]
 exact ae _
end Go.Spl
namespace Go.Proofs.YthbmhbldmcbnpaaGreatDoor
open Go.Am
open Go.Spl (nBits)
def tab64:List Int:=[0,1,56,2,57,49,28,3,61,58,42,50,38,29,17,4,62,47,59,36,45,43,51,22,53,39,33,30,24,18,12,5,63,55,48,27,60,41,37,16,46,35,44,21,52,32,23,11,54,26,40,15,34,20,31,10,25,14,19,9,13,8,7,6]
def Tab (h:AH):Prop:=h.get 0=some (.cells (tab64.map (AV.int .u8)) 1 true)
theorem Tab.ext {h h':AH}{n:Nat} (ht:Tab h) (hx:Ext n h h') (hn:0<n):Tab h':=(hx.gt 0 hn).trans ht
theorem Nc:((List.range 64).all λk=>decide (((2 ^ k*285870213051353865) % 2 ^ 64) / 2 ^ 58<64)&&decide (tab64[((2 ^ k*285870213051353865) % 2 ^ 64) / 2 ^ 58]?=some ((k:Nat):Int)))=true:=by decide +kernel
theorem Ha (z:Nat):IntKind.u64.wrap ((z:Nat):Int)=((z % 2 ^ 64:Nat):Int):=by
 simp only[IntKind.wrap,IntKind.bits,IntKind.signed,eD,bj,if_false]
 omega
theorem GZ {x:Nat} (h0:0<x) (h:x<2 ^ 64):IntKind.u64.wrap (0-((x:Nat):Int))=((2 ^ 64-x:Nat):Int):=by
 simp only[IntKind.wrap,IntKind.bits,IntKind.signed,eD,bj,if_false]
 omega
theorem ev_gl {ts:Tm}{n:Nat}:RO.ev ts (.gl n)=.ptr n 0:=rfl
theorem tz_ok {h:AH}{x:Nat} (ht:Tab h) (h0:0<x) (hx:x<2 ^ 64):C prg 56 [.int .u64 (x:Nat)] h λr h'=>h'=h∧∃ k:Nat,r=.int .i64 (k:Nat)∧k<64∧x.testBit k=true:=by
 obtain⟨k,k1,k2,k3,k4⟩:=Spl.and_neg h0 hx
 have hlow:vd ((x:Nat):Int) (IntKind.u64.wrap (0-((x:Nat):Int)))=((2 ^ k:Nat):Int):=by
  rw[GZ h0 hx,uZ hx om,k2]
 have hbit:Am.bits .and .u64 ((x:Nat):Int) (IntKind.u64.wrap (0-((x:Nat):Int)))=some ((2 ^ k:Nat):Int):=congrArg some hlow
 have hmul:IntKind.u64.wrap (((2 ^ k:Nat):Int)*285870213051353865)=(((2 ^ k*285870213051353865) % 2 ^ 64:Nat):Int):=by
  rw[← Ha]
  congr 1
 have ht2:=bS.1 Nc k (aL.2 k1)
 rw[aH,az,az] at ht2
 obtain⟨t1,t2⟩:=ht2
 generalize (2 ^ k*285870213051353865) % 2 ^ 64=m at *
 have hshr:du .shr .no (.int .u64 ((m:Nat):Int)) (.int .u64 58)=some (.int .u64 ((m / 2 ^ 58:Nat):Int)):=Aw (a:=m) (k:=58) om
 generalize m / 2 ^ 58=j at *
 have hidx:uA 64 1 (.ptr 0 0) (.int .u64 ((j:Nat):Int))=some (.ptr 0 j):=by
  unfold uA
  simp only[cJ t1,aG,aD,bM]
 have hrd:aj h 0 j 1=some [.int .u8 ((k:Nat):Int)]:=aJ ht (by rw[aE,t2]; rfl)
 have hcv:IntKind.i64.wrap ((k:Nat):Int)=((k:Nat):Int):=fp om om
 have hneg:unA .neg (.int .u64 ((x:Nat):Int))=some (.int .u64 (IntKind.u64.wrap (0-((x:Nat):Int)))):=rfl
 have hcv2:zH .i64 (.int .u8 ((k:Nat):Int))=some (.int .i64 ((k:Nat):Int)):=by unfold zH; simp only[hcv]
 have c0:decide (((x:Nat):Int)=0)=false:=ai om
 refine NX pf56 ?_
 refine ah (ak (Mi0) ?_)
 refine ah (ah (ak (Mi1 c0) ?_))
 refine cj (Z0) (be ?_)
 refine ah (ak (by simp only[am,aC,simprocAttr,bI,hbit,aG,hmul,hshr,ev_gl,hidx,hrd,hneg,hcv2]<;>rfl) ?_)
 exact aV ⟨.int .i64 (k:Nat),(by simp only[rs,rf56,am,aC,simprocAttr]<;>rfl),rfl,k,rfl,k1,k3⟩
def an64 (a b:Int):Int:=IntKind.u64.wrap ((BitVec.ofInt 64 a &&& ~~~(BitVec.ofInt 64 b)).toNat)
theorem Gy {a b:Int}:du .andNot .no (.int .u64 a) (.int .u64 b)=some (.int .u64 (an64 a b)):=rfl
theorem GC {a k:Nat} (ha:a<2 ^ 64) (hk:k<64):∃ b:Nat,an64 ((a:Nat):Int) ((2 ^ k:Nat):Int)=((b:Nat):Int)∧b<2 ^ 64∧∀ i,b.testBit i=(a.testBit i&&decide (i≠k)):=by
 have h2:(2:Nat) ^ k<2 ^ 64:=ij om hk
 refine⟨(BitVec.ofNat 64 a &&& ~~~(BitVec.ofNat 64 (2 ^ k))).toNat,?_,BitVec.isLt _,λi=>?_⟩
 ·unfold an64
  rw[BitVec.ofInt_natCast,BitVec.ofInt_natCast]
  have:=(BitVec.ofNat 64 a &&& ~~~(BitVec.ofNat 64 (2 ^ k))).isLt
  exact IntWalk.u64_in _ ⟨om,om⟩
 ·rw[BitVec.testBit_toNat,BitVec.getLsbD_and,BitVec.getLsbD_not,BitVec.getLsbD_ofNat,BitVec.getLsbD_ofNat,mS]
  by_cases hi:i<64
  ·rw[aq hi,fK,fK]
   by_cases e:i=k
   ·subst e; simp
   ·rw[ai (λq=>e q.symm),aq e]
    simp
  ·rw[ai hi,eD,eD]
   have:a.testBit i=false:=sZ (cY ha (wq om om))
   rw[this]
   rfl
theorem NO {h:AH}{x:Nat} (ht:Tab h) (hn:0<h.next) (hx:x<2 ^ 64):C prg 27 [.int .u64 (x:Nat)] h λr h'=>gD r=some (.int .i64 (nBits x:Nat))∧Ext h.next h h':=by
 refine NX pf27 ?_
 refine ah (ak (Mi0) ?_)
 refine ah (oI (λts h'=>∃ a xs,xs.length=nBits x∧IsSl h' 1 h.next a (nC xs)∧Ext h.next h h'∧Held [(2,a)] ts) ?_ ?_)
 ·refine bL (fI (λm ts h'=>∃ a xs y,m=nBits y∧y<2 ^ 64∧xs.length+nBits y=nBits x∧IsSl h' 1 h.next a (nC xs)∧Ext h.next h h'∧Held [(0,.int .u64 ((y:Nat):Int)),(2,a)] ts) ?_ (n:=nBits x)
   ⟨.nils,[],x,rfl,hx,by simp,.inl ⟨rfl,rfl⟩,NV,Hi0⟩)
  rintro m ts h1 ⟨a,xs,y,rfl,y1,y2,y3,y4,e0,e2,-⟩
  simp only at e0 e2
  have hxn:=Spl.nBits_le x
  by_cases q:y=0
  ·have c0:decide (((y:Nat):Int)=0)=true:=aq om
   refine ah (ah (ak (M2 e0 c0) ?_))
   refine cj (Z0) (eX ⟨λ_=>⟨a,xs,?_,y3,y4,H1 e2⟩,λe=>absurd rfl e⟩)
   rw[q,Spl.nBits_zero] at y2
   omega
  have c0:decide (((y:Nat):Int)=0)=false:=ai om
  refine ah (ah (ak (M2 e0 c0) ?_))
  refine bq (Z0) (be ?_)
  refine bL (ah (bF (bg 1 (M1 e0) rfl (Z1 e0) (M1 e0) (tz_ok (x:=y) (ht.ext y4 hn) om y1) λr h2 hq=>?_)))
  obtain⟨rfl,k,rfl,k1,k2⟩:=hq
  refine bp (M0) ?_
  have hn1:=y4.nx
  obtain⟨a',h3,p1,p2,p3,p4⟩:=y3.push (bytes:=8) [.int .i64 ((k:Nat):Int)] om om rfl rfl (by rw[fj]; unfold aQ; omega) (by rw[fj]; unfold aQ; omega)
  refine ah (ak (M2 e2 p1) ?_)
  have hsl:lX 1 ((k:Nat):Int)=((2 ^ k:Nat):Int):=qY k1
  obtain⟨b,b1,b2,b3⟩:=GC (a:=y) y1 k1
  refine ak (by simp only[am,aC,simprocAttr,e0,nR (Int.natCast_nonneg k),hsl,Gy,b1]<;>rfl) ?_
  have hd:=Spl.nBits_del k1 k2 b3
  exact⟨nBits b,om,a',xs++[k],b,rfl,b2,by rw[aN,aR,bo]; omega,by rw[pj]; exact p2,y4.trans (p3.mono om),H0⟩
 ·rintro ts h1 ⟨a,xs,x1,x2,x3,e2,-⟩
  simp only at e2
  refine ah (ak (M1 e2) ?_)
  refine aV ⟨a,(by simp only[rs,rf27,am,aC,simprocAttr,x2.cells.1]<;>rfl),?_,x3⟩
  have:=(kH x2).len
  rw[ar,ar] at this
  rw[this,x1]
def orS (s x:Int):Int:=if 0≤x∧x<64 then fY s (lX 1 x) else s
def ofL (xs:List Int):Int:=xs.foldl orS 0
theorem vz (xs:List Int):inU (ofL xs):=by
 unfold ofL
 have key:∀ (l:List Int) (s:Int),inU s→inU (l.foldl orS s):=by
  intro l
  induction l with
  | nil=>exact λs hs=>hs
  | cons x r ih =>
    intro s hs
    refine ih _ ?_
    unfold orS
    split
    ·exact (lf hs (qN _)).2.2
    ·exact hs
 exact key xs 0 ⟨om,om⟩
theorem AZ (xs:List Int) (y:Nat):fG (ofL xs) ((y:Nat):Int)=true↔y<64∧((y:Nat):Int)∈xs:=by
 unfold ofL
 have key:∀ (l:List Int) (s:Int),inU s→(fG (l.foldl orS s) ((y:Nat):Int)=true↔fG s ((y:Nat):Int)=true∨(y<64∧((y:Nat):Int)∈l)):=by
  intro l
  induction l with
  | nil=>exact λs hs=>by simp
  | cons x r ih =>
    intro s hs
    rw[dB]
    by_cases h:0≤x∧x<64
    ·rw[show orS s x=fY s (lX 1 x) from if_pos h]
     obtain⟨z,rfl⟩:=cS h.1
     have hz:z<64:=om
     have h2:(2:Nat) ^ z<2 ^ 64:=ij om hz
     have hsl:inU (lX 1 ((z:Nat):Int)):=qN _
     rw[ih _ (lf hs hsl).2.2,si hs hsl,qY hz,mP h2,mS,bV,aH,az,az,aA]
     constructor
     ·rintro ((q|⟨q1,q2⟩)|⟨q1,q2⟩)
      ·exact .inl q
      ·subst q2; exact .inr ⟨q1,.inl rfl⟩
      ·exact .inr ⟨q1,.inr q2⟩
     ·rintro (q|⟨q1,q2|q2⟩)
      ·exact .inl (.inl q)
      ·exact .inl (.inr ⟨q1,om⟩)
      ·exact .inr ⟨q1,q2⟩
    ·rw[show orS s x=s from if_neg h,ih _ hs,aA]
     constructor
     ·rintro (q|⟨q1,q2⟩)
      ·exact .inl q
      ·exact .inr ⟨q1,.inr q2⟩
     ·rintro (q|⟨q1,q2|q2⟩)
      ·exact .inl q
      ·subst q2; exact absurd ⟨om,om⟩ h
      ·exact .inr ⟨q1,q2⟩
 rw[key xs 0 ⟨om,om⟩,ow]
 simp
theorem xi {h:AH}{v:AV}{xs:List Int} (hv:SlI h v xs) (hxl:xs.length<2 ^ 40):C prg 24 [v] h λr h'=>r=.int .u64 (ofL xs)∧h'=h:=by
 have el:=hv.len
 rw[ar] at el
 refine NX pf24 ?_
 refine ah (ak (Mi0) ?_)
 refine ah (ah (ak (Mi1 el) ?_))
 refine fW (α:=Int) (N:=xs.length) (λ_ s=>[(2,.int .u64 s),(5,v)]) (λk s h'=>h'=h∧s=(xs.take k).foldl orS 0) 0 (λ_ _=>rfl) om (Hi0) ⟨rfl,by rw[fl]; rfl⟩ ?_ ?_
 ·rintro k s ts h1 hk ⟨rfl,rfl⟩ ⟨ei,en,e2,e5,-⟩
  simp only at ei en e2 e5
  have hst:(xs.take (k+1)).foldl orS 0=orS ((xs.take k).foldl orS 0) xs[k]:=by rw[aX hk,dv]; rfl
  obtain⟨b1,p1,a1,r1,_⟩:=hv.at1 (dp (f:=eI) hk)
  generalize xs[k]=x at *
  generalize (xs.take k).foldl orS 0=s at *
  refine ah (ak (M4 e5 ei a1 r1) ?_)
  by_cases q1:0≤x
  ·have c1:decide (0≤x)=true:=aq q1
   by_cases q2:x<64
   ·have c2:decide (x<64)=true:=aq q2
    refine ah (ak (M3 e2 c1 c2) ?_)
    refine bq (Z0) ?_
    refine ak (by simp only[am,aC,simprocAttr,e2,nR q1,mF]<;>rfl) ?_
    exact⟨fY s (lX 1 x),⟨rfl,by rw[hst,orS,if_pos ⟨q1,q2⟩]⟩,H3 ei en e5⟩
   ·have c2:decide (x<64)=false:=ai q2
    refine ah (ak (M3 e2 c1 c2) ?_)
    refine cj (Z0) ?_
    exact be ⟨s,⟨rfl,by rw[hst,orS,if_neg λq=>q2 q.2]⟩,H4 ei en e2 e5⟩
  ·have c1:decide (0≤x)=false:=ai q1
   refine ah (ak (M2 e2 c1) ?_)
   refine cj (Z0) ?_
   exact be ⟨s,⟨rfl,by rw[hst,orS,if_neg λq=>q1 q.1]⟩,H4 ei en e2 e5⟩
 ·rintro s ts h1 ⟨rfl,rfl⟩ ⟨e2,e5,-⟩
  simp only at e2 e5
  rw[bO] at *
  refine ah (ak (M1 e2) ?_)
  exact aV ⟨_,(by simp only[rs,rf24,am,aC,simprocAttr]<;>rfl),rfl,rfl⟩
end Go.Proofs.YthbmhbldmcbnpaaGreatDoor
