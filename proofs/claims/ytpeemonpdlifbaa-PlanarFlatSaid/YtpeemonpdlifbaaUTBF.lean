/- PlanarFlat's law in the clean machine. -/
import Derived.Test.YtpeemonpdlifbaaUTBD
import Derived.Test.YtpeemonpdlifbaaUTBE
import Derived.Test.YtpeemonpdlifbaaUTAC
import Derived.Test.YtpeemonpdlifbaaUAmSrt
import Derived.Shelf.Slices.In.SortAlone
import Derived.KernelRfl
import Derived.Deep.QuietTactic
import Derived.BigQuiet
import Derived.Shelf.SlSortCmp.Whole1
set_option linter.all false
namespace Go.Proofs.Ytpeemonpdlifbaa
open Go.Am
open Go.Pla (Dual at_)
def mB (gone:List Int) (k:Nat):List Nat:=(List.range k).filter λi=>!(gone.any λz=>z==((i:Nat):Int))
theorem zf {gone:List Int}{k:Nat}:mB gone (k+1)=mB gone k++if (gone.any λz=>z==((k:Nat):Int)) then [] else [k]:=by
 unfold mB
 rw[bS,nU]
 congr 1
 rw[jp,List.filter_nil]
 cases gone.any λz=>z==((k:Nat):Int)<;>rfl
theorem kN {gone:List Int}{k:Nat}:(mB gone k).Nodup∧∀ i∈mB gone k,i<k :=
 ⟨List.nodup_range.filter _,λi hi=>aF.1 (bD.1 hi).1⟩
theorem BP {E:List (Int×Int)}{ν:Nat→Nat}{a b:List Nat}:fx E ν (a++b)=fx E ν a++fx E ν b:=by simp [fx]
theorem Fi {n:Nat}{E:List (Int×Int)}{T:List (List Int)} (hP:ig (n:Nat) E) (hE:InG n E) (hL:∀ i,i<E.length→tlE E i≠hdE E i) (R:RwsI n E T) (hC:Go.Pla.Cuts (grE n E hE hL) (Go.Pla.rnx (grE n E hE hL) (mq T)) E.length):IsP (n:Nat) E :=
 (vi hP hE hL).2 ((qT (hE:=hE) (hL:=hL) R).dual hC)
set_option maxHeartbeats 4000000 in
theorem Fh {h:AH}{n:Int}{ev tv gv nv ov:AV}{E:List (Int×Int)}{T:List (List Int)}{gone names order:List Int}{lr:Nat} (he:SlE h ev E) (ltv:ip tv=some (.int .i64 (lr:Nat))) (hT:lr≤60→SlL h tv T∧T.length=lr) (hT2:∀ l∈T,l.length≤2 ^ 63-1)
 (hg:SlI h gv gone) (hn:SlI h nv names) (ho:SlI h ov order) :
 C prg 4 [.agg [.int .i64 n,ev],tv,gv,nv,ov] h λv _=>v=.bool true:=by
 obtain⟨ec,eo⟩:=he.cells
 obtain⟨gc,go⟩:=hg.cells
 refine Kl pf4 ?_
 refine ae (ar (Mi0) ?_)
 have x0:Ext h.next h (h.new (.cells [.int .i64 n,ev] 2 false)):=Ki (ab _)
 have g0:(h.new (.cells [.int .i64 n,ev] 2 false)).get h.next=some (.cells [.int .i64 n,ev] 2 false):=by rw[AH.get_new,if_pos rfl]
 have n0:(h.new (.cells [.int .i64 n,ev] 2 false)).next=h.next+1:=rfl
 generalize (h.new (.cells [.int .i64 n,ev] 2 false))=h1 at *
 refine ae (ae (bW (lT (Z0) (M0) (wh) λr h2 hq=>?_)))
 obtain⟨rfl,x2⟩:=hq
 refine bK (M0) ?_
 refine dB (Z0) (bJ ?_)
 have X2:Ext h.next h h2:=x0.trans (x2.mono om)
 have n2:=x2.nx
 have g2:h2.get h.next=some (.cells [.int .i64 n,ev] 2 false):=by rw[x2.gt _ om]; exact g0
 have rA:ak h2 h.next 0 2=some [.int .i64 n,ev]:=by rw[aU g2]; rfl
 have he2:=he.ext X2 (ab _)
 refine ae (ae (bW (bt 1 (Mi1 rA) rfl (Zi1 rA) (Mi1 rA) (yz (n:=n) he2) λr h3 hq=>?_)))
 obtain⟨b,rfl,hb,x3⟩:=hq
 have X3:Ext h.next h h3:=X2.trans (x3.mono om)
 have n3:=x3.nx
 have g3:h3.get h.next=some (.cells [.int .i64 n,ev] 2 false):=by rw[x3.gt _ om]; exact g2
 have rA3:ak h3 h.next 0 2=some [.int .i64 n,ev]:=by rw[aU g3]; rfl
 have r0:ak h3 h.next 0 1=some [.int .i64 n]:=bd g3 rfl
 have r1:ak h3 h.next 1 1=some [ev]:=bd g3 rfl
 have he3:=he.ext X3 (ab _)
 have el:=he3.len
 rw[ah] at el
 have gl:=hg.len
 rw[ah] at gl
 cases b with
 | false =>
   refine ft 25 (Mi0) rfl (Z0) ?_
   refine ft 5 (M0) rfl (Z0) ?_
   refine bK (M0) ?_
   refine cE (Z0) (ae (ar (M0) ?_))
   exact bH ⟨_,(by simp only[rs,rf4,am,aC,simprocAttr]<;>rfl),rfl⟩
 | true =>
 have hP:=hb.1 rfl
 obtain⟨k,rfl⟩:=oX hP
 have hE:InG k E:=by simpa using nH hP.1
 have hL:=xc hP.1 hP.2.1
 obtain⟨m1,m2,m3,m4⟩:=pi hP.1
 by_cases q1:20<k
 ·have c1:decide ((20:Int)<((k:Nat):Int))=true:=aN om
  refine ft 25 (Mi2 r0 c1) rfl (Z0) ?_
  refine ft 5 (M0) rfl (Z0) ?_
  refine bK (M0) ?_
  refine cE (Z0) (ae (ar (M0) ?_))
  exact bH ⟨_,(by simp only[rs,rf4,am,aC,simprocAttr]<;>rfl),rfl⟩
 have c1:decide ((20:Int)<((k:Nat):Int))=false:=aK om
 by_cases q2:40<E.length
 ·have c2:decide ((40:Int)<((E.length:Nat):Int))=true:=aN om
  refine ft 25 (Mi5 r0 c1 r1 el c2) rfl (Z0) ?_
  refine ft 5 (M0) rfl (Z0) ?_
  refine bK (M0) ?_
  refine cE (Z0) (ae (ar (M0) ?_))
  exact bH ⟨_,(by simp only[rs,rf4,am,aC,simprocAttr]<;>rfl),rfl⟩
 have c2:decide ((40:Int)<((E.length:Nat):Int))=false:=aK om
 by_cases q3:60<lr
 ·have c3:decide ((60:Int)<((lr:Nat):Int))=true:=aN om
  refine ft 25 (Mi7 r0 c1 r1 el c2 ltv c3) rfl (Z0) ?_
  refine ft 5 (M0) rfl (Z0) ?_
  refine bK (M0) ?_
  refine cE (Z0) (ae (ar (M0) ?_))
  exact bH ⟨_,(by simp only[rs,rf4,am,aC,simprocAttr]<;>rfl),rfl⟩
 have c3:decide ((60:Int)<((lr:Nat):Int))=false:=aK om
 by_cases q4:60<gone.length
 ·have c4:decide ((60:Int)<((gone.length:Nat):Int))=true:=aN om
  refine ft 25 (Mi10 r0 c1 r1 el c2 ltv c3 gl c4 c4) rfl (Z0) ?_
  refine ft 5 (M0) rfl (Z0) ?_
  refine bK (M0) ?_
  refine cE (Z0) (ae (ar (M0) ?_))
  exact bH ⟨_,(by simp only[rs,rf4,am,aC,simprocAttr]<;>rfl),rfl⟩
 have c4:decide ((60:Int)<((gone.length:Nat):Int))=false:=aK om
 obtain⟨hT0,hTl⟩:=hT om
 refine bt 25 (Mi10 r0 c1 r1 el c2 ltv c3 gl c4 rA3) rfl (Zi10 r0 c1 r1 el c2 ltv c3 gl c4 rA3) (Mi10 r0 c1 r1 el c2 ltv c3 gl c4 rA3) (yG he3 hP.1 (hT0.ext X3) om hT2) λr h4 hq=>?_
 obtain⟨b,rfl,hbR,x4⟩:=hq
 have X4:Ext h.next h h4:=X3.trans (x4.mono om)
 have n4:=x4.nx
 have g4:h4.get h.next=some (.cells [.int .i64 (k:Nat),ev] 2 false):=by rw[x4.gt _ om]; exact g3
 have rA4:ak h4 h.next 0 2=some [.int .i64 (k:Nat),ev]:=by rw[aU g4]; rfl
 cases b with
 | false =>
   refine ft 5 (Mi0) rfl (Z0) ?_
   refine bK (M0) ?_
   refine cE (Z0) (ae (ar (M0) ?_))
   exact bH ⟨_,(by simp only[rs,rf4,am,aC,simprocAttr]<;>rfl),rfl⟩
 | true =>
 have hR:=hbR.1 rfl
 refine bt 5 (Mi1 rA4) rfl (Zi1 rA4) (Mi1 rA4) (yH (he.ext X4 (ab _)) hE hL m3 m2 (hT0.ext X4) hR) λr h5 hq=>?_
 obtain⟨j,rfl,hj,x5⟩:=hq
 have X5:Ext h.next h h5:=X4.trans (x5.mono om)
 have n5:=x5.nx
 have g5:h5.get h.next=some (.cells [.int .i64 (k:Nat),ev] 2 false):=by rw[x5.gt _ om]; exact g4
 have rA5:ak h5 h.next 0 2=some [.int .i64 (k:Nat),ev]:=by rw[aU g5]; rfl
 by_cases hj0:¬ j=0
 ·have d1:decide (((j:Nat):Int)=0)=false:=aK om
  refine bK (M1 d1) ?_
  refine cE (Z0) (ae (ar (M0) ?_))
  exact bH ⟨_,(by simp only[rs,rf4,am,aC,simprocAttr]<;>rfl),rfl⟩
 have hj0:=Classical.not_not.1 hj0
 have d1:decide (((j:Nat):Int)=0)=true:=aN om
 have hIs:IsP (k:Nat) E:=Fi hP hE hL hR (hj.1 hj0)
 refine kH (λts h'=>h'=h5∧aL ts 2=gv∧aL ts 3=nv∧aL ts 4=ov∧aL ts 5=.ptr h.next 0∧aL ts 54=.bool false) (by simp only[am,aC,simprocAttr,bI,d1,bQ]) ?_
 rintro ts h5' ⟨rfl,e2,e3,e4,e5,e54⟩
 refine dB (Z1 e54) (bJ ?_)
 clear x0 x2 x3 x4 x5 X2 X3 X4 g0 g2 g3 g4 rA rA3 rA4 r0 r1 he2 he3 hT hT0 hT2 hbR hj hb
 refine ae (ae (bW (bt 1 (M2 e5 rA5) rfl (Z2 e5 rA5) (M2 e5 rA5) (qX (n:=(k:Nat)) (he.ext X5 (ab _)) om) λr h6 hq=>?_)))
 obtain⟨b,rfl,hb6,x6⟩:=hq
 obtain rfl:b=true:=hb6.2 hIs
 refine kH (λts h'=>h'=h6∧aL ts 2=gv∧aL ts 3=nv∧aL ts 4=ov∧aL ts 5=.ptr h.next 0∧aL ts 57=.bool false) (Z5 e2 e3 e4 e5 @bQ) ?_
 clear e2 e3 e4 e5 e54
 rintro ts h6' ⟨rfl,e2,e3,e4,e5,e57⟩
 refine dB (Z1 e57) (bJ ?_)
 have X6:Ext h.next h h6':=X5.trans (x6.mono om)
 have n6:=x6.nx
 have g6:h6'.get h.next=some (.cells [.int .i64 (k:Nat),ev] 2 false):=by rw[x6.gt _ om]; exact g5
 have r60:ak h6' h.next 0 1=some [.int .i64 (k:Nat)]:=bd g6 rfl
 have r61:ak h6' h.next 1 1=some [ev]:=bd g6 rfl
 obtain⟨h7,w7,x7,g7,n7⟩:=fL (h:=h6') (z:=[.int .i64 0,.nils]) (cs:=[.int .i64 (k:Nat),.nils]) (e:=2) rfl
 refine ae (bL (λts h'=>h'=h7∧aL ts 2=gv∧aL ts 3=nv∧aL ts 4=ov∧aL ts 5=.ptr h.next 0∧aL ts 11=.ptr h6'.next 0) (by simp only[am,aC,simprocAttr,e2,e3,e4,e5,r60,w7]) ?_)
 clear e2 e3 e4 e5 e57
 rintro ts h7' ⟨rfl,e2,e3,e4,e5,e11⟩
 have X7:Ext h.next h h7':=X6.trans (x7.mono om)
 have g7b:h7'.get h.next=some (.cells [.int .i64 (k:Nat),ev] 2 false):=by rw[x7.gt _ om]; exact g6
 have r71:ak h7' h.next 1 1=some [ev]:=bd g7b rfl
 obtain⟨A,hA⟩:∃ A,A=h6'.next:=⟨_,rfl⟩
 rw[← hA] at e11 g7 n7
 have hAh:h.next<A:=om
 refine ae (ku (λts h'=>∃ av,aL ts 3=nv∧aL ts 4=ov∧aL ts 5=.ptr h.next 0∧aL ts 11=.ptr A 0∧IsSl h' 2 (A+1) av ((fx E (λv=>v) (mB gone E.length)).flatMap eE)∧h'.get A=some (.cells [.int .i64 (k:Nat),av] 2 false)∧h'.get h.next=some (.cells [.int .i64 (k:Nat),ev] 2 false)∧Ext h.next h h'∧A<h'.next) ?_ ?_)
 ·refine ae (ar (M3 e5 r71 el) ?_)
  refine gC (α:=AV) (N:=E.length) (λ_ av=>[(62,ev),(2,gv),(3,nv),(4,ov),(5,.ptr h.next 0),(11,.ptr A 0)])
   (λi av h'=>IsSl h' 2 (A+1) av ((fx E (λv=>v) (mB gone i)).flatMap eE)∧h'.get A=some (.cells [.int .i64 (k:Nat),av] 2 false)∧h'.get h.next=some (.cells [.int .i64 (k:Nat),ev] 2 false)∧Ext h.next h h'∧A<h'.next) .nils (λ_ _=>rfl) om (H6 e2 e3 e4 e5 e11 @bh) ⟨.inl ⟨rfl,rfl⟩,g7,g7b,X7,om⟩ ?_ ?_
  ·clear e2 e3 e4 e5 e11
   rintro i av ts h8 hi ⟨i8,g8,b8,X8,n8⟩ ⟨ei,en,e62,e2,e3,e4,e5,e11,-⟩
   simp only at ei en e62 e2 e3 e4 e5 e11
   obtain⟨qb,qp,a9,r9,_⟩:=(he.ext X8 (ab _)).at (fy (f:=eE) hi)
   obtain⟨q1',q2',q3'⟩:=hE i hi
   have r9:ak h8 qb qp 2=some (eE E[i]):=r9
   rw[q1'] at r9
   have r9:ak h8 qb qp 2=some [.int .i64 (tlE E i:Nat),.int .i64 (hdE E i:Nat)]:=r9
   obtain⟨h9,w9,x9,g9,n9⟩:=fL (h:=h8) (z:=[.int .i64 0,.int .i64 0]) (cs:=[.int .i64 (tlE E i:Nat),.int .i64 (hdE E i:Nat)]) (e:=2) rfl
   refine ae (bL (λts h'=>h'=h9∧aL ts 64=.int .i64 (i:Nat)∧aL ts 63=.int .i64 (E.length:Nat)∧aL ts 62=ev∧aL ts 2=gv∧aL ts 3=nv∧aL ts 4=ov∧aL ts 5=.ptr h.next 0∧aL ts 11=.ptr A 0∧aL ts 12=.int .i64 (i:Nat)∧aL ts 13=.ptr h8.next 0) (by simp only[am,aC,simprocAttr,ei,en,e62,e2,e3,e4,e5,e11,a9,r9,w9]) ?_)
   clear ei en e62 e2 e3 e4 e5 e11
   rintro ts h9' ⟨rfl,ei,en,e62,e2,e3,e4,e5,e11,e12,e13⟩
   have X9:Ext h.next h h9':=X8.trans (x9.mono om)
   have i9:=i8.ext x9 (ab _)
   have b9:h9'.get h.next=some (.cells [.int .i64 (k:Nat),ev] 2 false):=by rw[x9.gt _ om]; exact b8
   have g9A:h9'.get A=some (.cells [.int .i64 (k:Nat),av] 2 false):=by rw[x9.gt _ om]; exact g8
   have hg9:=hg.ext X9 (ab _)
   refine ae (ar (M0) ?_)
   refine ae (ku (λts h'=>h'=h9'∧aL ts 64=.int .i64 (i:Nat)∧aL ts 63=.int .i64 (E.length:Nat)∧aL ts 62=ev∧aL ts 2=gv∧aL ts 3=nv∧aL ts 4=ov∧aL ts 5=.ptr h.next 0∧aL ts 11=.ptr A 0∧aL ts 13=.ptr h8.next 0∧aL ts 14=.bool (gone.any λz=>z==((i:Nat):Int))) ?_ ?_)
   ·refine ae (ar (M2 e2 gl) ?_)
    refine gC (α:=Unit) (N:=gone.length) (λj _=>[(69,gv),(14,.bool ((gone.take j).any λz=>z==((i:Nat):Int))),(64,.int .i64 (i:Nat)),(63,.int .i64 (E.length:Nat)),(62,ev),(2,gv),(3,nv),(4,ov),(5,.ptr h.next 0),(11,.ptr A 0),(12,.int .i64 (i:Nat)),(13,.ptr h8.next 0)])
     (λ_ _ h'=>h'=h9') () (λ_ _=>rfl) om (by simp only[hl,am,aC,simprocAttr,ei,en,e62,e2,e3,e4,e5,e11,e12,e13,ff,List.any_nil,bh]) rfl ?_ ?_
    ·clear ei en e62 e2 e3 e4 e5 e11 e12 e13
     rintro j _ ts h10 hjl rfl ⟨ej,eN,e69,e14,ei,en,e62,e2,e3,e4,e5,e11,e12,e13,-⟩
     simp only at ej eN e69 e14 ei en e62 e2 e3 e4 e5 e11 e12 e13
     obtain⟨zb,zp,az,rz,_⟩:=hg9.at1 (i:=j) (y:=.int .i64 gone[j]) (by rw[aw,ai hjl]; rfl)
     have hst:((gone.take (j+1)).any λz=>z==((i:Nat):Int))=(((gone.take j).any λz=>z==((i:Nat):Int))||decide (gone[j]=((i:Nat):Int))):=by
      rw[dP,ai hjl,List.any_append]
      simp only[Option.toList_some,List.any_cons,List.any_nil,gz]
      rfl
     refine ae (ar (M4 e69 ej az rz) ?_)
     cases hbv:((gone.take j).any λz=>z==((i:Nat):Int)) with
     | true =>
       rw[hbv] at e14
       rw[hbv,Bool.true_or] at hst
       refine ar (M1 e14) ?_
       exact⟨(),rfl,by simp only[hl,am,aC,simprocAttr,ej,eN,e69,ei,en,e62,e2,e3,e4,e5,e11,e12,e13,hst]⟩
     | false =>
       rw[hbv] at e14
       rw[hbv,fQ] at hst
       refine ar (M2 e14 e12) ?_
       exact⟨(),rfl,by simp only[hl,am,aC,simprocAttr,ej,eN,e69,ei,en,e62,e2,e3,e4,e5,e11,e12,e13,hst]⟩
    ·clear ei en e62 e2 e3 e4 e5 e11 e12 e13
     rintro _ ts h10 rfl ⟨e69,e14,ei,en,e62,e2,e3,e4,e5,e11,e12,e13,-⟩
     simp only at e14
     rw[dU] at e14
     exact⟨rfl,ei,en,e62,e2,e3,e4,e5,e11,e13,e14⟩
   clear ei en e62 e2 e3 e4 e5 e11 e12 e13
   rintro ts h10 ⟨rfl,ei,en,e62,e2,e3,e4,e5,e11,e13,e14⟩
   have hks:=@zf gone i
   refine ae (ar (M1 e14) ?_)
   cases hgo:gone.any λz=>z==((i:Nat):Int) with
   | true =>
     rw[hgo] at hks
     refine dB (Z2 hgo @bQ) (bJ ?_)
     exact⟨av,⟨by rw[hks]; simpa using i9,g9A,b9,X9,om⟩,by simp only[hl,am,aC,simprocAttr,ei,en,e62,e2,e3,e4,e5,e11]⟩
   | false =>
     rw[hgo] at hks
     have rv:ak h10 A 1 1=some [av]:=bd g9A rfl
     have rq:ak h10 h8.next 0 2=some [.int .i64 (tlE E i:Nat),.int .i64 (hdE E i:Nat)]:=by rw[aU g9]; rfl
     have hkl:(mB gone i).length≤i:=Go.Pla.nd_lt (kN (gone:=gone) (k:=i)).1 (kN (gone:=gone) (k:=i)).2
     have hdl:((fx E (λv=>v) (mB gone i)).flatMap eE).length / 2≤128:=by rw[zF,fK]; omega
     obtain⟨av',h11,a11,i11,x11,n11⟩:=i9.push (bytes:=16) [.int .i64 (tlE E i:Nat),.int .i64 (hdE E i:Nat)] om om rfl rfl (by unfold aX; omega) (by unfold aX; omega)
     have g11:h11.get A=some (.cells [.int .i64 (k:Nat),av] 2 false):=by rw[x11.gt _ om]; exact g9A
     have w11:=fV (v:=av') g11 (i:=1) (by simp)
     have u11:=Kk (o:=.cells ([AV.int .i64 (k:Nat),av].set 1 av') 2 false) g11
     have rp1:cJ [AV.int .i64 0,.int .i64 0] 1=[.int .i64 0,.int .i64 0]:=rfl
     refine cE (by simp only[am,aC,simprocAttr,hgo,bG]) (ar (by simp only[am,aC,simprocAttr,e11,e13,rv,rq,rp1,a11,i11.cells.1,i11.cells.2,bM,w11]<;>rfl) ?_)
     generalize h11.put A (.cells ([AV.int .i64 (k:Nat),av].set 1 av') 2 false)=h12 at *
     refine⟨av',⟨?_,u11.get,by rw[u11.ne om,x11.gt _ om]; exact b9,X9.trans ((x11.mono om).trans (u11.ext om)),by rw[u11.nx]; omega⟩,by simp only[hl,am,aC,simprocAttr,ei,en,e62,e2,e3,e4,e5,e11]⟩
     rw[hks,BP,dV]
     exact i11.upd u11 om
  ·clear e2 e3 e4 e5 e11
   rintro av ts h8 ⟨i8,g8,b8,X8,n8⟩ ⟨e62,e2,e3,e4,e5,e11,-⟩
   exact⟨av,e3,e4,e5,e11,i8,g8,b8,X8,n8⟩
 clear e2 e3 e4 e5 e11
 rintro ts h8 ⟨av,e3,e4,e5,e11,i8,g8,b8,X8,n8⟩
 have r8:ak h8 A 0 2=some [.int .i64 (k:Nat),av]:=by rw[aU g8]; rfl
 have hkl:(mB gone E.length).length≤E.length:=Go.Pla.nd_lt (kN (gone:=gone) (k:=E.length)).1 (kN (gone:=gone) (k:=E.length)).2
 have s8:SlE h8 av (fx E (λv=>v) (mB gone E.length)):=Kg om vB i8
 refine ae (ae (bW (bt 1 (M2 e11 r8) rfl (Z2 e11 r8) (M2 e11 r8) (qX (n:=(k:Nat)) s8 (by rw[fK]; omega)) λr h9 hq=>?_)))
 obtain⟨b,rfl,hb9,x9⟩:=hq
 obtain rfl:b=true:=hb9.2 (xu hIs kN.1 kN.2 (λv hv=>hv) λu v _ _ e=>e)
 refine kH (λts h'=>h'=h9∧aL ts 3=nv∧aL ts 4=ov∧aL ts 5=.ptr h.next 0∧aL ts 93=.bool false) (Z4 e3 e4 e5 @bQ) ?_
 clear e3 e4 e5 e11
 rintro ts h9' ⟨rfl,e3,e4,e5,e93⟩
 refine dB (Z1 e93) (bJ ?_)
 have X9:Ext h.next h h9':=X8.trans (x9.mono om)
 have g9:h9'.get h.next=some (.cells [.int .i64 (k:Nat),ev] 2 false):=by rw[x9.gt _ om]; exact b8
 have r90:ak h9' h.next 0 1=some [.int .i64 (k:Nat)]:=bd g9 rfl
 have r91:ak h9' h.next 1 1=some [ev]:=bd g9 rfl
 have rA9:ak h9' h.next 0 2=some [.int .i64 (k:Nat),ev]:=by rw[aU g9]; rfl
 refine ae (ae (bW (bt 3 (M3 e3 e5 r90) rfl (Z3 e3 e5 r90) (M3 e3 e5 r90) (tq (n:=k) (hn.ext X9 (ab _)) om) λr h10 hq=>?_)))
 obtain⟨⟨b,rfl,hbn⟩,rfl⟩:=hq
 cases b with
 | false =>
   refine ft 6 (M0) rfl (Z0) ?_
   refine bK (M0) ?_
   refine cE (Z0) (ae (ar (M0) ?_))
   exact bH ⟨_,(by simp only[rs,rf4,am,aC,simprocAttr]<;>rfl),rfl⟩
 | true =>
 have pn:=hbn.1 rfl
 refine bt 6 (M4 e4 e5 r91 el) rfl (Z4 e4 e5 r91 el) (M4 e4 e5 r91 el) (tq (n:=E.length) (ho.ext X9 (ab _)) om) λr h11 hq=>?_
 obtain⟨⟨b,rfl,hbo⟩,rfl⟩:=hq
 cases b with
 | false =>
   refine bK (M0) ?_
   refine cE (Z0) (ae (ar (M0) ?_))
   exact bH ⟨_,(by simp only[rs,rf4,am,aC,simprocAttr]<;>rfl),rfl⟩
 | true =>
 have po:=hbo.1 rfl
 refine bK (M0) ?_
 refine dB (Z0) (bJ ?_)
 refine ae (bW (bt 3 (M4 e3 e4 e5 rA9) rfl (Z4 e3 e4 e5 rA9) (M4 e3 e4 e5 rA9) (yy (he.ext X9 (ab _)) hE m3 (hn.ext X9 (ab _)) (ho.ext X9 (ab _)) pn po) λr h12 hq=>?_))
 obtain⟨ev',rfl,s12,x12⟩:=hq
 refine lT (Z0) (M0) (qX (n:=(k:Nat)) s12 (by rw[fK]; simp [oZ]; omega)) λr h13 hq=>?_
 obtain⟨b,rfl,hb13,x13⟩:=hq
 obtain rfl:b=true:=hb13.2 (xu hIs (Ai po).1 (Ai po).2 (λv hv=>(lu pn hv).2.2.2) (wN pn))
 refine bK (M0) ?_
 exact bH ⟨_,(by simp only[rs,rf4,am,aC,simprocAttr]<;>rfl),rfl⟩
open Go.Am Go.Shelf
def sren:Ren:=⟨λx=>match x with|189=>83|125=>51|257=>93|128=>73|129=>74|294=>95|295=>96|296=>97|297=>98|298=>99|299=>100|216=>101|300=>102|301=>103|328=>104|329=>86|330=>87|331=>105|332=>106|215=>107|343=>108|n=>n,λx=>match x with|28=>34|46=>80|51=>103|53=>105|183=>97|182=>96|131=>89|218=>109|222=>113|228=>119|229=>120|n=>n,λn=>n⟩
def sre2:Ren:=⟨λx=>match x with|6=>34|15=>51|14=>50|28=>73|29=>74|20=>65|21=>66|22=>67|23=>68|24=>69|25=>70|26=>71|27=>72|46=>85|47=>86|48=>87|49=>88|50=>89|57=>94|n=>n,λx=>match x with|22=>27|24=>34|25=>66|39=>80|53=>103|55=>105|46=>97|45=>96|50=>89|66=>109|70=>113|76=>119|77=>120|n=>n,λn=>n⟩
theorem brs {f:FuncId}{B:Func} (h1:((Try.prog.funcs[f]?.getD Try.f34).name== "runtime.NumGoroutine")=false) (h2:Try.prog.funcs[f]?=some { B with name:=(Try.prog.funcs[f]?.getD Try.f34).name}):Bears Try.prog f B:=⟨_,h1,h2⟩
theorem slay:Lays.n189 Try.prog sren:=by
 constructor<;>first|kernel_rfl|(intro; kernel_rfl)
theorem sla2:SlLaysF.n6 Try.prog sre2:=by
 constructor<;>first|kernel_rfl|exact brs (by kernel_rfl) (by kernel_rfl)|(intro; kernel_rfl)
theorem cmp35:Gj Try.prog 35:=by
 intro W b1 o1 n1 c1 b2 o2 n2 c2 k1 k2 h1 h2 a1 a2 a3 a4
 go_enter Try.func35,Try.ntmps35
 go_wp2
 go_quiet (fail)
 go_wp2
 go_ret
 exact⟨rfl,_,rfl⟩
theorem ssrt:Ge Try.prog 83:=λblk off cap zs w hH hb hz=>calls_of_every_depth λD=>AnyS.slices_Sort_int_alone slay D blk off cap zs w hH hb hz
theorem srts:Gh Try.prog mks:=by
 have c:∀ {k:Nat}{r:RF},(cm Try.prog k).bind dG=some r→∃ rf,cm Try.prog k=some rf:=λh=>let ⟨rf,h,_⟩:=jY.1 h; ⟨rf,h⟩
 exact vS.2 ⟨.inl ⟨rfl,Gx ssrt (c cf83)⟩,vS.2 ⟨.inr ⟨35,rfl,Gy sla2 rfl (enters_of Try.func35 (by kernel_rfl) rfl) cmp35 (c cf34)⟩,λ_ h=>by cases h⟩⟩
end Go.Proofs.Ytpeemonpdlifbaa
