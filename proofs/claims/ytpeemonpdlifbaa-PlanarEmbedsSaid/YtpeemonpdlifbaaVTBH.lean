/- PlanarEmbeds' law in the clean machine. -/
import Derived.Test.YtpeemonpdlifbaaVTAP
import Derived.Test.YtpeemonpdlifbaaVTBF
import Derived.Test.YtpeemonpdlifbaaVTBG
import Derived.Test.YtpeemonpdlifbaaVTAC
import Derived.Test.YtpeemonpdlifbaaVAmSrt
import Derived.Shelf.Slices.In.SortAlone
import Derived.KernelRfl
import Derived.Deep.QuietTactic
import Derived.BigQuiet
import Derived.Shelf.SlSortCmp.Whole1
set_option linter.all false
namespace Go.Proofs.Ytpeemonpdlifbaa
open Go.Am
open Go.Pla (Dual)
theorem JL {h:AH}{ob:Nat}{vs:List AV}{rows:List (List Nat)}{lo n:Nat} (g:h.get ob=some (.cells vs 1 false)) (hl:vs.length=n) (R:Rw h lo vs (xN rows)):SlL h (.sl ob 0 n n) (jf rows)∧(jf rows).length=n:=by
 have e:xN rows=jf rows:=rfl;rw[e] at R;have h1:=R.1;exact⟨⟨vs,KG g hl (ab _),R.1,λi w xs a b=>KE (f:=eI) om (λ_=>rfl) (R.2.1 i w xs a b)⟩,om⟩
theorem CM {n:Nat}{E:List (Int×Int)}{hE:InG n E}{hL:∀ i,i<E.length→tlE E i≠hdE E i} (hm:E.length≤128) {rows:List (List Nat)} (R:RwsI n E (jf rows)):∀ l∈jf rows,l.length≤2 ^ 63-1:=λl hl=>by
 obtain⟨x,hx,rfl⟩:=cJ.1 hl;have:=Ap R hE hL (x:=x) (by have:=R.len; omega);rw[fM hx] at this;omega
set_option maxHeartbeats 4000000 in
theorem zC {h:AH}{n:Int}{ev:AV}{E:List (Int×Int)} (he:SlE h ev E):C prg 3 [.agg [.int .i64 n,ev]] h λv _=>v=.bool true:=by
 obtain⟨ec,eo⟩:=he.cells;refine KK pf3 ?_;refine ai (au (Mi0) ?_);have x0:Ext h.next h (h.new (.cells [.int .i64 n,ev] 2 false)):=KH (ab _);have g0:(h.new (.cells [.int .i64 n,ev] 2 false)).get h.next=some (.cells [.int .i64 n,ev] 2 false):=by rw[AH.get_new,if_pos rfl]
 have n0:(h.new (.cells [.int .i64 n,ev] 2 false)).next=h.next+1:=rfl;generalize (h.new (.cells [.int .i64 n,ev] 2 false))=h1 at *
 refine ai (ai (bU (mc (Z0) (M0) (wM) λr h2 hq=>?_)));obtain⟨rfl,x2⟩:=hq;refine bP (M0) ?_;refine dn (Z0) (bH ?_);have X2:Ext h.next h h2:=x0.trans (x2.mono om);have n2:=x2.nx;have g2:h2.get h.next=some (.cells [.int .i64 n,ev] 2 false):=by rw[x2.gt _ om]; exact g0
 have rA:ak h2 h.next 0 2=some [.int .i64 n,ev]:=by rw[aW g2]; rfl
 have r0:ak h2 h.next 0 1=some [.int .i64 n]:=br g2 rfl;have r1:ak h2 h.next 1 1=some [ev]:=br g2 rfl;have he2:=he.ext X2 (ab _);have el:=he2.len;rw[ae] at el;by_cases q1:200<E.length
 ·have c1:decide ((200:Int)<((E.length:Nat):Int))=true:=aM om;refine ai (ai (bU ?_));refine mR 6 (Mi3 r1 el c1) rfl (Z0) ?_;refine bP (M0) ?_;refine cE (Z0) (ai (au (M0) ?_));exact bM ⟨_,(by simp only[rs,rf3,am,aH,simprocAttr]<;>rfl),rfl⟩
 have c1:decide ((200:Int)<((E.length:Nat):Int))=false:=aK om;refine ai (ai (bU (bu 6 (Mi4 r1 el c1 rA) rfl (Zi4 r1 el c1 rA) (Mi4 r1 el c1 rA) (nz (n:=n) he2) λr h3 hq=>?_)));obtain⟨b,rfl,hb,x3⟩:=hq;have X3:Ext h.next h h3:=X2.trans (x3.mono om);have n3:=x3.nx;have g3:h3.get h.next=some (.cells [.int .i64 n,ev] 2 false):=by rw[x3.gt _ om]; exact g2
 have r30:ak h3 h.next 0 1=some [.int .i64 n]:=br g3 rfl;have r31:ak h3 h.next 1 1=some [ev]:=br g3 rfl;have rA3:ak h3 h.next 0 2=some [.int .i64 n,ev]:=by rw[aW g3]; rfl
 have he3:=he.ext X3 (ab _);refine G.mono (K:=λts h'=>h'=h3∧aN ts 1=.ptr h.next 0∧∃ t,aN ts 25=.bool t∧(t=false→b=true→n≤20∧E.length≤40)) ?_ ?_
 ·cases b with
  | false =>
    refine gv (λts h'=>h'=h3∧aN ts 1=.ptr h.next 0∧aN ts 25=.bool false) (by simp only[am,aH,simprocAttr,bN]) ?_;rintro ts h' ⟨rfl,e1,e25⟩;exact⟨rfl,e1,false,e25,λ_ q=>by cases q⟩
  | true =>
    by_cases q2:20<n
    ·have d1:decide ((20:Int)<n)=true:=aM q2;refine gv (λts h'=>h'=h3∧aN ts 1=.ptr h.next 0∧aN ts 25=.bool true) (Zi2 r30 d1) ?_;rintro ts h' ⟨rfl,e1,e25⟩;exact⟨rfl,e1,true,e25,λq=>by cases q⟩
    have d1:decide ((20:Int)<n)=false:=aK q2;by_cases q3:40<E.length
    ·have d2:decide ((40:Int)<((E.length:Nat):Int))=true:=aM om;refine gv (λts h'=>h'=h3∧aN ts 1=.ptr h.next 0∧aN ts 25=.bool true) (Zi5 r30 d1 r31 el d2) ?_;rintro ts h' ⟨rfl,e1,e25⟩;exact⟨rfl,e1,true,e25,λq=>by cases q⟩
    have d2:decide ((40:Int)<((E.length:Nat):Int))=false:=aK om;refine gv (λts h'=>h'=h3∧aN ts 1=.ptr h.next 0∧aN ts 25=.bool false) (Zi5 r30 d1 r31 el d2) ?_;rintro ts h' ⟨rfl,e1,e25⟩;exact⟨rfl,e1,false,e25,λ_ _=>⟨om,om⟩⟩
 rintro ts h3' ⟨rfl,e1,t,e25,ht⟩;cases t with
 | true =>
   refine cE (Z1 e25) (ai (au (M0) ?_));exact bM ⟨_,(by simp only[rs,rf3,am,aH,simprocAttr]<;>rfl),rfl⟩
 | false =>
 have ht:=ht rfl;refine dn (Z1 e25) (bH ?_);clear x0 x2 x3 X2 g0 g2 rA r0 r1 he2;refine ai (bU (bu 1 (M2 e1 rA3) rfl (Z2 e1 rA3) (M2 e1 rA3) (tC (n:=n) he3 om) λr h4 hq=>?_));obtain⟨x4,hq⟩:=hq;have X4:Ext h.next h h4:=X3.trans (x4.mono om);have n4:=x4.nx;have g4:h4.get h.next=some (.cells [.int .i64 n,ev] 2 false):=by rw[x4.gt _ om]; exact g3
 have rA4:ak h4 h.next 0 2=some [.int .i64 n,ev]:=by rw[aW g4]; rfl
 obtain⟨rv,ok,rfl⟩:∃ rv ok,r=.tup [rv,.bool ok]:=by
  rcases hq with ⟨rfl,_⟩|⟨_,ob,vs,rows,rfl,_⟩
  ·exact⟨_,_,rfl⟩
  ·exact⟨_,_,rfl⟩
 have xt0:CG (.tup [rv,.bool ok]) 0=some rv:=rfl;have xt1:CG (.tup [rv,.bool ok]) 1=some (.bool ok):=rfl;refine gv (λts h'=>h'=h4∧aN ts 1=.ptr h.next 0∧aN ts 3=rv∧aN ts 4=.bool ok) (Z3 e1 xt0 xt1) ?_;clear e1 e25;rintro ts h4' ⟨rfl,e1,e3,e4⟩;have he4:=he.ext X4 (ab _);have ess:=uT he4;have hself:AV.same (.agg [.int .i64 n,ev]) (.agg [.int .i64 n,ev])=true:=by simp [AV.same,AV.sames,ess]
 refine ai (ai (bU (li 2 (M2 e1 rA4) rfl (Z2 e1 rA4) (M2 e1 rA4) (tB (n:=n) he4 om) λr h5 hp=>?_)));obtain⟨b1,rfl,hb1,x5⟩:=hp;have X5:Ext h.next h h5:=X4.trans (x5.mono om);have n5:=x5.nx;have g5:h5.get h.next=some (.cells [.int .i64 n,ev] 2 false):=by rw[x5.gt _ om]; exact g4
 have rA5:ak h5 h.next 0 2=some [.int .i64 n,ev]:=by rw[aW g5]; rfl
 refine⟨Z3 e1 rA5 hself,?_⟩;refine mc (Z0) (M0) (nz (n:=n) (he.ext X5 (ab _))) λr h6 hp=>?_;obtain⟨b2,rfl,hb2,x6⟩:=hp;have hbb:b2=b1:=by
  rw[← hb1] at hb2;cases b1<;>cases b2<;>simp_all
 subst hbb;have hne:(b2 != b2)=false:=by cases b2<;>rfl
 have X6:Ext h.next h h6:=X5.trans (x6.mono om);have n6:=x6.nx;have g6:h6.get h.next=some (.cells [.int .i64 n,ev] 2 false):=by rw[x6.gt _ om]; exact g5
 have rA6:ak h6 h.next 0 2=some [.int .i64 n,ev]:=by rw[aW g6]; rfl
 refine gv (λts h'=>h'=h6∧aN ts 1=.ptr h.next 0∧aN ts 3=rv∧aN ts 4=.bool ok∧aN ts 35=.bool false) (Z5 e1 e3 e4 @sB hne) ?_;clear e1 e3 e4;rintro ts h6' ⟨rfl,e1,e3,e4,e35⟩;refine dn (Z1 e35) (bH ?_);refine ai (ai (bU (bu 1 (M2 e1 rA6) rfl (Z2 e1 rA6) (M2 e1 rA6) (nz (n:=n) (he.ext X6 (ab _))) λr h7 hp=>?_)));obtain⟨b3,rfl,hb3,x7⟩:=hp;have X7:Ext h.next h h7:=X6.trans (x7.mono om);have n7:=x7.nx;have g7:h7.get h.next=some (.cells [.int .i64 n,ev] 2 false):=by rw[x7.gt _ om]; exact g6
 have rA7:ak h7 h.next 0 2=some [.int .i64 n,ev]:=by rw[aW g7]; rfl
 have he7:=he.ext X7 (ab _);refine gv (λts h'=>h'=h7∧aN ts 1=.ptr h.next 0∧aN ts 3=rv∧aN ts 4=.bool ok∧aN ts 38=.bool (!b3)) (Z3 e1 e3 e4) ?_;clear e1 e3 e4 e35;rintro ts h7' ⟨rfl,e1,e3,e4,e38⟩;by_cases hP:¬ jp n E
 ·
  have hb30:b3=false:=by
   cases b3 with
   | false=>rfl
   | true=>exact absurd (hb3.1 rfl) hP
  subst hb30;obtain⟨rfl,rfl⟩:rv=.nils∧ok=false:=by
   rcases hq with ⟨e,_⟩|⟨q,_⟩
   ·simp only[AV.tup.injEq,eG,AV.bool.injEq,and_true] at e;exact e
   ·exact absurd q hP
  refine cE (by simp only[am,aH,simprocAttr,e38,bJ]) ?_;refine ai (bU (bu 9 (M5 e1 e3 e4 rA7 @decide_true) rfl (Z5 e1 e3 e4 rA7 @decide_true) (M5 e1 e3 e4 rA7 @decide_true) (vg (n:=n) he7 om) λr h8 hp=>?_));obtain⟨b8,rfl,hb8,x8⟩:=hp;have:b8=false:=by
   cases b8 with
   | false=>rfl
   | true=>exact absurd (hb8.1 rfl).1 hP
  subst this;refine bP (M0) ?_;exact bM ⟨_,(by simp only[rs,rf3,am,aH,simprocAttr]<;>rfl),rfl⟩
 have hP:=Classical.not_not.1 hP;obtain rfl:b3=true:=hb3.2 hP;obtain⟨k,rfl⟩:=oW hP;have hE:InG k E:=by simpa using rQ hP.1
 have hL:=AJ hP.1 hP.2.1;obtain⟨m1,m2,m3,m4⟩:=rF hP.1;have hW:Go.Pla.Pln (grE k E hE hL) (List.range E.length):=qV hP.2.2;refine dn (Z2 e38 @cm) (bH ?_);refine ai (ai (bU (bu 2 (M2 e1 rA7) rfl (Z2 e1 rA7) (M2 e1 rA7) (vg (n:=(k:Nat)) he7 om) λr h8 hp=>?_)));obtain⟨b8,rfl,hb8,x8⟩:=hp;have X8:Ext h.next h h8:=X7.trans (x8.mono om);have n8:=x8.nx;have g8:h8.get h.next=some (.cells [.int .i64 (k:Nat),ev] 2 false):=by rw[x8.gt _ om]; exact g7
 have rA8:ak h8 h.next 0 2=some [.int .i64 (k:Nat),ev]:=by rw[aW g8]; rfl
 have he8:=he.ext X8 (ab _);rcases hq with ⟨hq,hno⟩|⟨_,ob,vs,rows,hq,hob,hgv,hvl,hR,hI⟩
 ·
  simp only[AV.tup.injEq,eG,AV.bool.injEq,and_true] at hq;obtain⟨rfl,rfl⟩:=hq;have hnd:¬ ∃ (Φ:Type) (l r:Nat→Φ),Dual (grE k E hE hL) (List.range E.length) l r:=hno hP hE hL;have:b8=false:=by
   cases b8 with
   | false=>rfl
   | true=>exact absurd ((AQ hP hE hL).1 (hb8.1 rfl)) hnd
  subst this;refine gv (λts h'=>h'=h8∧aN ts 1=.ptr h.next 0∧aN ts 3=.nils∧aN ts 4=.bool false∧aN ts 54=.bool false) (by simp only[am,aH,simprocAttr,e1,e3,e4,sB,bne_self_eq_false]) ?_;clear e1 e3 e4 e38;rintro ts h8' ⟨rfl,e1,e3,e4,e54⟩;refine dn (Z1 e54) (bH ?_);refine ai (ai (au (M1 e4) ?_));refine dn (Z0) (bH ?_);refine ai (bU (bu 5 (M4 e1 e3 rA8 @decide_true) rfl (Z4 e1 e3 rA8 @decide_true) (M4 e1 e3 rA8 @decide_true) (Ex he8 m3 m2) λr h9 hp=>?_));obtain⟨b9,rfl,hb9,x9⟩:=hp;have X9:Ext h.next h h9:=X8.trans (x9.mono om);have g9:h9.get h.next=some (.cells [.int .i64 (k:Nat),ev] 2 false):=by rw[x9.gt _ om]; exact g8
  have rA9:ak h9 h.next 0 2=some [.int .i64 (k:Nat),ev]:=by rw[aW g9]; rfl
  cases b9 with
  | false =>
    refine mR 3 (M2 e1 e3) rfl (Z0) ?_;refine bP (M0) ?_;exact bM ⟨_,(by simp only[rs,rf3,am,aH,simprocAttr]<;>rfl),rfl⟩
  | true =>
    refine bu 3 (M3 e1 e3 rA9) rfl (Z3 e1 e3 rA9) (M3 e1 e3 rA9) (xd (he.ext X9 (ab _)) hE hL m3 m2 (hb9 rfl)) λr h10 hp=>?_;obtain⟨b10,rfl,hb10,x10⟩:=hp;have:b10=false:=by
     cases b10 with
     | false=>rfl
     | true =>
       obtain⟨T,RT,CT⟩:=hb10 rfl;exact absurd ((qP (hE:=hE) (hL:=hL) RT).dual CT) hnd
    subst this;refine bP (M0) ?_;exact bM ⟨_,(by simp only[rs,rf3,am,aH,simprocAttr]<;>rfl),rfl⟩
 ·
  simp only[AV.tup.injEq,eG,AV.bool.injEq,and_true] at hq;obtain⟨rfl,rfl⟩:=hq;have hkk:((k:Nat):Int).toNat=k:=dj k;rw[hkk] at hvl hI e3;have hI':=hI hE hL;obtain⟨RT,CT⟩:=Ki hW hI';have hIs:IsP (k:Nat) E:=(AQ hP hE hL).2 hI'.dual;obtain rfl:b8=true:=hb8.2 hIs;refine gv (λts h'=>h'=h8∧aN ts 1=.ptr h.next 0∧aN ts 3=.sl ob 0 k k∧aN ts 4=.bool true∧aN ts 54=.bool false) (by simp only[am,aH,simprocAttr,e1,e3,e4,sB,bne_self_eq_false]) ?_;clear e1 e3 e4 e38;rintro ts h8' ⟨rfl,e1,e3,e4,e54⟩;refine dn (Z1 e54) (bH ?_);refine ai (ai (au (M1 e4) ?_));obtain⟨hT,hTl⟩:=JL hgv hvl hR;have x48:Ext h4'.next h4' h8':=x5.trans ((x6.mono n5).trans ((x7.mono om).trans (x8.mono om)));have hT8:=hT.ext x48;refine cE (Z0) ?_;refine ai (bU (bu 2 (M3 e1 e3 rA8) rfl (Z3 e1 e3 rA8) (M3 e1 e3 rA8) (yR he8 hP.1 hT8 om (CM (hE:=hE) (hL:=hL) m3 RT)) λr h9 hp=>?_));obtain⟨b9,rfl,hb9,x9⟩:=hp;obtain rfl:b9=true:=hb9.2 RT;have X9:Ext h.next h h9:=X8.trans (x9.mono om);have g9:h9.get h.next=some (.cells [.int .i64 (k:Nat),ev] 2 false):=by rw[x9.gt _ om]; exact g8
  have rA9:ak h9 h.next 0 2=some [.int .i64 (k:Nat),ev]:=by rw[aW g9]; rfl
  refine bu 3 (M3 e1 e3 rA9) rfl (Z3 e1 e3 rA9) (M3 e1 e3 rA9) (qU (he.ext X9 (ab _)) hE hL m3 m2 (hT8.ext x9) RT) λr h10 hp=>?_;obtain⟨j,rfl,hj,x10⟩:=hp;have hnt:ji (jf rows)=rows:=by
   unfold ji jf;rw[kK]
   conv=>rhs; rw[← GH rows]
   refine df λl _=>?_;simp only[Function.comp,id,kK]
   conv=>rhs; rw[← GH l]
   exact df λz _=>by simp
  rw[hnt] at hj;obtain rfl:j=0:=hj.2 CT;have d1:decide (((0:Nat):Int)=0)=true:=rfl;refine bP (M1 d1) ?_;exact bM ⟨_,(by simp only[rs,rf3,am,aH,simprocAttr]<;>rfl),rfl⟩
open Go.Am Go.Shelf
def sren:Ren:=⟨λx=>match x with|189=>83|125=>51|257=>93|128=>73|129=>74|294=>95|295=>96|296=>97|297=>98|298=>99|299=>100|216=>101|300=>102|301=>103|328=>104|329=>86|330=>87|331=>105|332=>106|215=>107|343=>108|n=>n,λx=>match x with|28=>34|46=>80|51=>103|53=>105|183=>97|182=>96|131=>89|218=>109|222=>113|228=>119|229=>120|n=>n,λn=>n⟩
def sre2:Ren:=⟨λx=>match x with|6=>34|15=>51|14=>50|28=>73|29=>74|20=>65|21=>66|22=>67|23=>68|24=>69|25=>70|26=>71|27=>72|46=>85|47=>86|48=>87|49=>88|50=>89|57=>94|n=>n,λx=>match x with|22=>27|24=>34|25=>66|39=>80|53=>103|55=>105|46=>97|45=>96|50=>89|66=>109|70=>113|76=>119|77=>120|n=>n,λn=>n⟩
theorem brs {f:FuncId}{B:Func} (h1:((Try.prog.funcs[f]?.getD Try.f34).name== "runtime.NumGoroutine")=false) (h2:Try.prog.funcs[f]?=some { B with name:=(Try.prog.funcs[f]?.getD Try.f34).name}):Bears Try.prog f B:=⟨_,h1,h2⟩
theorem slay:Lays.n189 Try.prog sren:=by
 constructor<;>first|kernel_rfl|(intro; kernel_rfl)
theorem sla2:SlLaysF.n6 Try.prog sre2:=by
 constructor<;>first|kernel_rfl|exact brs (by kernel_rfl) (by kernel_rfl)|(intro; kernel_rfl)
theorem cmp35:GE Try.prog 35:=by
 intro W b1 o1 n1 c1 b2 o2 n2 c2 k1 k2 h1 h2 a1 a2 a3 a4
 go_enter Try.func35,Try.ntmps35
 go_wp2
 go_quiet (fail)
 go_wp2
 go_ret
 exact⟨rfl,_,rfl⟩
theorem ssrt:Gz Try.prog 83:=λblk off cap zs w hH hb hz=>calls_of_every_depth λD=>AnyS.slices_Sort_int_alone slay D blk off cap zs w hH hb hz
theorem srts:GC Try.prog mks:=by
 have c:∀ {k:Nat}{r:RF},(cj Try.prog k).bind dM=some r→∃ rf,cj Try.prog k=some rf:=λh=>let ⟨rf,h,_⟩:=jY.1 h; ⟨rf,h⟩;exact wD.2 ⟨.inl ⟨rfl,GS ssrt (c cf83)⟩,wD.2 ⟨.inr ⟨35,rfl,GT sla2 rfl (enters_of Try.func35 (by kernel_rfl) rfl) cmp35 (c cf34)⟩,λ_ h=>by cases h⟩⟩
end Go.Proofs.Ytpeemonpdlifbaa
