/- kura -/
import Derived.Test.YtlolkmcdimgplaaGreatVTAF
set_option linter.all false
namespace Go.Proofs.YtlolkmcdimgplaaGreat
open Go.Am
open Go.Kur (Gr Wk)
variable {E:List (Int×Int)}{L:List Int}{e x:Nat}{hs l m:List Nat}{n:Int}{w:Kur.Way}
theorem mn2K{k:IntKind}{x y:Int}:lA mnA [.int k x,.int k y]=some (.int k (if y<x then y else x)):=by simp[lA,mnA]
def tlK(E:List (Int×Int))(i:Nat):Nat:=(E.getD i (0,0)).1.toNat
def hdK(E:List (Int×Int))(i:Nat):Nat:=(E.getD i (0,0)).2.toNat
def pO(E:List (Int×Int))(l:List Nat)(x:Nat):List Nat:=l.flatMap λi=>(if tlK E i=x then [i]else [])++(if hdK E i=x then [i]else [])
def OkE(n:Int)(E:List (Int×Int))(i:Int):Prop:=0<=i/\i<(E.length:Nat)/\0<=(E.getD i.toNat (0,0)).1/\0<=(E.getD i.toNat (0,0)).2/\(E.getD i.toNat (0,0)).1<n/\(E.getD i.toNat (0,0)).2<n
def LayP(n:Int)(E:List (Int×Int))(L:List Int):Prop:=∀(k:Nat) (hk:k<L.length),OkE n E L[k]/\L[k]∉L.take k
def nLK(L:List Int):List Nat:=L.map Int.toNat
theorem LayP.nodup(h:LayP n E L):(nLK L).Nodup/\∀i∈L,OkE n E i:=by
 have h2:∀i∈L,OkE n E i:=λi hi=>by
  obtain⟨k,hk,rfl⟩:=fK hi;exact(h k hk).1
 refine⟨?_,h2⟩;unfold nLK;rw[List.Nodup,dm];intro i j hi hj hij e;rw[ah]at hi hj;rw[ft,ft]at e;have a:=(h i hi).1.1;have b:=(h j hj).1.1;have e:L[i]=L[j]:=om;refine(h j hj).2 ?_;rw[<-e,List.mem_take_iff_getElem];exact⟨i,om,rfl⟩
def grK(E:List (Int×Int))(L:List Int)(h:(nLK L).Nodup):Gr:=⟨tlK E,hdK E,nLK L,h⟩
theorem qD{h:(nLK L).Nodup}(x:Nat):(grK E L h).ends x=pO E (nLK L) x:=rfl
theorem BP(E:List (Int×Int))(l:List Nat)(x:Nat):(pO E l x).length<=2*l.length:=by
 unfold pO;induction l with
 |nil=>exact ab _
 |cons a r ih =>
   rw[bm,aB,ar];have:((if tlK E a=x then [a]else [])++(if hdK E a=x then [a]else [])).length<=2:=by
    rw[aB];split<;>split<;>simp
   omega
theorem yR(ml:ML)(x i:Nat):(lQ ml x i).length<=ml.length+1:=by
 have:=congrArg List.length (mm ml x i);rw[ah]at this;unfold po at this;split at this<;>simp at this<;>omega
set_option maxHeartbeats 4000000 in
theorem MM{h:AH}{ev lv:AV}(he:SlE h ev E)(hL:SlI h lv L)(hel:E.length<2^28)(hll:L.length<2^28)(hn:n<2^28) :
 C prg 14 [.agg [.int .i64 n,ev],lv] h λr h'=>Ext h.next h h'/\((∃(hp:LayP n E L) (wb:Nat),r=.tup [.ptr wb 0,.bool true]/\Web (grK E L hp.nodup.1) h' wb n E)\/(¬LayP n E L/\r=.tup [.nilp,.bool false])):=by
 obtain⟨ec,eo⟩:=he.cells;obtain⟨lc,lo'⟩:=hL.cells;have hEl:=he.len;have hLl:=hL.len;rw[ah]at hEl hLl;refine Ny pf14 ?_;refine ai (aD (Mi0) ?_);have x0:Ext h.next h (h.new (.cells [.int .i64 n,ev] 2 false)):=Nt (ab _);have g0:(h.new (.cells [.int .i64 n,ev] 2 false)).get h.next=some (.cells [.int .i64 n,ev] 2 false):=by rw[AH.get_new,if_pos rfl]
 have n0:(h.new (.cells [.int .i64 n,ev] 2 false)).next=h.next+1:=rfl;generalize h.new (.cells [.int .i64 n,ev] 2 false)=h1 at *
 have r0:aA h1 h.next 0 2=some [.int .i64 n,ev]:=by rw[bI g0];rfl
 refine ai (aD (Mi1 r0) ?_);have x1:Ext h1.next h1 ((h1.new (.mapo [] 0)).new (.cells [.int .i64 n,ev,.mp h1.next] 3 false)):=(Nt (ab _)).trans (Nt (by rw[AH.next_new];omega));have g1:((h1.new (.mapo [] 0)).new (.cells [.int .i64 n,ev,.mp h1.next] 3 false)).get (h1.next+1)=some (.cells [.int .i64 n,ev,.mp h1.next] 3 false):=by rw[AH.get_new,if_pos (by rw[AH.next_new])]
 have g1':((h1.new (.mapo [] 0)).new (.cells [.int .i64 n,ev,.mp h1.next] 3 false)).get h1.next=some (.mapo [] 0):=by rw[AH.get_new,if_neg (by rw[AH.next_new];omega),AH.get_new,if_pos rfl]
 have n1:((h1.new (.mapo [] 0)).new (.cells [.int .i64 n,ev,.mp h1.next] 3 false)).next=h1.next+2:=rfl;generalize (h1.new (.mapo [] 0)).new (.cells [.int .i64 n,ev,.mp h1.next] 3 false)=hA at *
 have XA:Ext h.next h hA:=x0.trans (x1.mono om);have g0A:hA.get h.next=some (.cells [.int .i64 n,ev] 2 false):=by rw[x1.gt _ om];exact g0
 refine ai (ai (aD (Mi1 hLl) ?_))
 refine gA (α:=ML) (N:=L.length) (λ_ _=>[(1,lv),(2,.ptr h.next 0),(6,.ptr (h1.next+1) 0),(14,lv)])
  (λk ml h'=>(∀(j:Nat) (hj:j<L.length),j<k->OkE n E L[j]/\L[j]∉L.take j)/\(∃es c,h'.get h1.next=some (.mapo es c)/\MapL h' hA.next es c ml)/\(∀x,lkL ml x=pO E (nLK (L.take k)) x)/\(ml.map (·.1)).Nodup/\(∀p∈ml,p.2≠[])/\ml.length<=2*k/\Kp (λc=>c=h1.next) hA h')
  [] (λ_ _=>rfl) om (Hi0) ⟨λj hj hk=>absurd hk (gY _),⟨[],0,g1',MapL.nil⟩,λx=>rfl,fI,(λp hp=>by cases hp),dx _,Ns⟩ ?_ ?_
 .rintro k ml ts h2 hk ⟨j1,⟨es,c,j2,j3⟩,j4,j5,j6,j7,j8⟩ ⟨ei,en,e1,e2,e6,e14,-⟩;simp only at ei en e1 e2 e6 e14;have n2:=j8.nx;have X2:Ext h.next h h2:=⟨om,λc hc=>(j8.gt c om om).trans (XA.gt c hc),λc hc=>(j8.ty c om).trans (XA.ty c hc)⟩
  have he2:=he.ext X2 (ab _);have hL2:=hL.ext X2 (ab _);obtain⟨b1,p1,a1,a2,_⟩:=hL2.at1 (fR (f:=eI) hk);refine ai (aD (M4 ei e14 a1 a2) ?_);have g2:h2.get h.next=some (.cells [.int .i64 n,ev] 2 false):=by rw[j8.gt _ om om];exact g0A
  have g2w:h2.get (h1.next+1)=some (.cells [.int .i64 n,ev,.mp h1.next] 3 false):=by rw[j8.gt _ om om];exact g1
  have rv:aA h2 h.next 1 1=some [ev]:=bJ g2 rfl;have hkm:∀{z:Int},L[k]=z->∀{Q:Prop},(¬Q->¬(OkE n E z/\z∉L.take k))->LayP n E L->Q:=fun {z} e {Q} hq hp=>Classical.byContradiction λhc=>hq hc (e▸hp k hk);generalize hz:L[k]=z at *
  have hnot:¬(OkE n E z/\z∉L.take k)->¬LayP n E L:=λhb hp=>hb (hz▸hp k hk);clear hkm;have hnk:0<=n\/n<0:=om;refine ai ?_;by_cases q1:z<0
  .have c1:decide (z<0)=true:=bp q1;refine ai (bS (kr 14 (M1 c1) rfl (Z0) ?_));refine bM (M0) ?_;refine dv (Z0) (ai (aD (M0) ?_));exact bU ⟨_,(by simp only[rs,rf14,am,aI,simprocAttr]<;>rfl),X2,.inr ⟨hnot λq=>by have:=q.1.1;omega,rfl⟩⟩
  have c1:decide (z<0)=false:=aX q1;obtain⟨i,rfl⟩:=sT (show 0<=z by omega);by_cases q2:E.length<=i
  .have c2:decide (((E.length:Nat):Int)<=((i:Nat):Int))=true:=bp om;refine ai (bS (kr 14 (M5 c1 e2 rv hEl c2) rfl (Z0) ?_));refine bM (M0) ?_;refine dv (Z0) (ai (aD (M0) ?_));exact bU ⟨_,(by simp only[rs,rf14,am,aI,simprocAttr]<;>rfl),X2,.inr ⟨hnot λq=>by have:=q.1.2.1;omega,rfl⟩⟩
  have c2:decide (((E.length:Nat):Int)<=((i:Nat):Int))=false:=aX om;have hiE:i<E.length:=om;obtain⟨vt,t1,t2,_⟩:=hL2.upto (hi:=k) (by rw[ah];omega);rw[<-eM]at t2;have hct:=mI (y:=((i:Nat):Int)) t2 (by rw[bK];omega);refine ai (bS (bE 14 (by simp only[am,aI,simprocAttr,c1,e2,rv,hEl,c2,e1,dY,bN,aC,t1]<;>rfl) rfl (by simp only[am,aI,simprocAttr,c1,e2,rv,hEl,c2,e1,dY,bN,aC,t1]) (by simp only[am,aI,simprocAttr,c1,e2,rv,hEl,c2,e1,dY,bN,aC,t1]<;>rfl) (hct) λrr h3 hq=>?_));obtain⟨rfl,x3⟩:=hq;have hany:(L.take k).any (((i:Nat):Int)==·)=decide (((i:Nat):Int)∈L.take k):=by
   rw[eq,aK,fU];constructor
   .rintro⟨y,h1,h2⟩;rw[beq_iff_eq.1 h2];exact h1
   .intro h;exact⟨_,h,by simp⟩
  rw[hany];have n3:=x3.nx;have X3:Ext h.next h h3:=X2.trans (x3.mono om);refine bM (M0) ?_;by_cases q3:((i:Nat):Int)∈L.take k
  .refine dv (by simp only[am,aI,simprocAttr,bp q3]) (ai (aD (M0) ?_));exact bU ⟨_,(by simp only[rs,rf14,am,aI,simprocAttr]<;>rfl),X3,.inr ⟨hnot λq=>q.2 q3,rfl⟩⟩
  refine dR (by simp only[am,aI,simprocAttr,aX q3]) (bQ ?_);have he3:=he.ext X3 (ab _);obtain⟨b3,p3,f1,f2,_⟩:=he3.at (fR (f:=eE) hiE);have hgd:E.getD i (0,0)=E[i]:=by rw[aj,ae hiE];rfl
  have hok:OkE n E ((i:Nat):Int)↔0<=E[i].1/\0<=E[i].2/\E[i].1<n/\E[i].2<n:=by
   unfold OkE;rw[dn,hgd];constructor
   .rintro⟨_,_,a,b,c,d⟩;exact⟨a,b,c,d⟩
   .rintro⟨a,b,c,d⟩;exact⟨om,om,a,b,c,d⟩
  have htl:tlK E i=E[i].1.toNat:=by unfold tlK;rw[hgd]
  have hhd:hdK E i=E[i].2.toNat:=by unfold hdK;rw[hgd]
  generalize E[i]=p at *
  obtain⟨pa,pb⟩:=p;simp only at hok htl hhd;have g3:h3.get h.next=some (.cells [.int .i64 n,ev] 2 false):=by rw[x3.gt _ om];exact g2
  have rv3:aA h3 h.next 1 1=some [ev]:=bJ g3 rfl;obtain⟨h4,w4,x4,g4,n4⟩:=gv (h:=h3) (z:=[.int .i64 0,.int .i64 0]) (cs:=[.int .i64 pa,.int .i64 pb]) (e:=2) rfl;refine ai (aD (by simp only[am,aI,simprocAttr,e2,rv3,f1,f2,eE,w4]<;>rfl) ?_);have X4:Ext h.next h h4:=X3.trans (x4.mono om);have s0:aA h4 h3.next 0 1=some [.int .i64 pa]:=bJ g4 rfl;have s1:aA h4 h3.next 1 1=some [.int .i64 pb]:=bJ g4 rfl;have g4g:h4.get h.next=some (.cells [.int .i64 n,ev] 2 false):=by rw[x4.gt _ om];exact g3
  have rn4:aA h4 h.next 0 1=some [.int .i64 n]:=bJ g4g rfl;refine ai (ai ?_);by_cases q4:(if pb<pa then pb else pa)<0
  .have c4:decide ((if pb<pa then pb else pa)<0)=true:=bp q4;refine aD (M4 s0 s1 @mn2K c4) ?_;refine dv (Z0) (ai (aD (M0) ?_));exact bU ⟨_,(by simp only[rs,rf14,am,aI,simprocAttr]<;>rfl),X4,.inr ⟨hnot λq=>by have:=hok.1 q.1;split at q4<;>omega,rfl⟩⟩
  have c4:decide ((if pb<pa then pb else pa)<0)=false:=aX q4;by_cases q5:n<=(if pa<pb then pb else pa)
  .have c5:decide (n<=(if pa<pb then pb else pa))=true:=bp q5;refine aD (M8 s0 s1 @mn2K c4 @mx2 e2 rn4 c5) ?_;refine dv (Z0) (ai (aD (M0) ?_));exact bU ⟨_,(by simp only[rs,rf14,am,aI,simprocAttr]<;>rfl),X4,.inr ⟨hnot λq=>by have:=hok.1 q.1;split at q5<;>omega,rfl⟩⟩
  have c5:decide (n<=(if pa<pb then pb else pa))=false:=aX q5;refine aD (M8 s0 s1 @mn2K c4 @mx2 e2 rn4 c5) ?_;refine dR (Z0) (bQ ?_);have hp4:0<=pa/\0<=pb/\pa<n/\pb<n:=by split at q4<;>split at q5<;>omega
  obtain⟨a,rfl⟩:=sT hp4.1;obtain⟨b,rfl⟩:=sT hp4.2.1;have htl:tlK E i=a:=htl;have hhd:hdK E i=b:=hhd;have k34:∀c,c<h2.next->h4.get c=h2.get c:=λc hc=>by rw[x4.gt _ om,x3.gt _ om]
  have hsl:∀(j:Nat) (e:AV×AV×Nat),es[j]?=some e->∀b n,e.2.1=.sl b 0 n n->b<h2.next:=λj e e1 b n e3=>by
   have hj:=(aF.1 e1).1;exact(j3.at_ j e _ e1 (ae (by have:=j3.len;omega))).lt e3
  have lkl:∀x,(lkL ml x).length<2^29:=λx=>by
   rw[j4];have:=BP E (nLK (L.take k)) x;unfold nLK at this;rw[ah,bK]at this;unfold nLK;omega
  obtain⟨x7,p7,n7,y7⟩:=mC (h:=h4) (o:=.cells [.int .i64 ((i:Nat):Int)] 1 false);have kg:∀c,c<h4.next->(h4.keep 1).get c=h4.get c:=λc hc=>by rw[AH.keep_get,if_neg om]
  have q7:(h4.keep 1).get h4.next=some .resv:=iA;have m7:MapL ((h4.keep 1).put h4.next (.cells [.int .i64 ((i:Nat):Int)] 1 false)) hA.next es c ml:=j3.cong λc _ hc=>by rw[y7 _ om,k34 _ hc]
  have gm7:((h4.keep 1).put h4.next (.cells [.int .i64 ((i:Nat):Int)] 1 false)).get h1.next=some (.mapo es c):=by rw[y7 _ om,k34 _ om];exact j2
  obtain⟨v,v',h8,h9,es',c',u1,u2,u3,u4,u5,u6,u7,u8,u9,u10,u11⟩:=m7.up gm7 om om a i p7 om (λj e e1 b n e3=>by have:=hsl j e e1 b n e3;omega) (by have:=lkl a;omega);have v1:aA (h4.keep 1) (h1.next+1) 2 1=some [.mp h1.next]:=bJ (by rw[kg _ om,k34 _ om];exact g2w) rfl;have v2:aA (h4.keep 1) h3.next 0 1=some [.int .i64 ((a:Nat):Int)]:=by rw[cU (kg _ om)];exact s0
  have v3:jr (h4.keep 1) .ki false .nils (.mp h1.next) (.int .i64 ((a:Nat):Int))=some v:=by rw[<-u1];exact Da (by rw[kg _ om,y7 _ om])
  have old7:∀c,c<h4.next->(∀(j:Nat) (e:AV×AV×Nat),es[j]?=some e->∀n,e.2.1≠.sl c 0 n n)->h8.get c=h4.get c/\(c≠h1.next->h9.get c=h4.get c):=λc hc hcn=>by
   obtain⟨o1,o2⟩:=u9 c om hcn;exact⟨by rw[o1,y7 _ hc],λhm=>by rw[o2 hm,y7 _ hc]⟩
  have nsl:∀c,c<hA.next\/h2.next<=c->∀(j:Nat) (e:AV×AV×Nat),es[j]?=some e->∀n,e.2.1≠.sl c 0 n n:=λc hc j e e1 n e3=>by
   have h1:=hsl j e e1 c n e3;have hj:=(aF.1 e1).1;rcases j3.at_ j e _ e1 (ae (by have:=j3.len;omega))with⟨q,_⟩|⟨b',m',hb',q,_⟩
   .rw[q]at e3;cases e3
   .rw[q]at e3;cases e3;omega
  have w1:aA h8 (h1.next+1) 2 1=some [.mp h1.next]:=bJ (by rw[(old7 _ om (nsl _ om)).1,k34 _ om];exact g2w) rfl;have w2:aA h8 h3.next 0 1=some [.int .i64 ((a:Nat):Int)]:=by rw[cU (old7 _ om (nsl _ om)).1];exact s0
  refine ai (yE (by simp only[am,aI,simprocAttr,e6,v1,v2,v3,fz,eV q7,u2,w1,w2,u4]<;>rfl) ?_);have n9:h9.next=h4.next+2:=om;have G9:h9.get (h1.next+1)=some (.cells [.int .i64 n,ev,.mp h1.next] 3 false):=by rw[(old7 _ om (nsl _ om)).2 om,k34 _ om];exact g2w
  have S1:aA h9 h3.next 1 1=some [.int .i64 ((b:Nat):Int)]:=by rw[cU ((old7 _ om (nsl _ om)).2 om)];exact s1
  obtain⟨X7,P7,N7,Y7⟩:=mC (h:=h9) (o:=.cells [.int .i64 ((i:Nat):Int)] 1 false);have kg9:∀c,c<h9.next->(h9.keep 1).get c=h9.get c:=λc hc=>by rw[AH.keep_get,if_neg om]
  have Q7:(h9.keep 1).get h9.next=some .resv:=iA;have M7:MapL ((h9.keep 1).put h9.next (.cells [.int .i64 ((i:Nat):Int)] 1 false)) hA.next es' c' (lQ ml a i):=u6.cong λc _ hc=>Y7 _ hc;have GM7:((h9.keep 1).put h9.next (.cells [.int .i64 ((i:Nat):Int)] 1 false)).get h1.next=some (.mapo es' c'):=by rw[Y7 _ om];exact u5
  have hsl9:∀(j:Nat) (e:AV×AV×Nat),es'[j]?=some e->∀b n,e.2.1=.sl b 0 n n->b<h2.next\/b=h4.next+1:=λj e e1 b n e3=>by
   rcases u10 j e e1 b n e3 with q|⟨j',e',n',q1,q2⟩
   .right;omega
   .left;exact hsl j' e' q1 b n' q2
  obtain⟨V,V',H8,H9,ES,C',U1,U2,U3,U4,U5,U6,U7,U8,U9,U10,U11⟩:=M7.up GM7 om om b i P7 om (λj e e1 b n e3=>by have:=hsl9 j e e1 b n e3;omega) (by
   rw[tZ];have:=lkl b;split
   .rw[aB];simp;omega
   .omega)
  have V1:aA (h9.keep 1) (h1.next+1) 2 1=some [.mp h1.next]:=bJ (by rw[kg9 _ om];exact G9) rfl;have V2:aA (h9.keep 1) h3.next 1 1=some [.int .i64 ((b:Nat):Int)]:=by rw[cU (kg9 _ om)];exact S1
  have V3:jr (h9.keep 1) .ki false .nils (.mp h1.next) (.int .i64 ((b:Nat):Int))=some V:=by rw[<-U1];exact Da (by rw[kg9 _ om,Y7 _ om])
  have nsl9:∀c,c<hA.next\/(h2.next<=c/\c≠h4.next+1)->∀(j:Nat) (e:AV×AV×Nat),es'[j]?=some e->∀n,e.2.1≠.sl c 0 n n:=λc hc j e e1 n e3=>by
   have h1:=hsl9 j e e1 c n e3;have hj:=(aF.1 e1).1;rcases u6.at_ j e _ e1 (ae (by have:=u6.len;omega))with⟨q,_⟩|⟨b',m',hb',q,_⟩
   .rw[q]at e3;cases e3
   .rw[q]at e3;cases e3;omega
  have W1:aA H8 (h1.next+1) 2 1=some [.mp h1.next]:=bJ (by rw[(U9 _ om (nsl9 _ om)).1,Y7 _ om];exact G9) rfl;have W2:aA H8 h3.next 1 1=some [.int .i64 ((b:Nat):Int)]:=by rw[cU ((U9 _ om (nsl9 _ om)).1),cU (Y7 _ om)];exact S1
  refine yE (by simp only[am,aI,simprocAttr,e6,V1,V2,V3,fz,eV Q7,U2,W1,W2,U4]<;>rfl) ?_;refine⟨lQ (lQ ml a i) b i,⟨λj hj hjk=>?_,⟨ES,C',U5,U6⟩,λx=>?_,?_,Cz (Cz j6 a i) b i,?_,?_⟩,H6 ei en e1 e2 e6 e14⟩
  .by_cases hjk':j=k
   .subst hjk';rw[hz];exact⟨hok.2 om,q3⟩
   .exact j1 j hj om
  .have hnl:nLK (L.take (k+1))=nLK (L.take k)++[i]:=by
    unfold nLK;rw[bu hk,bR,hz];rfl
   rw[tZ,tZ,hnl,j4];unfold pO;rw[bL,bm,eB,bV,htl,hhd];by_cases qa:a=x<;>by_cases qb:b=x<;>simp[qa,qb]
  .rw[mm,mm];exact pX (pX j5)
  .have t1:=yR (lQ ml a i) b i;have t2:=yR ml a i;omega
  .refine⟨om,λc hc hn=>?_,λc hc=>?_⟩
   .have hcm:c≠h1.next:=hn;rw[(U9 c om (nsl9 c om)).2 hcm,Y7 _ om,(old7 c om (nsl c om)).2 hcm,k34 _ om];exact j8.gt c hc hn
   .rw[U8.ty c om,X7.ty c om,u8.ty c om,x7.ty c om,x4.ty c om,x3.ty c om];exact j8.ty c hc
 .rintro ml ts h2 ⟨j1,⟨es,c,j2,j3⟩,j4,j5,j6,j7,j8⟩ ⟨e1,e2,e6,e14,-⟩;simp only at e6;have hp:LayP n E L:=λk hk=>j1 k hk hk;have n2:=j8.nx;have X2:Ext h.next h h2:=⟨om,λc hc=>(j8.gt c om om).trans (XA.gt c hc),λc hc=>(j8.ty c om).trans (XA.ty c hc)⟩
  rw[cZ]at j4;refine ai (aD (M1 e6) ?_);refine bU ⟨_,(by simp only[rs,rf14,am,aI,simprocAttr]<;>rfl),X2,.inl ⟨hp,h1.next+1,rfl,⟨ev,h1.next,by rw[j8.gt _ om om];exact g1,he.ext X2 (ab _),es,c,ml,_,j2,j3,λx=>by rw[j4,qD],j5,j6,om⟩,λi hi=>?_,om,?_⟩⟩
  .obtain⟨z,hz,rfl⟩:=bG.1 hi;obtain⟨o1,o2,o3,o4,o5,o6⟩:=hp.nodup.2 z hz;have hlt:z.toNat<E.length:=om;have hgd:E.getD z.toNat (0,0)=E[z.toNat]:=by rw[aj,ae hlt];rfl
   have t1:(grK E L hp.nodup.1).tl z.toNat=E[z.toNat].1.toNat:=by show tlK E z.toNat=_;unfold tlK;rw[hgd]
   have t2:(grK E L hp.nodup.1).hd z.toNat=E[z.toNat].2.toNat:=by show hdK E z.toNat=_;unfold hdK;rw[hgd]
   rw[hgd]at o3 o4 o5 o6;refine⟨?_,om,om⟩;rw[ae hlt,t1,t2];congr 1;exact Prod.ext (by simp only[];omega) (by simp only[];omega)
  .show(nLK L).length<_;unfold nLK;rw[ah];omega
open Go.Am
open Go.Kur
theorem qV(hm:m.Pairwise (·<=·)):iY l=m↔l.Perm m:=by
 constructor
 .rintro rfl;exact(fy l).symm
 .intro h;have hp:(iY l).Perm m:=(fy l).trans h;exact List.Perm.eq_of_pairwise (le:=(·<=·)) (λa b _ _ h1 h2=>Nat.le_antisymm h1 h2) (qW l) hm hp
theorem vV{α β:Type}{F:List α}{A B:α->List β}(hA:(F.flatMap A).Nodup)(hs:∀w∈F,(B w).Nodup/\∀x∈B w,x∈A w):(F.flatMap B).Nodup:=by
 induction F with
 |nil=>exact fI
 |cons w r ih =>
   rw[bm]at hA |-;obtain⟨a1,a2,a3⟩:=aN.1 hA;rw[aN];refine⟨(hs w (aM ..)).1,ih a2 λx hx=>hs x (aQ _ hx),λx hx y hy=>?_⟩;obtain⟨u,hu,hyu⟩:=bH.1 hy;exact a3 x ((hs w (aM ..)).2 x hx) y (bH.2 ⟨u,hu,(hs u (aQ _ hu)).2 y hyu⟩)
theorem qr{F:List Kur.Way}(h:(F.flatMap λw=>w.2.2).Nodup){u:Kur.Way}(hu:u∈F)(hw:w∈F)(h1:e∈u.2.2)(h2:e∈w.2.2):u=w:=by
 induction F with
 |nil=>cases hu
 |cons a r ih =>
   rw[bm]at h;obtain⟨a1,a2,a3⟩:=aN.1 h;rcases ao.1 hu with rfl|hu'
   .rcases ao.1 hw with rfl|hw
    .rfl
    .exact absurd rfl (a3 e h1 e (bH.2 ⟨w,hw,h2⟩))
   .rcases ao.1 hw with rfl|hw'
    .exact absurd rfl (a3 e h2 e (bH.2 ⟨u,hu',h1⟩))
    .exact ih a2 hu' hw'
variable {g:Gr}{N:Nat}
def mh(g:Gr)(N:Nat):Prop:=∀i∈g.E,g.tl i<N/\g.hd i<N
theorem lN(hb:mh g N)(h:e∈g.ends x):x<N:=by
 obtain⟨h1,h2⟩:=mem_ends.1 h;have:=hb e h1;omega
theorem FX(hb:mh g N)(h:Wk g w.1 w.2.2 w.2.1):w.1<N/\w.2.1<N:=by
 obtain⟨e,_,h2⟩:=h.last;refine⟨?_,lN hb h2⟩;cases hq:w.2.2 with
 |nil=>exact absurd hq h.ne
 |cons a r =>
   rw[hq]at h;exact lN hb h.head
theorem kP:((eX g N).flatMap λw=>w.2.2).Nodup:=((gw (g:=g) N).pm.nodup_iff).2 g.nd
theorem AQ(hb:mh g N)(hx:g.deg x≠2)(he:e∈g.ends x) :
 ∃w∈eX g N,((w.1=x/\w.2.2.head?=some e/\g.deg w.2.1≠2)\/(w.2.1=x/\w.2.2.getLast?=some e/\g.deg w.1≠2))/\e∈w.2.2/\w.2.2.length<=g.E.length:=by
 have v:=gw (g:=g) N;have hE:e∈(eX g N).flatMap λw=>w.2.2:=v.pm.mem_iff.2 (mem_ends.1 he).1;obtain⟨w,hw,hew⟩:=bH.1 hE;obtain⟨hk,_⟩:=v.wk w hw;have hlt:=FX hb hk;have hlen:w.2.2.length<=g.E.length:=by
  rw[<-v.pm.length_eq];have:∀(F:List Kur.Way),w∈F->w.2.2.length<=(F.flatMap λw=>w.2.2).length:=by
   intro F;induction F with
   |nil=>intro h;cases h
   |cons a r ih =>
     intro h;rw[bm,aB];rcases ao.1 h with rfl|h
     .omega
     .have:=ih h;omega
  exact this _ hw
 refine⟨w,hw,?_,hew,hlen⟩;rcases hk.edge hew he hx with⟨h1,h2⟩|⟨h1,h2⟩
 .refine .inl ⟨h1.symm,h2,λh=>?_⟩;have hc:=v.cl w.2.1 hlt.2 h w hw (by unfold atW;simp);exact hx (by rw[h1,hc];exact h)
 .refine .inr ⟨h1.symm,h2,λh=>?_⟩;have hc:=v.cl w.1 hlt.1 h w hw (by unfold atW;simp);exact hx (by rw[h1,<-hc];exact h)
theorem Jh(hb:mh g N)(hx:g.deg x≠2):Alive g x:=λe he=>by
 obtain⟨w,hw,h,_,hl⟩:=AQ hb hx he;have hk:=((gw (g:=g) N).wk w hw).1;rcases h with⟨rfl,h2,h3⟩|⟨rfl,h2,h3⟩
 .exact⟨w.2.2,w.2.1,hk,h2,h3,hl⟩
 .exact⟨w.2.2.reverse,w.1,hk.rev,by rw[Cv];exact h2,h3,by rw[kB];exact hl⟩
theorem Ae(hb:mh g N)(hx:g.deg x≠2)(he:e∈g.ends x) :
 ∃w∈eX g N,e∈w.2.2/\(fr g x e).1.Perm w.2.2/\((w.1=x/\w.2.2.head?=some e/\(fr g x e).2=w.2.1/\g.deg w.2.1≠2)\/(w.2.1=x/\w.2.2.getLast?=some e/\(fr g x e).2=w.1/\g.deg w.1≠2)):=by
 obtain⟨w,hw,h,hm,hl⟩:=AQ hb hx he;have hk:=((gw (g:=g) N).wk w hw).1;rcases h with⟨rfl,h2,h3⟩|⟨rfl,h2,h3⟩
 .have:=hk.far h3 h2 hl;unfold fr;rw[this];exact⟨w,hw,hm,.refl _,.inl ⟨rfl,h2,rfl,h3⟩⟩
 .have:=hk.rev.far h3 (e:=e) (f:=g.E.length) (by rw[Cv];exact h2) (by rw[kB];exact hl);unfold fr;rw[this];exact⟨w,hw,hm,gf _,.inr ⟨rfl,h2,rfl,h3⟩⟩
theorem zE(hn:NC (eX g N)):∀i∈g.E,g.tl i≠g.hd i:=λi hi e=>by
 refine Ff (g:=g) ?_ N hn;intro h;refine h (min (g.tl i) (g.hd i),max (g.tl i) (g.hd i),[i]) (bG.2 ⟨i,hi,rfl⟩) ?_;unfold eO;simp only[];omega
def hl2(x:Nat)(w:Kur.Way):List Nat:=(if w.1=x then w.2.2.head?.toList else [])++(if w.2.1=x then w.2.2.getLast?.toList else [])
theorem uF(hl:∀i∈g.E,g.tl i≠g.hd i)(x:Nat):(g.ends x).Nodup:=by
 have:(g.E.flatMap λi=>[i]).Nodup:=by simpa using g.nd
 refine vV (A:=λi=>[i]) this λi hi=>⟨?_,λy hy=>?_⟩
 .unfold Gr.at1;have:=hl i hi;by_cases h1:g.tl i=x<;>by_cases h2:g.hd i=x
  .omega
  .simp[h1,h2]
  .simp[h1,h2]
  .simp[h1,h2]
 .unfold Gr.at1 at hy;rcases aw.1 hy with hy|hy
  .split at hy
   .exact hy
   .cases hy
  .split at hy
   .exact hy
   .cases hy
theorem Fo(hb:mh g N)(hn:NC (eX g N))(hx:g.deg x≠2):(g.ends x).Perm ((eX g N).flatMap (hl2 x)):=by
 have v:=gw (g:=g) N;have hnd:((eX g N).flatMap (hl2 x)).Nodup:=by
  refine vV (A:=λw=>w.2.2) kP λw hw=>⟨?_,λy hy=>?_⟩
  .have hc:=hn w hw;unfold eO at hc;unfold hl2;by_cases h1:w.1=x<;>by_cases h2:w.2.1=x
   .omega
   .rw[if_pos h1,if_neg h2];cases w.2.2.head?<;>simp
   .rw[if_neg h1,if_pos h2];cases w.2.2.getLast?<;>simp
   .rw[if_neg h1,if_neg h2];simp
  .unfold hl2 at hy;rcases aw.1 hy with hy|hy
   .split at hy
    .rw[qS]at hy;exact List.mem_of_mem_head? hy
    .cases hy
   .split at hy
    .rw[qS]at hy;exact yJ hy
    .cases hy
 refine(gO (uF (zE hn) x) hnd).2 λe=>?_;constructor
 .intro he;obtain⟨w,hw,h,_⟩:=AQ hb hx he;refine bH.2 ⟨w,hw,?_⟩;unfold hl2;rw[aw];rcases h with⟨h1,h2,_⟩|⟨h1,h2,_⟩
  .left;rw[if_pos h1,h2];simp
  .right;rw[if_pos h1,h2];simp
 .intro he;obtain⟨w,hw,hy⟩:=bH.1 he;have hk:=(v.wk w hw).1;unfold hl2 at hy;rcases aw.1 hy with hy|hy
  .split at hy
   .rename_i h1
    rw[qS]at hy;cases hq:w.2.2 with
    |nil=>exact absurd hq hk.ne
    |cons a r =>
      rw[hq]at hk hy;cases hy;rw[<-h1];exact hk.head
   .cases hy
  .split at hy
   .rename_i h1
    rw[qS]at hy;obtain⟨e',q1,q2⟩:=hk.last;rw[q1]at hy;cases hy;rw[<-h1];exact q2
   .cases hy
theorem rN(hb:mh g N)(hn:NC (eX g N))(hx:g.deg x≠2):(fins g x (g.ends x)).Perm (nb ((eX g N).map prW) x):=by
 have v:=gw (g:=g) N;unfold fins;refine((Fo hb hn hx).map λe=>(fr g x e).2).trans ?_;rw[List.map_flatMap];unfold nb;rw[ko];have:∀w∈eX g N,(hl2 x w).map (λe=>(fr g x e).2)=(if (prW w).1=x then [(prW w).2]else [])++(if (prW w).2=x then [(prW w).1]else []):=λw hw=>by
  have hk:=(v.wk w hw).1;have hc:=hn w hw;unfold eO at hc;unfold hl2 prW;rw[bR];congr 1
  .split
   .rename_i h1
    cases hq:w.2.2 with
    |nil=>exact absurd hq hk.ne
    |cons a r =>
      simp only[vj,Option.toList_some,aS,jf];have he:a∈g.ends x:=by rw[hq]at hk;rw[<-h1];exact hk.head
      obtain⟨u,hu,hm,_,h⟩:=Ae hb hx he;have:=qr kP hw hu (e:=a) (by rw[hq];exact aM ..) hm;subst this;rcases h with⟨_,_,h4,_⟩|⟨h3,_⟩
      .rw[h4]
      .omega
   .rfl
  .split
   .rename_i h1
    obtain⟨a,q1,q2⟩:=hk.last;rw[q1];simp only[Option.toList_some,aS,jf];have he:a∈g.ends x:=by rw[<-h1];exact q2
    obtain⟨u,hu,hm,_,h⟩:=Ae hb hx he;have:=qr kP hw hu (e:=a) (yJ q1) hm;subst this;rcases h with⟨h3,_⟩|⟨_,_,h4,_⟩
    .omega
    .rw[h4]
   .rfl
 rw[sS,sS,da this]
theorem ru(hb:mh g N)(hn:NC (eX g N))(x:Nat)(hx:x<N):(nb ((eX g N).map prW) x).length=if g.deg x=2 then 0 else g.deg x:=by
 have v:=gw (g:=g) N;rw[BD,ko];have he:((eX g N).flatMap λw=>[(prW w).1,(prW w).2]).count x=ec (eX g N) x:=rfl;rw[he];split
 .rename_i h
  unfold ec;rw[List.count_eq_zero];intro hm;obtain⟨w,hw,hxw⟩:=bH.1 hm;refine hn w hw (v.cl x hx h w hw ?_);unfold pD at hxw;unfold atW;simp at hxw;simp;omega
 .rename_i h
  exact v.ct x (.inr h)
theorem Ds:g.ends x≠[]↔0<g.deg x:=by
 unfold Gr.deg;rw[iG]
theorem wG(hb:mh g N)(hn:NC (eX g N))(h:gZ g hs):hs=hds N ((eX g N).map prW):=by
 refine rise_ext h.1 (HZ N _) λx=>?_;rw[h.2];unfold hds;rw[aJ,aq,aK];constructor
 .rintro⟨h1,h2⟩;obtain⟨e,he⟩:=dE _ h1;have hx:=lN hb he;refine⟨hx,?_⟩;rw[ru hb hn x hx,if_neg h2];exact Ds.1 h1
 .rintro⟨h1,h2⟩;rw[ru hb hn x h1]at h2;split at h2
  .omega
  .exact⟨Ds.2 h2,‹_›⟩
theorem zL(hb:mh g N)(hx:g.deg x≠2):∀i∈fM g x,∃w∈eX g N,i∈w.2.2/\(w.1=x\/w.2.1=x):=λi hi=>by
 unfold fM zF at hi;obtain⟨e,he,hie⟩:=bH.1 hi;obtain⟨w,hw,_,hp,h⟩:=Ae hb hx he;exact⟨w,hw,hp.mem_iff.1 hie,h.elim (λq=>.inl q.1) λq=>.inr q.1⟩
theorem mS(hb:mh g N)(hl:∀x∈l,g.deg x≠2):∀i∈l.flatMap (fM g),i∈g.E:=λi hi=>by
 obtain⟨x,hx,hix⟩:=bH.1 hi;obtain⟨w,hw,hiw,_⟩:=zL hb (hl x hx) i hix;exact(gw (g:=g) N).pm.mem_iff.1 (bH.2 ⟨w,hw,hiw⟩)
theorem wg(hb:mh g N)(hn:NC (eX g N))(h:gZ g hs):∀i∈g.E,i∈hs.flatMap (fM g):=λi hi=>by
 have v:=gw (g:=g) N;obtain⟨w,hw,hiw⟩:=bH.1 (v.pm.mem_iff.2 hi);have hk:=(v.wk w hw).1;have hlt:=FX hb hk;have hd:g.deg w.1≠2:=λhd=>hn w hw (v.cl w.1 hlt.1 hd w hw (by unfold atW;simp));cases hq:w.2.2 with
 |nil=>exact absurd hq hk.ne
 |cons a r =>
   have he:a∈g.ends w.1:=by rw[hq]at hk;exact hk.head
   refine bH.2 ⟨w.1,(h.2 _).2 ⟨List.ne_nil_of_mem he,hd⟩,?_⟩;unfold fM zF;refine bH.2 ⟨a,he,?_⟩;obtain⟨u,hu,hm,hp,_⟩:=Ae hb hd he;have:=qr kP hw hu (e:=a) (by rw[hq];exact aM ..) hm;subst this;exact hp.mem_iff.2 hiw
theorem qB(h1:∀i∈l,i∈g.E)(h2:∀i∈g.E,i∈l):(fk [] l).length=g.E.length:=by
 have hnd:(fk [] l).Nodup:=qO fI;refine Nat.le_antisymm (len_le_of_sub hnd λi hi=>?_) (len_le_of_sub g.nd λi hi=>?_)
 .rcases nA.1 hi with h|h
  .cases h
  .exact h1 i h
 .exact nA.2 (.inr (h2 i hi))
theorem wp(hb:mh g N)(hl:∀x∈l,g.deg x≠2)(hw:w∈eX g N)(hc:eO w)(hd:g.deg w.1=2):(fk [] (l.flatMap (fM g))).length≠g.E.length:=by
 have v:=gw (g:=g) N;have hk:=(v.wk w hw).1;obtain⟨e,he⟩:=dE _ hk.ne;have hnm:e∉fk [] (l.flatMap (fM g)):=λh=>by
  rcases nA.1 h with h|h
  .cases h
  .obtain⟨x,hx,hix⟩:=bH.1 h;obtain⟨u,hu,heu,hor⟩:=zL hb (hl x hx) e hix;have:=qr kP hw hu he heu;subst this;unfold eO at hc;refine hl x hx ?_;rcases hor with q|q
   .rw[<-q];exact hd
   .rw[<-q,<-hc];exact hd
 have hnd:(fk [] (l.flatMap (fM g))).Nodup:=qO fI;have hE:e∈g.E:=hk.mem e he;have:(e::fk [] (l.flatMap (fM g))).length<=g.E.length:=len_le_of_sub (aY.2 ⟨hnm,hnd⟩) λi hi=>by
  rcases ao.1 hi with rfl|hi
  .exact hE
  .rcases nA.1 hi with h|h
   .cases h
   .exact mS hb hl i h
 rw[ar]at this;omega
theorem tJ(hb:mh g N)(hw:w∈eX g N)(hc:eO w)(hd:g.deg w.1≠2):w.1∈fF g w.1/\g.ends w.1≠[]:=by
 have v:=gw (g:=g) N;have hk:=(v.wk w hw).1;cases hq:w.2.2 with
 |nil=>exact absurd hq hk.ne
 |cons a r =>
   have he:a∈g.ends w.1:=by rw[hq]at hk;exact hk.head
   refine⟨?_,List.ne_nil_of_mem he⟩;unfold fF fins;rw[(fy _).mem_iff];refine bG.2 ⟨a,he,?_⟩;obtain⟨u,hu,hm,hp,h⟩:=Ae hb hd he;have:=qr kP hw hu (e:=a) (by rw[hq];exact aM ..) hm;subst this;unfold eO at hc;rcases h with⟨_,_,h4,_⟩|⟨_,_,h4,_⟩
   .rw[h4,hc]
   .exact h4
def kw(g:Gr):Prop:=∃hs,gZ g hs/\(∀x∈hs,g.deg x=4)/\mF g hs=true/\(fk [] (hs.flatMap (fM g))).length=g.E.length
def kG(g:Gr):Prop:=∃hs,gZ g hs/\(∀x∈hs,g.deg x=3)/\gU g hs=true/\(fk [] (fM g (hs.headD 0)++hs.flatMap (fM g))).length=g.E.length
theorem rF(hb:mh g N)(hn:NC (eX g N))(hx:g.deg x≠2)(hm:m.Pairwise (·<=·)):fF g x=m↔(nb ((eX g N).map prW) x).Perm m:=by
 unfold fF;rw[qV hm];have hp:=rN hb hn hx;exact⟨λh=>hp.symm.trans h,λh=>hp.trans h⟩
theorem Aa(g:Gr)(hb:mh g N):∃hs,gZ g hs:=⟨(List.range N).filter λx=>decide (g.ends x≠[]/\g.deg x≠2),List.pairwise_lt_range.filter _,λx=>by
 rw[aJ,aq,aK];refine⟨λh=>h.2,λh=>⟨?_,h⟩⟩;obtain⟨e,he⟩:=dE _ h.1;exact lN hb he⟩
theorem BJ(hb:mh g N):kw g↔NC (eX g N)/\CO N ((eX g N).map prW):=by
 by_cases hn:NC (eX g N)
 .rw[and_iff_right hn];have key:∀hs,gZ g hs->((∀x∈hs,g.deg x=4)/\mF g hs=true↔CO N ((eX g N).map prW)):=λhs h=>by
   have he:=wG hb hn h;unfold CO;rw[<-he];have hd:∀x∈hs,g.deg x≠2/\x<N:=λx hx=>by
    obtain⟨h1,h2⟩:=(h.2 x).1 hx;obtain⟨e,he⟩:=dE _ h1;exact⟨h2,lN hb he⟩
   have e1:(∀x∈hs,g.deg x=4)↔∀v∈hs,(nb ((eX g N).map prW) v).length=4:=by
    constructor
    .intro q x hx;rw[ru hb hn x (hd x hx).2,if_neg (hd x hx).1];exact q x hx
    .intro q x hx;have:=q x hx;rwa [ru hb hn x (hd x hx).2,if_neg (hd x hx).1]at this
   have e2:mF g hs=true↔hs.length=5/\∀x∈hs,(nb ((eX g N).map prW) x).Perm (hs.filter λy=>!decide (y=x)):=by
    unfold mF;rw[aL,aK,bZ];refine and_congr_right λ_=>?_;refine forall_congr' λx=>forall_congr' λhx=>?_;unfold yB;rw[beq_iff_eq];exact rF hb hn (hd x hx).1 ((h.1.imp λh=>pp h).filter _)
   rw[e1,e2]
  constructor
  .rintro⟨hs,h1,h2,h3,_⟩;exact(key hs h1).1 ⟨h2,h3⟩
  .intro hp;obtain⟨hs,h1⟩:=Aa g hb;obtain⟨h2,h3⟩:=(key hs h1).2 hp;exact⟨hs,h1,h2,h3,qB (mS hb λx hx=>((h1.2 x).1 hx).2) (wg hb hn h1)⟩
 .refine⟨?_,λh=>absurd h.1 hn⟩;rintro⟨hs,h1,h2,h3,h4⟩;exfalso;refine hn λw hw hc=>?_;by_cases hd:g.deg w.1=2
  .exact wp hb (λx hx=>((h1.2 x).1 hx).2) hw hc hd h4
  .obtain⟨m1,m2⟩:=tJ hb hw hc hd;unfold mF at h3;rw[aL,bZ]at h3;have:=h3.2 w.1 ((h1.2 _).2 ⟨m2,hd⟩);unfold yB at this;rw[beq_iff_eq]at this;rw[this,aJ]at m1;simp at m1
theorem Af(hb:mh g N):kG g↔NC (eX g N)/\xC N ((eX g N).map prW):=by
 by_cases hn:NC (eX g N)
 .rw[and_iff_right hn];have key:∀hs,gZ g hs->((∀x∈hs,g.deg x=3)/\gU g hs=true↔xC N ((eX g N).map prW)):=λhs h=>by
   have he:=wG hb hn h;unfold xC;rw[<-he];have hd:∀x∈hs,g.deg x≠2/\x<N:=λx hx=>by
    obtain⟨h1,h2⟩:=(h.2 x).1 hx;obtain⟨e,he⟩:=dE _ h1;exact⟨h2,lN hb he⟩
   have e1:(∀x∈hs,g.deg x=3)↔∀v∈hs,(nb ((eX g N).map prW) v).length=3:=by
    constructor
    .intro q x hx;rw[ru hb hn x (hd x hx).2,if_neg (hd x hx).1];exact q x hx
    .intro q x hx;have:=q x hx;rwa [ru hb hn x (hd x hx).2,if_neg (hd x hx).1]at this
   rw[e1];refine and_congr_right λ_=>?_;unfold gU;rw[aL,aK,bZ];cases hs with
   |nil=>simp
   |cons h0 r =>
     have hd0:=(hd h0 (aM ..)).1;have hT:∀y,y∈fF g h0↔y∈nb ((eX g N).map prW) h0:=λy=>by
      unfold fF;rw[(fy _).mem_iff];exact(rN hb hn hd0).mem_iff
     have hTp:(nb ((eX g N).map prW) h0).Perm (fF g h0):=(rN hb hn hd0).symm.trans (fy _).symm;have hS:ql g (h0::r) (fF g h0)=(h0::r).filter λy=>!sideB ((eX g N).map prW) h0 y:=by
      unfold ql sideB;refine hU λy _=>?_;congr 1;rw[decide_eq_decide];exact hT y
     have hok:∀x∈h0::r,(okH g (h0::r) (fF g h0) x=true↔if sideB ((eX g N).map prW) h0 x then(nb ((eX g N).map prW) x).Perm ((h0::r).filter λy=>!sideB ((eX g N).map prW) h0 y)/\((h0::r).filter λy=>!sideB ((eX g N).map prW) h0 y).length=3 else(nb ((eX g N).map prW) x).Perm (nb ((eX g N).map prW) h0)/\(nb ((eX g N).map prW) h0).length=3):=λx hx=>by
      unfold okH;rw[aL,beq_iff_eq,aK,hS];by_cases q:x∈fF g h0
      .have q2:sideB ((eX g N).map prW) h0 x=true:=bp ((hT x).1 q);rw[if_pos q,if_pos q2,rF hb hn (hd x hx).1 ((h.1.imp λh=>pp h).filter _)]
      .have q2:¬sideB ((eX g N).map prW) h0 x=true:=λe=>q ((hT x).2 (cE e));rw[if_neg q,if_neg q2,rF hb hn (hd x hx).1 (by unfold fF;exact qW _),hTp.length_eq];refine and_congr_left λ_=>⟨λt=>t.trans hTp.symm,λt=>t.trans hTp⟩
     constructor
     .rintro⟨q1,q2⟩;exact⟨h0,r,rfl,by simpa using q1,λx hx=>(hok x hx).1 (q2 x hx)⟩
     .rintro⟨h0',r',e,q1,q2⟩;cases e;exact⟨by simpa using q1,λx hx=>(hok x hx).2 (q2 x hx)⟩
  constructor
  .rintro⟨hs,h1,h2,h3,_⟩;exact(key hs h1).1 ⟨h2,h3⟩
  .intro hp;obtain⟨hs,h1⟩:=Aa g hb;obtain⟨h2,h3⟩:=(key hs h1).2 hp;have hne:hs.headD 0∈hs:=by
    unfold gU at h3;rw[aL,aK]at h3;cases hs with
    |nil=>simp at h3
    |cons a r=>exact aM ..
   refine⟨hs,h1,h2,h3,qB (λi hi=>?_) λi hi=>ep _ (wg hb hn h1 i hi)⟩;rcases aw.1 hi with hi|hi
   .exact mS hb (λx hx=>((h1.2 x).1 hx).2) i (bH.2 ⟨_,hne,hi⟩)
   .exact mS hb (λx hx=>((h1.2 x).1 hx).2) i hi
 .refine⟨?_,λh=>absurd h.1 hn⟩;rintro⟨hs,h1,h2,h3,h4⟩;exfalso;have h3':=h3;unfold gU at h3;rw[aL,aK,bZ]at h3;have hne:hs.headD 0∈hs:=by
   cases hs with
   |nil=>simp at h3
   |cons a r=>exact aM ..
  refine hn λw hw hc=>?_;by_cases hd:g.deg w.1=2
  .refine wp hb (l:=hs.headD 0::hs) (λx hx=>?_) hw hc hd (by rw[bm];exact h4);rcases ao.1 hx with rfl|hx
   .exact((h1.2 _).1 hne).2
   .exact((h1.2 x).1 hx).2
  .obtain⟨m1,m2⟩:=tJ hb hw hc hd;have:=h3.2 w.1 ((h1.2 _).2 ⟨m2,hd⟩);unfold okH at this;rw[aL,beq_iff_eq]at this;obtain⟨q,_⟩:=this;split at q
   .rename_i hT
    rw[q]at m1;unfold ql at m1;rw[aJ]at m1;have m2:=m1.2;rw[bp hT]at m2;cases m2
   .rename_i hT
    rw[q]at m1;exact hT m1
open Go.Kur
theorem ut{α β:Type}{f g:α->List β}:∀{l:List α},(∀x∈l,f x=g x)->l.flatMap f=l.flatMap g
 |[],_=>rfl
 |x::l,h=>by rw[bm,bm,h x (aM ..),ut λy hy=>h y (aQ _ hy)]
def enL:List (Nat×Nat)->Nat->Nat->List Nat
 |[],_,_=>[]
 |p::l,i,x=>(if p.1=x then [i]else [])++(if p.2=x then [i]else [])++enL l (i+1) x
theorem to:∀(l m:List (Nat×Nat)) (i x:Nat),enL (l++m) i x=enL l i x++enL m (i+l.length) x
 |[],_,_,_=>rfl
 |p::l,m,i,x=>by
   rw[aH,enL,to l m,enL,ar,show i+1+l.length=i+(l.length+1) by omega];simp only[bO]
def chE(t:Nat):Nat->Nat->Nat->List (Nat×Nat)
 |f,_,0=>[(f,t)]
 |f,nv,k+1=>(f,nv)::chE t nv (nv+1) k
theorem Dy{t:Nat}:∀{f nv k:Nat},(chE t f nv k).length=k+1
 |_,_,0=>rfl
 |f,nv,k+1=>by rw[chE,ar,Dy]
theorem yj{t:Nat}:∀{k f nv i x:Nat},f<nv->t<nv->enL (chE t f nv k) i x=(if f=x then [i]else [])++(if nv<=x/\x<nv+k then [i+(x-nv),i+(x-nv)+1]else [])++(if t=x then [i+k]else [])
 |0,f,nv,i,x,hf,ht=>by
   rw[chE,enL,enL,if_neg (c:=nv<=x/\x<nv+0) om];simp
 |k+1,f,nv,i,x,hf,ht=>by
   rw[chE,enL,yj (k:=k) (f:=nv) (nv:=nv+1) om om];have e9:i+1+k=i+(k+1):=om;by_cases h:nv=x
   .subst h;have h1:¬f=nv:=om;have h2:¬t=nv:=om;have h3:¬(nv+1<=nv/\nv<nv+1+k):=om;have h4:nv<=nv/\nv<nv+(k+1):=om;simp[h1,h2,h3]
   .rw[if_neg h,if_neg h,e9];by_cases h2:nv+1<=x/\x<nv+1+k
    .have h4:nv<=x/\x<nv+(k+1):=om;have h5:¬f=x:=om;have h6:¬t=x:=om;rw[if_pos h2,if_pos h4,if_neg h5,if_neg h6];simp only[bV,bt,fh,and_true];omega
    .have h4:¬(nv<=x/\x<nv+(k+1)):=om;rw[if_neg h2,if_neg h4];simp
section
variable {j x:Nat}
variable (B:Nat) (a b ks:Nat->Nat)
def sK:Nat->Nat
 |0=>0
 |j+1=>sK j+ks j
def mkE:Nat->List (Nat×Nat)
 |0=>[]
 |j+1=>mkE j++chE (b j) (a j) (B+sK ks j) (ks j)
variable {B a b ks}
theorem oO:∀{K:Nat},(mkE B a b ks K).length=sK ks K+K
 |0=>rfl
 |K+1=>by rw[mkE,aB,oO,Dy,sK];omega
def enH(a b ks:Nat->Nat)(K x:Nat):List Nat:=(List.range K).flatMap λj=>(if a j=x then [sK ks j+j]else [])++(if b j=x then [sK ks j+j+ks j]else [])
theorem Db{x:Nat}(hx:x<B):∀{K:Nat},(∀j,j<K->a j<B/\b j<B)->enL (mkE B a b ks K) 0 x=enH a b ks K x
 |0,_=>rfl
 |K+1,h=>by
   have hk:=h K om;rw[mkE,to,Db hx λj hj=>h j om,oO,yj om om,if_neg (c:=B+sK ks K<=x/\x<B+sK ks K+ks K) om];unfold enH;rw[cJ,bL];simp
theorem sU{K:Nat}(h:j<K):sK ks j+ks j<=sK ks K:=by
 induction K with
 |zero=>omega
 |succ K ih =>
   rw[sK];by_cases e:j=K
   .subst e;omega
   .have:=ih om;omega
theorem xL:∀{K:Nat},(∀j,j<K->a j<B/\b j<B)->(∀j t,j<K->t<ks j->enL (mkE B a b ks K) 0 (B+sK ks j+t)=[sK ks j+j+t,sK ks j+j+t+1])/\∀x,B+sK ks K<=x->enL (mkE B a b ks K) 0 x=[]
 |0,_=>⟨λj t hj=>by omega,λx _=>rfl⟩
 |K+1,h=>by
   have hk:=h K om;obtain⟨h1,h2⟩:=xL (K:=K) λj hj=>h j om;refine⟨λj t hj ht=>?_,λx hx=>?_⟩
   .rw[mkE,to,oO,yj om om,if_neg (c:=a K=_) om,if_neg (c:=b K=_) om];by_cases e:j=K
    .subst e;rw[h2 _ om,if_pos om];simp only[bV,bt,fh,and_true];omega
    .have:=sU (ks:=ks) (show j<K by omega);rw[h1 j t om ht,if_neg om];simp
   .rw[sK]at hx;rw[mkE,to,oO,yj om om,if_neg (c:=a K=_) om,if_neg (c:=b K=_) om,h2 x om,if_neg om];rfl
theorem CH:∀{K v:Nat},v<sK ks K->∃j t,j<K/\t<ks j/\v=sK ks j+t
 |0,v,h=>by rw[sK]at h;omega
 |K+1,v,h=>by
   rw[sK]at h;by_cases h1:v<sK ks K
   .obtain⟨j,t,q1,q2,q3⟩:=CH h1;exact⟨j,t,om,q2,q3⟩
   .exact⟨K,v-sK ks K,om,om,om⟩
theorem Ap:∀{K i:Nat},i<sK ks K+K->∃j t,j<K/\t<=ks j/\i=sK ks j+j+t
 |0,i,h=>by rw[sK]at h;omega
 |K+1,i,h=>by
   rw[sK]at h;by_cases h1:i<sK ks K+K
   .obtain⟨j,t,q1,q2,q3⟩:=Ap h1;exact⟨j,t,om,q2,q3⟩
   .exact⟨K,i-(sK ks K+K),om,om,om⟩
structure Mde(B K:Nat)(a b ks:Nat->Nat)(g:Gr):Prop where
 lt:∀j,j<K->a j<B/\b j<B/\a j≠b j
 en:∀x,g.ends x=enL (mkE B a b ks K) 0 x
 E:g.E=List.range (sK ks K+K)
variable {K:Nat}{g:Gr}
theorem Mde.old(M:Mde B K a b ks g)(hx:x<B):g.ends x=enH a b ks K x:=by
 rw[M.en,Db hx λj hj=>⟨(M.lt j hj).1,(M.lt j hj).2.1⟩]
theorem Mde.inn(M:Mde B K a b ks g){t:Nat}(hj:j<K)(ht:t<ks j):g.ends (B+sK ks j+t)=[sK ks j+j+t,sK ks j+j+t+1]:=by
 rw[M.en];exact(xL λj hj=>⟨(M.lt j hj).1,(M.lt j hj).2.1⟩).1 j t hj ht
theorem Mde.out(M:Mde B K a b ks g)(hx:B+sK ks K<=x):g.ends x=[]:=by
 rw[M.en];exact(xL λj hj=>⟨(M.lt j hj).1,(M.lt j hj).2.1⟩).2 x hx
theorem Mde.new(M:Mde B K a b ks g){x:Nat}(hx:B<=x):g.ends x=[]\/∃i,g.ends x=[i,i+1]:=by
 by_cases h:x<B+sK ks K
 .obtain⟨j,t,h1,h2,h3⟩:=CH (ks:=ks) (show x-B<sK ks K by omega);obtain rfl:x=B+sK ks j+t:=om;exact .inr ⟨_,M.inn h1 h2⟩
 .exact .inl (M.out om)
theorem Mde.fst(M:Mde B K a b ks g)(hj:j<K):sK ks j+j∈g.ends (a j):=by
 rw[M.old (M.lt j hj).1];exact bH.2 ⟨j,aq.2 hj,by rw[if_pos rfl];simp⟩
theorem Mde.lst(M:Mde B K a b ks g)(hj:j<K):sK ks j+j+ks j∈g.ends (b j):=by
 rw[M.old (M.lt j hj).2.1];exact bH.2 ⟨j,aq.2 hj,by rw[if_pos (c:=b j=b j) rfl];simp⟩
theorem oP{e y:Nat}(hx:e∈g.ends x)(hy:e∈g.ends y)(hn:x≠y):g.joins e x y:=by
 obtain⟨h1,h2⟩:=mem_ends.1 hx;obtain⟨_,h3⟩:=mem_ends.1 hy;exact⟨h1,om⟩
def vtx(B:Nat)(a ks:Nat->Nat)(j t:Nat):Nat:=if t=0 then a j else B+sK ks j+(t-1)
theorem Mde.vtx(M:Mde B K a b ks g){j t:Nat}(hj:j<K)(ht:t<=ks j):sK ks j+j+t∈g.ends (vtx B a ks j t):=by
 unfold Go.Proofs.YtlolkmcdimgplaaGreat.vtx;split
 .rename_i h;subst h;exact M.fst hj
 .rw[M.inn hj (show t-1<ks j by omega)];simp only[ao,bd,or_false];omega
theorem Mde.walk(M:Mde B K a b ks g){j:Nat}(hj:j<K):∀(d t:Nat),t+d=ks j->Wk g (Go.Proofs.YtlolkmcdimgplaaGreat.vtx B a ks j t) (List.range' (sK ks j+j+t) (d+1)) (b j)
 |0,t,h=>by
   have h1:=M.vtx hj (show t<=ks j by omega);have h2:=M.lst hj;rw[show sK ks j+j+ks j=sK ks j+j+t by omega]at h2;refine .one (oP h1 h2 ?_);have:=M.lt j hj;unfold Go.Proofs.YtlolkmcdimgplaaGreat.vtx;split
   .exact this.2.2
   .omega
 |d+1,t,h=>by
   have ih:=M.walk hj d (t+1) om;have e1:Go.Proofs.YtlolkmcdimgplaaGreat.vtx B a ks j (t+1)=B+sK ks j+t:=by unfold Go.Proofs.YtlolkmcdimgplaaGreat.vtx;rw[if_neg om];rfl
   have en:=M.inn hj (show t<ks j by omega);rw[e1]at ih;have dg:g.deg (B+sK ks j+t)=2:=by unfold Gr.deg;rw[en];rfl
   have nx:g.nxt (B+sK ks j+t) (sK ks j+j+t)=sK ks j+j+t+1:=by
    unfold Gr.nxt;rw[en];simp only[AL,ph];omega
   rw[km,km];rw[show sK ks j+j+(t+1)=g.nxt (B+sK ks j+t) (sK ks j+j+t) by rw[nx];rfl,km]at ih;have h1:=M.vtx hj (show t<=ks j by omega);rw[show sK ks j+j+t+1=g.nxt (B+sK ks j+t) (sK ks j+j+t) from nx.symm];refine .cons (oP h1 (by rw[en];simp) ?_) dg ih;have:=M.lt j hj;unfold Go.Proofs.YtlolkmcdimgplaaGreat.vtx;split<;>omega
theorem Mde.len(M:Mde B K a b ks g)(hj:j<K):ks j+1<=g.E.length:=by
 have:=sU (ks:=ks) hj;rw[M.E,br];omega
theorem Mde.fr1(M:Mde B K a b ks g)(hd:∀x,x<B->g.deg x≠2)(hj:j<K):fr g (a j) (sK ks j+j)=(List.range' (sK ks j+j) (ks j+1),b j) :=
 (M.walk hj (ks j) 0 om).far (hd _ (M.lt j hj).2.1) (by rw[km];rfl) (by rw[List.length_range'];exact M.len hj)
theorem Mde.fr2(M:Mde B K a b ks g)(hd:∀x,x<B->g.deg x≠2)(hj:j<K):(fr g (b j) (sK ks j+j+ks j)).2=a j:=by
 have w:=(M.walk hj (ks j) 0 om).rev;have:=w.far (e:=sK ks j+j+ks j) (hd _ (M.lt j hj).1) (by
  rw[Cv,List.getLast?_range'];simp) (f:=g.E.length) (by rw[kB,List.length_range'];exact M.len hj)
 unfold fr;rw[this];rfl
theorem Mde.fins(M:Mde B K a b ks g)(hd:∀x,x<B->g.deg x≠2){x:Nat}(hx:x<B) :
 fins g x (g.ends x)=(List.range K).flatMap λj=>(if a j=x then [b j]else [])++(if b j=x then [a j]else []):=by
 rw[M.old hx];unfold Go.Proofs.YtlolkmcdimgplaaGreat.fins enH;rw[List.map_flatMap];refine ut λj hj=>?_;have hj:=aq.1 hj;rw[bR];congr 1
 .split
  .rename_i h
   subst h;rw[List.map_singleton,M.fr1 hd hj]
  .rfl
 .split
  .rename_i h
   subst h;rw[List.map_singleton,M.fr2 hd hj]
  .rfl
theorem Mde.bel(M:Mde B K a b ks g):mh g (B+sK ks K):=λi hi=>by
 refine⟨?_,?_⟩
 .refine kj λh=>?_;have:=mem_ends.2 ⟨hi,.inl rfl⟩;rw[M.out h]at this;cases this
 .refine kj λh=>?_;have:=mem_ends.2 ⟨hi,.inr rfl⟩;rw[M.out h]at this;cases this
theorem Mde.marks(M:Mde B K a b ks g)(hd:∀x,x<B->g.deg x≠2):∀i∈g.E,i∈(List.range B).flatMap (fM g):=λi hi=>by
 rw[M.E,aq]at hi;obtain⟨j,t,h1,h2,rfl⟩:=Ap hi;refine bH.2 ⟨a j,aq.2 (M.lt j h1).1,?_⟩;unfold fM zF;refine bH.2 ⟨_,M.fst h1,?_⟩;rw[M.fr1 hd h1];exact List.mem_range'_1.2 ⟨om,om⟩
theorem Mde.heads(M:Mde B K a b ks g)(hd:∀x,x<B->g.deg x≠2/\g.ends x≠[]):gZ g (List.range B):=⟨List.pairwise_lt_range,λx=>by
 rw[aq];constructor
 .intro h;exact⟨(hd x h).2,(hd x h).1⟩
 .rintro⟨h1,h2⟩;refine kj λh=>?_;rcases M.new h with h3|⟨i,h3⟩
  .exact h1 h3
  .exact h2 (by unfold Gr.deg;rw[h3];rfl)⟩
def dgH(a b:Nat->Nat)(K x:Nat):Nat:=((List.range K).flatMap λj=>(if a j=x then [()]else [])++(if b j=x then [()]else [])).length
theorem Mde.deg(M:Mde B K a b ks g){x:Nat}(hx:x<B):g.deg x=dgH a b K x:=by
 unfold Gr.deg dgH;rw[M.old hx];unfold enH;rw[List.length_flatMap,List.length_flatMap];congr 2;funext j;rw[aB,aB];congr 1<;>split<;>rfl
end
end Go.Proofs.YtlolkmcdimgplaaGreat
