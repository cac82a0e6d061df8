/- JoinJoins' law in the clean machine. -/
import Derived.Test.YtklpoimdclflmaaGreatDoorTTAZ
import Derived.Test.YtklpoimdclflmaaGreatDoorTAmSrt
import Derived.Shelf.Slices.In.SortAlone
import Derived.Deep.QuietTactic
import Derived.BigQuiet
set_option linter.all false
namespace Go.Proofs.YtklpoimdclflmaaGreatDoor
open Go.Am
open Go.Blk (Gr Lst canon)
variable {E:List (Int×Int)}{K:Bs}{a:Option Addr}{cap:Nat}{ks:List PRow}{w:World}{σ:Sg}
def KE:skH0=AH.zero.keep 4083:=by kernel_rfl
abbrev P0:=List Int×Nat×List (List Int)
def QR0(h:AH)(a:AV)(L:List P0):Prop :=
 ∃xs:List (AV×AV),Sl h 2 a (xs.map f2)/\xs.length=L.length/\∀(i:Nat) (x:AV×AV) (p:P0),xs[i]?=some x->L[i]?=some p->SlI h x.1 p.1/\fP x.2=some (.int .i64 (p.2.1:Nat))/\(p.2.1<=100->SlL h x.2 p.2.2)
def QR0.stay{h h':AH}{a:AV}{L:List P0}(q:QR0 h a L)(hk:∀b o,h.get b=some o->h'.get b=some o):QR0 h' a L:=by
 obtain⟨xs,h1,h2,h3⟩:=q;refine⟨xs,Sl.stay hk h1,h2,λi x p e1 e2=>?_⟩;obtain⟨k1,k2,k3⟩:=h3 i x p e1 e2;exact⟨Sl.stay hk k1,k2,λq=>SlL.stay hk (k3 q)⟩
def QR0.ext{h h':AH}{a:AV}{L:List P0}(q:QR0 h a L)(hx:Ext h.next h h'):QR0 h' a L:=by
 obtain⟨xs,h1,h2,h3⟩:=q;refine⟨xs,h1.ext hx (ab _),h2,λi x p e1 e2=>?_⟩;obtain⟨k1,k2,k3⟩:=h3 i x p e1 e2;exact⟨k1.ext hx (ab _),k2,λq=>(k3 q).ext hx⟩
def QR0.at{h:AH}{a:AV}{L:List P0}(q:QR0 h a L){i:Nat}(hi:i<L.length):∃b o x y,jZ 2 a (.int .i64 (i:Nat))=some (.ptr b o)/\ai h b o 2=some [x,y]/\SlI h x L[i].1/\fP y=some (.int .i64 (L[i].2.1:Nat))/\(L[i].2.1<=100->SlL h y L[i].2.2)/\b<h.next:=by
 obtain⟨xs,h1,h2,h3⟩:=q;have hx:i<xs.length:=om;obtain⟨b,o,q1,q2,q3,q4⟩:=h1.at (cm (f:=f2) hx);obtain⟨k1,k2,k3⟩:=h3 i _ _ (aj hx) (aj hi);exact⟨b,o,_,_,q1,q2,k1,k2,k3,q4⟩
def Few(p:P0):Prop:=p.1.length<=100/\p.2.1<=100/\∀l∈p.2.2,l.length<=200
def pl2(L:List P0):List Pl2:=L.map λp=>(p.1,p.2.2)
variable {L:List P0}
def QR0.few{h:AH}{a:AV}(q:QR0 h a L)(hf:∀j (hj:j<L.length),Few L[j]) :
 QR h a (pl2 L)/\(pl2 L).length=L.length/\(∀p∈pl2 L,p.1.length<=100)/\(∀p∈pl2 L,p.2.length<=100)/\∀p∈pl2 L,∀l∈p.2,l.length<=200:=by
 obtain⟨xs,h1,h2,h3⟩:=q;have all:∀(i:Nat) (hi:i<L.length),Few L[i]/\L[i].2.2.length=L[i].2.1:=λi hi=>by
  have:=hf i hi;obtain⟨k1,k2,k3⟩:=h3 i _ _ (aj om) (aj hi);have hl:=(k3 this.2.1).len;rw[k2]at hl;simp only[aa,AV.int.injEq,true_and]at hl;exact⟨this,om⟩
 have mem:∀p∈pl2 L,∃i,∃hi:i<L.length,p=(L[i].1,L[i].2.2):=λp hp=>by
  obtain⟨q,hq,rfl⟩:=bp.1 hp;obtain⟨i,hi,rfl⟩:=iI.1 hq;exact⟨i,hi,rfl⟩
 have len:(pl2 L).length=L.length:=ah ..;refine⟨⟨xs,h1,by rw[len];exact h2,λi x p e1 e2=>?_⟩,len,λp hp=>?_,λp hp=>?_,λp hp=>?_⟩
 .unfold pl2 at e2;rw[aV]at e2;obtain⟨q,hq,rfl⟩:=aG.1 e2;obtain⟨k1,k2,k3⟩:=h3 i x q e1 hq;obtain⟨hi,rfl⟩:=au.1 hq;exact⟨k1,k3 (hf i hi).2.1⟩
 .obtain⟨i,hi,rfl⟩:=mem p hp;exact(hf i hi).1
 .obtain⟨i,hi,rfl⟩:=mem p hp;have:=all i hi;exact cu (Nat.le_of_eq this.2) this.1.2.1
 .obtain⟨i,hi,rfl⟩:=mem p hp;exact(hf i hi).2.2
def Fs{n:Nat}{order:List Int}{outs:List (List Int)}(hE:InG n E)(hp:PlanP n E order outs):order.length=n/\outs.length=n/\∀l∈outs,l.length<=E.length:=by
 refine⟨by rw[hp.1.length_eq,kK],hp.2.1,λl hl=>?_⟩;obtain⟨x,hx,rfl⟩:=iI.1 hl;have ho:=hp.2.2 x (by have:=hp.2.1;omega);rw[fT hx]at ho;have:=qA (l:=outs[x]) (m:=jX E.length) ho.nodup λi hi=>by
  obtain⟨j,rfl,h1,_⟩:=(gV hE).1 (ho.mem.1 hi);exact fA.2 ⟨om,om⟩
 rwa [kK]at this
set_option maxHeartbeats 4000000 in
def FJ{os:List AO}{n:Int}{ev qv:AV}{ne np:Nat}(hos:os.length=4082)(hle:fP ev=some (.int .i64 (ne:Nat)))(he:SlE (news os AH.zero) ev E)(hlq:fP qv=some (.int .i64 (np:Nat)))(hq0:np<=40->L.length=np/\QR0 (news os AH.zero) qv L) :
 C prg 3 [.agg [.int .i64 n,ev],qv] (news os AH.zero) λv _=>v=.bool true:=by
 have hnx:(news os AH.zero).next=4090:=by rw[wX,hos];rfl
 obtain⟨qc,qo⟩:=mS hlq;refine Oj rfl ?_;refine ae (ak (Mi0) ?_);have hsp:=EG (f:=4) KD KE (os:=os++[.cells [.int .i64 n,ev] 2 false]) (by rw[aJ,hos];rfl) (by decide);rw[<-jq]at hsp;have hk0:∀b o,(news os AH.zero).get b=some o->((news os AH.zero).new (.cells [.int .i64 n,ev] 2 false)).get b=some o:=λb x hb=>by
  rw[AH.get_new,if_neg (by have:=AH.lt_of_get hb;omega)];exact hb
 have gG:((news os AH.zero).new (.cells [.int .i64 n,ev] 2 false)).get (news os AH.zero).next=some (.cells [.int .i64 n,ev] 2 false):=by rw[AH.get_new,if_pos rfl]
 generalize (news os AH.zero).new (.cells [.int .i64 n,ev] 2 false)=h1 at *
 generalize (news os AH.zero).next=nx at *
 subst hnx;refine ae (ae (bM (jW (Z0) (M0) (hsp) λr h2 hq=>?_)));obtain⟨rfl,hn2,hk2⟩:=hq;refine bI (M0) ?_;refine dC (Z0) (bz ?_);have st:∀b o,(news os AH.zero).get b=some o->h2.get b=some o:=λb o hb=>hk2 b o (hk0 b o hb);have he2:SlE h2 ev E:=Sl.stay st he;have hq2:np<=40->L.length=np/\QR0 h2 qv L:=λq=>⟨(hq0 q).1,(hq0 q).2.stay st⟩
 clear he hq0 hsp hk0 st;have gG2:=hk2 _ _ gG;have rG:ai h2 4090 0 2=some [.int .i64 n,ev]:=by rw[aR gG2];rfl
 have el:E.length=ne:=by
  have:=he2.len;rw[hle,ah]at this;simp only[aa,AV.int.injEq,true_and]at this;omega
 refine ae (ae (bM (bj 1 (Mi1 rG) rfl (Zi1 rG) (Mi1 rG) (CD (n:=n) he2) λr h3 hq=>?_)));obtain⟨rfl,x3⟩:=hq;have n3:=x3.nx;cases hb13:((decide (20<n)&&fC n E)||decide (30<E.length))with
 |true =>
   refine bI (M0) ?_;refine cZ (Z0) (ae (ak (M0) ?_));exact bu ⟨.bool true,(by simp only[rs,rf3,am,aL,simprocAttr]<;>rfl),rfl⟩
 |false =>
 by_cases q40:40<np
 .have c1:decide ((40:Int)<((np:Nat):Int))=true:=aH om;refine bI (M2 hlq c1) ?_;refine cZ (Z0) (ae (ak (M0) ?_));exact bu ⟨.bool true,(by simp only[rs,rf3,am,aL,simprocAttr]<;>rfl),rfl⟩
 have c1:decide ((40:Int)<((np:Nat):Int))=false:=aw om;refine bI (M2 hlq c1) ?_;refine dC (Z0) (bz ?_);obtain⟨hLn,hq3⟩:=hq2 om;have hq3:=hq3.ext x3;have he3:=he2.ext x3 (ab _);clear hq2 c1;simp only[Bool.or_eq_false_iff,nj,ce]at hb13;obtain⟨hb13,hE30⟩:=hb13;refine ae (ae (ak (M1 hlq) ?_))
 refine fi (α:=Unit) (N:=np) (λ_ _=>[(1,qv),(2,.ptr 4090 0),(23,qv)]) (λk _ h'=>Ext h3.next h3 h'/\∀j (hj:j<L.length),j<k->Few L[j]) () (λ_ _=>rfl) om (Hi0)
  ⟨Oh,λj _ hj=>absurd hj (gz _)⟩ ?_ ?_
 .rintro k _ ts h4 hk ⟨jx,jf⟩ ⟨ei,en,e1,e2,e23,-⟩;simp only at ei en e1 e2 e23;have n4:=jx.nx;have hkl:k<L.length:=om;obtain⟨b1,o1,x,y,a1,r1,s1,s2,s3,lb1⟩:=hq3.at hkl;have hjf:∀F:Few L[k],∀j (hj:j<L.length),j<k+1->Few L[j]:=λF j hj hjk=>by
   by_cases e:j=k
   .subst e;exact F
   .exact jf j hj om
  generalize L[k]=p at *
  obtain⟨xc,xo⟩:=Sl.cells s1;obtain⟨yc,yo⟩:=mS s2;obtain⟨h5,w5,x5,g5,n5⟩:=gD (h:=h4) (z:=[.nils,.nils]) (cs:=[x,y]) (e:=2) rfl;have r14:ai h4 b1 o1 2=some [x,y]:=by rw[bi (jx.gt _ lb1)];exact r1
  refine ae (ak (M7 ei e23 a1 r14 xo yo w5) ?_);have X5:Ext h3.next h3 h5:=jx.trans (x5.mono om);have r5:ai h5 h4.next 0 2=some [x,y]:=by rw[aR g5];rfl
  have hol:=s1.len;rw[ah]at hol;refine ae (bM (bj 2 (M1 r5) rfl (Z1 r5) (M1 r5) (IY (n:=0) (ne:=0) (ev:=.nils) (outs:=p.2.2) rfl hol s2 (λq=>(s3 q).ext X5)) λr h6 hq=>?_));obtain⟨⟨b,rfl,hb⟩,x6⟩:=hq;refine bI (M0) ?_;cases b with
  |true =>
    refine cZ (Z0) (ae (ak (M0) ?_));exact bu ⟨.bool true,(by simp only[rs,rf3,am,aL,simprocAttr]<;>rfl),rfl⟩
  |false =>
    obtain⟨_,f2,f3,f4⟩:=hb rfl;refine dC (Z0) (bz ?_);exact⟨(),⟨X5.trans (x6.mono om),hjf ⟨f2,f3,f4⟩⟩,H5 ei en e1 e2 e23⟩
 rintro _ ts h4 ⟨jx,jf⟩ ⟨e1,e2,_,-⟩;simp only at e1 e2;obtain⟨hQ,hPl,hp1,hp2,hp3⟩:=hq3.few λj hj=>jf j hj om;have hQ:=hQ.ext jx;have he4:=he3.ext jx (ab _);have n4:=jx.nx;have gG4:h4.get 4090=some (.cells [.int .i64 n,ev] 2 false):=by rw[jx.gt _ om,x3.gt _ om];exact gG2
 rw[hLn]at hPl;generalize pl2 L=ps at *
 clear hq3 jf he2 he3 jx;have rG4:ai h4 4090 0 2=some [.int .i64 n,ev]:=by rw[aR gG4];rfl
 have p1:∀p∈ps,p.1.length<=200:=λp hp=>by have:=hp1 p hp;omega
 have p2:∀p∈ps,p.2.length<=200:=λp hp=>by have:=hp2 p hp;omega
 have dec:((∀{h:AH},SlE h ev E->QR h qv ps->C prg 7 [.agg [.int .i64 n,ev],qv] h λr h'=>Ext h.next h h'/\r=.tup [.agg [.nils,.nils],.int .i64 1])/\(∀{h:AH},SlE h ev E->QR h qv ps->C prg 8 [.agg [.int .i64 n,ev],qv] h λr h'=>Ext h.next h h'/\r=.tup [.agg [.nils,.nils],.bool false])) \/
  (ft n E/\∀(hE:InG n.toNat E) (hL:∀i,i<E.length->tlE E i≠hdE E i) l,Lst (grE n.toNat E hE hL) l->ji n.toNat E (canon E.length l) ps):=by
  by_cases hg:¬ft n E
  .exact .inl ⟨λhe _=>FK he om hg,λhe _=>Ff he om hg⟩
  have hg:ft n E:=Classical.byContradiction hg;have hm:=hg.1;have hn:n=((n.toNat:Nat):Int):=by
   have:=hm;unfold fC at this;simp only[aU,aK]at this;omega
  have hL:=pG hg;clear gG4 rG4 gG gG2 rG hb13;generalize n.toNat=nn at *
  subst hn;have hE:=km hm;obtain⟨l,hlst⟩:=Go.Blk.lst_ex (grE nn E hE hL);obtain⟨s,hsn,hs0,_⟩:=ur hg hE;have hs:=qW hE (by have:=hg.2.2.2.2;rwa [aO]at this) hsn hs0;by_cases hok:¬ji nn E (canon E.length l) ps
  .exact .inl ⟨λhe hQ=>(AN (s:=s) (rank:=λ_=>0) (M:=0) he hg hE hL hlst hQ p1 p2 hp3 hs (λq=>absurd q hok) (λq=>absurd q hok)).mono λv h' q=>⟨q.1,q.2.1 hok⟩,
    λhe hQ=>(Ae (s:=s) (rank:=λ_=>0) (M:=0) he hg hE hL hlst hQ p1 p2 hp3 hs om (λq=>absurd q hok) (λq=>absurd q hok)).mono λv h' q=>⟨q.1,q.2.1 hok⟩⟩
  .refine .inr ⟨hg,λhE' hL' l' hl'=>?_⟩;have e:canon E.length l'=canon E.length l:=Go.Blk.canon_congr λi hi=>(hlst.uniq hl' hi).symm;rw[e];exact Classical.byContradiction hok
 rcases dec with⟨hj,hr⟩|⟨hg,hok⟩
 .refine ae (bM (bj 2 (M3 e1 e2 rG4) rfl (Z3 e1 e2 rG4) (M3 e1 e2 rG4) (hj he4 hQ) λr h5 hq=>?_));obtain⟨x5,hq⟩:=hq;obtain⟨c,hc⟩:∃c:Int,1=c:=⟨1,rfl⟩
  have c1:(c==1)=true:=by rw[<-hc];rfl
  have c2:decide (c=1)=true:=by rw[<-hc];rfl
  rw[hc]at hq;subst hq;obtain⟨h6,w6,x6,g6,n6⟩:=gD (h:=h5) (z:=[.nils,.nils]) (cs:=[.nils,.nils]) (e:=2) rfl;refine bI (M1 w6) ?_;have X6:Ext h4.next h4 h6:=x5.trans (x6.mono x5.nx);have n5:=x5.nx;have rG6:ai h6 4090 0 2=some [.int .i64 n,ev]:=by rw[bi (X6.gt _ om)];exact rG4
  refine ae (bM (bj 2 (M3 e1 e2 rG6) rfl (Z3 e1 e2 rG6) (M3 e1 e2 rG6) (hr (he4.ext X6 (ab _)) (hQ.ext X6)) λr h7 hq=>?_));obtain⟨x7,rfl⟩:=hq;obtain⟨h8,w8,x8,g8,n8⟩:=gD (h:=h7) (z:=[.nils,.nils]) (cs:=[.nils,.nils]) (e:=2) rfl;refine bI (M1 w8) ?_;have n7:=x7.nx;have g68:h8.get h5.next=some (.cells [.nils,.nils] 2 false):=by rw[x8.gt _ om,x7.gt _ om];exact g6
  have r68:ai h8 h5.next 0 2=some [.nils,.nils]:=by rw[aR g68];rfl
  have nl:∀{h:AH},SlI h .nils []:=fun {h}=>.inl ⟨rfl,.inl rfl⟩;have nL:∀{h:AH},SlL h .nils []:=fun {h}=>⟨[],.inl ⟨rfl,.inl rfl⟩,rfl,λi w xs q=>by simp at q⟩
  refine ae (ae (ak (M0) ?_));refine cZ (by simp only[am,aL,simprocAttr,fI]) (ae (bM (bj 5 (M3 c1 c2 r68) rfl (Z3 c1 c2 r68) (M3 c1 c2 r68) (oP (h:=h8) (order:=[]) (outs:=[]) nl nL nl nL (by simp) (by simp) (by simp)) λr h9 hq=>?_)));obtain⟨rfl,x9⟩:=hq;refine bI (M0) ?_;exact bu ⟨.bool true,(by simp only[rs,rf3,am,aL,simprocAttr]<;>rfl),rfl⟩
 have hm:=hg.1;have hn:n=((n.toNat:Nat):Int):=by
  have:=hm;unfold fC at this;simp only[aU,aK]at this;omega
 have hL:=pG hg;generalize n.toNat=nn at *
 subst hn;have hE:=km hm;obtain⟨m1,m2,m3,m4⟩:=iX hm;obtain⟨l,hlst⟩:=Go.Blk.lst_ex (grE nn E hE hL);obtain⟨s,hsn,hs0,_⟩:=ur hg hE;have hs:=qW hE (by have:=hg.2.2.2.2;rwa [aO]at this) hsn hs0;have hBlen:=lB (m:=E.length) (l:=l);have hok:=hok hE hL l hlst;obtain⟨rank,M,jk,hP,hR,hcut⟩:=jk_of hg hE hL hlst hok hsn hs0;obtain⟨z1,z2,z3⟩:=Fs hE hP;have hWl:((jB nn E (canon E.length l) ps).W (M+1) s).length<=64:=by
  unfold qC at z1;rw[ah]at z1;omega
 have okW:OKP (nn:Nat) E (qC (jB nn E (canon E.length l) ps) M s) (oE nn (jB nn E (canon E.length l) ps)):=by
  unfold OKP;rw[aO];exact⟨⟨hg,hP⟩,hR⟩
 refine ae (bM (bj 2 (M3 e1 e2 rG4) rfl (Z3 e1 e2 rG4) (M3 e1 e2 rG4) (AN he4 hg hE hL hlst hQ p1 p2 hp3 hs (λ_=>jk) (λ_=>hWl)) λr h5 hq=>?_));obtain⟨x5,_,hq⟩:=hq;obtain⟨ov,uv,rfl,s5,t5⟩:=hq hok;obtain⟨oc,oo⟩:=Sl.cells s5;obtain⟨uc,uo⟩:=SlL.cells t5;obtain⟨h6,w6,x6,g6,n6⟩:=gD (h:=h5) (z:=[.nils,.nils]) (cs:=[ov,uv]) (e:=2) rfl;refine bI (M3 oo uo w6) ?_;have n5:=x5.nx;have X6:Ext h4.next h4 h6:=x5.trans (x6.mono x5.nx);have rG6:ai h6 4090 0 2=some [.int .i64 (nn:Nat),ev]:=by rw[bi (X6.gt _ om)];exact rG4
 refine ae (bM (bj 2 (M3 e1 e2 rG6) rfl (Z3 e1 e2 rG6) (M3 e1 e2 rG6) (Ae (he4.ext X6 (ab _)) hg hE hL hlst (hQ.ext X6) p1 p2 hp3 hs om (λ_=>jk) (λ_=>hWl)) λr h7 hq=>?_));obtain⟨x7,_,hq⟩:=hq;obtain⟨ov',uv',rfl,s7,t7⟩:=hq hok;obtain⟨oc',oo'⟩:=Sl.cells s7;obtain⟨uc',uo'⟩:=SlL.cells t7;obtain⟨h8,w8,x8,g8,n8⟩:=gD (h:=h7) (z:=[.nils,.nils]) (cs:=[ov',uv']) (e:=2) rfl;refine bI (M3 oo' uo' w8) ?_;have n7:=x7.nx;have x68:Ext h6.next h6 h8:=x7.trans (x8.mono x7.nx);have X8:Ext h4.next h4 h8:=X6.trans (x68.mono om);have g68:h8.get h5.next=some (.cells [ov,uv] 2 false):=by rw[x68.gt _ om];exact g6
 have r68:ai h8 h5.next 0 2=some [ov,uv]:=by rw[aR g68];rfl
 have r88:ai h8 h7.next 0 2=some [ov',uv']:=by rw[aR g8];rfl
 have rG8:ai h8 4090 0 2=some [.int .i64 (nn:Nat),ev]:=by rw[bi (X8.gt _ om)];exact rG4
 have x58:Ext h5.next h5 h8:=x6.trans (x68.mono om);have s58:=s5.ext x58 (ab _);have t58:=t5.ext x58;refine ae (ae (ak (M0) ?_));refine dC (Z1 @dp) (bz ?_);have s88:=s7.ext x8 (ab _);have t88:=t7.ext x8;have n8':=x8.nx;refine ae (ae (bM (bj 5 (M4 @decide_true @dp r68 r88) rfl (Z4 @decide_true @dp r68 r88) (M4 @decide_true @dp r68 r88) (oP s58 t58 s88 t88 om om (λl hl=>by have:=z3 l hl;omega)) λr h9 hq=>?_)));obtain⟨rfl,x9⟩:=hq;have n9:=x9.nx;have X9:Ext h4.next h4 h9:=X8.trans (x9.mono om);have rG9:ai h9 4090 0 2=some [.int .i64 (nn:Nat),ev]:=by rw[bi (X9.gt _ om)];exact rG4
 have r69:ai h9 h5.next 0 2=some [ov,uv]:=by rw[bi (x9.gt _ om)];exact r68
 refine bj 5 (M3 e2 rG9 r69) rfl (Z3 e2 rG9 r69) (M3 e2 rG9 r69) (zY (n:=((nn:Nat):Int)) (he4.ext X9 (ab _)) om (s58.ext x9 (ab _)) (t58.ext x9) om om (λl hl=>by have:=z3 l hl;omega)) λr hA hq=>?_;obtain⟨⟨b,rfl,hb⟩,xA⟩:=hq;have hbt:b=true:=hb.2 okW;subst hbt;refine bI (M0) ?_;refine dC (Z0) (bz ?_);have nA:=xA.nx;have XA:Ext h4.next h4 hA:=X9.trans (xA.mono om);have x8A:Ext h8.next h8 hA:=x9.trans (xA.mono om);have rGA:ai hA 4090 0 2=some [.int .i64 (nn:Nat),ev]:=by rw[bi (XA.gt _ om)];exact rG4
 have r6A:ai hA h5.next 0 2=some [ov,uv]:=by rw[bi (x8A.gt _ om)];exact r68
 refine ae (bM (bj 2 (M3 e2 rGA r6A) rfl (Z3 e2 rGA r6A) (M3 e2 rGA r6A) (LR (n:=((nn:Nat):Int)) (he4.ext XA (ab _)) om (s58.ext x8A (ab _)) (t58.ext x8A) om om (λl hl=>by have:=z3 l hl;omega)) λr hB hq=>?_));obtain⟨xB,_,hgood⟩:=hq;obtain⟨a,rfl,hql⟩:=hgood okW;rw[aO]at hql;have qa:=hql hE hL l hlst;have hps:((canon E.length l).map λb=>(oG nn E b (qC (jB nn E (canon E.length l) ps) M s),sU nn E b (oE nn (jB nn E (canon E.length l) ps))))=ps:=by
  refine List.ext_getElem (by rw[ah,hok.1]) λk h1 h2=>?_;rw[ah]at h1;obtain⟨q1,q2⟩:=hcut k h1;rw[fT h2]at q1 q2;rw[dz,q1,q2]
 rw[hps]at qa;refine bI (M0) ?_;have XB:Ext h4.next h4 hB:=XA.trans (xB.mono om);have nB:=xB.nx;have la:=qa.len;have lq:=hQ.len;refine ae (ae (ak (by simp only[am,aL,simprocAttr,e1,la,lq,decide_true,dp]<;>rfl) ?_));refine dC (Z2 @decide_true @dp) (bz ?_);refine ae (ae (ak (by simp only[am,aL,simprocAttr,la]<;>rfl) ?_));refine fi (α:=Unit) (N:=ps.length) (λ_ _=>[(1,qv),(11,a)]) (λk _ h'=>Ext hB.next hB h') () (λ_ _=>rfl) om (H1 e1) Oh ?_ ?_
 .clear e1 e2;rintro k _ ts hC hk jx ⟨ei,en,e1,e11,-⟩;simp only at ei en e1 e11;have nC:=jx.nx;obtain⟨b1,o1,y,a1,r1,⟨⟨yc,yo⟩,zc,zo⟩,s1,t1,lb1,_⟩:=(qa.ext jx (ab _)).at hk;obtain⟨b2,o2,u,v,a2,r2,_,_,s2,t2,lb2⟩:=(hQ.ext (XB.trans (jx.mono om))).at hk;have l1:=hp1 _ (ar hk);have l2:=hp2 _ (ar hk);have l3:=hp3 _ (ar hk);generalize ps[k]=p at *
  obtain⟨y1,y2⟩:=y;unfold f2 at r1;refine ae (ak (M1 ei) ?_);refine ae (bM (bj 8 (M6 e1 e11 a1 r1 a2 r2) rfl (Z6 e1 e11 a1 r1 a2 r2) (M6 e1 e11 a1 r1 a2 r2) (oP s1 t1 s2 t2 om om (λl hl=>by have:=l3 l hl;omega)) λr hD hq=>?_));obtain⟨rfl,xD⟩:=hq;refine bI (M0) ?_;refine dC (Z0) (bz ?_);exact⟨(),jx.trans (xD.mono om),H4 ei en e1 e11⟩
 .rintro _ ts hC _ _;refine ae (ak (M0) ?_);exact bu ⟨.bool true,(by simp only[rs,rf3,am,aL,simprocAttr]<;>rfl),rfl⟩
open Go.Am
open Go.RowKit
def sF(rows:List NRow)(len:Nat):List (List Int):=(rows.take len).map λr=>r.zs.take r.len
def sH:∀(a b:List AO) (h:AH),news (a++b) h=news b (news a h)
 |[],_,_=>rfl
 |o::r,b,h=>sH r b (h.new o)
def EE(os:List AO){h:AH}:∀b x,h.get b=some x->(news os h).get b=some x:=λb x hb=>by
 rw[oV _ _ _ (AH.lt_of_get hb)];exact hb
def um{h:AH}{o:AO}:∀b x,h.get b=some x->(h.new o).get b=some x:=λb x hb=>by
 rw[AH.get_new,if_neg (by have:=AH.lt_of_get hb;omega)];exact hb
def RowsB.spot{w:World}{x:Addr}{len cap:Nat}{rows:List NRow}(hc:RowsB w (some x) len cap rows)(h0:0<cap):x.spot=none:=by
 have hl:=hc.length;have:=hc.cells x rfl 0 _ (aj om);have e0:x.add 0=x:=rfl;rw[e0]at this;unfold World.cell? at this;split at this
 .split at this
  .cases this
  .rename_i hs
   cases hq:x.spot with
   |none=>rfl
   |some s=>rw[hq]at hs;simp at hs
 .cases this
def Lp{len:Nat}{rows:List NRow}(hc:RowsB w a len cap rows){h:AH}(r:Rep K σ h w)(hB:K.B=w.heap.size) :
 ∃(σ':Sg) (os:List AO) (cv:AV),os.length=101/\σ.le σ'/\Rep K σ' (news os h) w/\VR σ' cv (.slice a len cap)/\fP cv=some (.int .i64 (len:Nat)) /\
   (len<=100->SlL (news os h) cv (sF rows len)):=by
 by_cases h0:cap=0
 .have hl0:len=0:=by have:=hc.le;omega
  subst h0;subst hl0;obtain⟨σ1,os,vs,a1,a2,a3,a4,a5⟩:=wK (e:=1) (by decide) hB 101 [] r (dv _) (λr hr=>by cases hr);cases a with
  |none=>exact⟨σ1,os,.nils,a1,a3,a4,by simp[VR],rfl,λ_=>⟨[],.inl ⟨rfl,.inl rfl⟩,by simp[sF],λi w xs h1=>by simp at h1⟩⟩
  |some x=>exact⟨σ1,os,.emp,a1,a3,a4,by simp[VR],rfl,λ_=>⟨[],.inl ⟨rfl,.inr rfl⟩,by simp[sF],λi w xs h1=>by simp at h1⟩⟩
 cases a with
 |none=>exact absurd (hc.none_ rfl).2 h0
 |some x =>
   have hsp:=hc.spot om;by_cases hl:len<=100
   .have hle:=hc.le;have hlen:=hc.length;have htl:(rows.take len).length=len:=by rw[aS];omega
    obtain⟨σ1,os,vs,a1,a2,a3,a4,a5⟩:=Rep.rows (k:=.i64) hB 100 (rows.take len) r om (λr hr=>hc.ok r (kH hr));have hcell:∀i,i<cap->w.cell? (x.add i)=some (match rows[i]? with|some r=>.slice r.a r.len r.cap|none=>.bool true):=by
     intro i hi;have:rows[i]?=some rows[i]:=aj om;rw[this];exact hc.cells x rfl i _ this
    obtain⟨σ2,b1,b2,b3⟩:=a4.outer hB (vs:=vs) (len:=len) hsp hle om hcell (λi v hv=>by
     have hil:=(au.1 hv).1;have h1:i<(rows.take len).length:=om;have h2:(rows.take len)[i]?=some (rows.take len)[i]:=aj h1;have h3:=(a5 i v _ hv h2).1;have h4:rows[i]?=some (rows.take len)[i]:=by
      rw[<-h2,cS,if_pos om]
     rw[h4];exact h3)
    rw[jq]at b2;refine⟨σ2,os++[_],_,by simp[a1],Sg.le_trans a3 b1,b2,b3,rfl,λ_=>?_⟩;rw[<-jq];refine⟨vs,Od (by rw[AH.get_new,if_pos rfl]) om (ab _),by rw[sF,ah];omega,λi v xs hv hx=>?_⟩;unfold sF at hx;rw[aV]at hx;cases hq:(rows.take len)[i]? with
    |none=>rw[hq]at hx;cases hx
    |some row =>
      rw[hq]at hx;simp only[aQ,aa]at hx;subst hx;have hm:=kH (eP hq);obtain⟨k1,k2,_⟩:=hc.ok row hm;rcases(a5 i v row hv hq).2 with⟨h1|h1,h2⟩|⟨b,h1,h2⟩
      .exact .inl ⟨by rw[h2];simp,.inl h1⟩
      .exact .inl ⟨by rw[h2];simp,.inr h1⟩
      .subst h1;refine tZ (f:=eI) (ro:=true) (λ_=>rfl) ?_ (by rw[aS];omega);rw[AH.get_new,if_neg (by have:=AH.lt_of_get h2;omega),Eg];exact h2
   .obtain⟨σ1,os,vs,a1,a2,a3,a4,a5⟩:=Rep.rows (k:=.i64) hB 100 [] r (dv _) (λr hr=>by cases hr);obtain⟨σ2,b1,b2,b3⟩:=a4.outer0 (len:=len) hsp hc.le;rw[jq]at b2;exact⟨σ2,os++[_],_,by simp[a1],Sg.le_trans a3 b1,b2,b3,rfl,λq=>absurd q hl⟩
def PAt(h:AH)(x y:AV)(p:P0):Prop:=SlI h x p.1/\fP y=some (.int .i64 (p.2.1:Nat))/\(p.2.1<=100->SlL h y p.2.2)
def PAt.stay{h h':AH}{x y:AV}{p:P0}(q:PAt h x y p)(hk:∀b o,h.get b=some o->h'.get b=some o):PAt h' x y p:=⟨Sl.stay hk q.1,q.2.1,λz=>SlL.stay hk (q.2.2 z)⟩
def p0(p:PRow):P0:=(p.zs.take p.len,p.lb,sF p.rows p.lb)
def Ap{K:Bs}{w:World}(hB:K.B=w.heap.size):∀(n:Nat) (ks:List PRow) {σ:Sg}{h:AH},Rep K σ h w->ks.length<=n->(∀p∈ks,p.ok w) ->
 ∃(σ':Sg) (os:List AO) (vs:List (AV×AV)),os.length=n*102/\vs.length=ks.length/\σ.le σ'/\Rep K σ' (news os h) w/\∀(i:Nat) (v:AV×AV) (p:PRow),vs[i]?=some v->ks[i]?=some p->VR σ' v.1 (.slice p.a p.len p.cap)/\VR σ' v.2 (.slice p.b p.lb p.cb)/\PAt (news os h) v.1 v.2 (p0 p)
 |0,[],σ,h,r,_,_=>⟨σ,[],[],rfl,rfl,Sg.le_refl σ,r,λi v r hv=>by simp at hv⟩
 |0,_::_,_,_,_,hl,_=>by simp at hl
 |n+1,[],σ,h,r,_,_=>by
   obtain⟨σ1,os,vs,a1,a2,a3,a4,a5⟩:=wK (e:=1) (by decide) hB ((n+1)*102) [] r (dv _) (λr hr=>by cases hr);exact⟨σ1,os,[],a1,rfl,a3,a4,λi v r hv=>by simp at hv⟩
 |n+1,p::ks,σ,h,r,hl,hok=>by
   obtain⟨k1,k2⟩:=hok p (by simp);obtain⟨σ1,os1,cv,q1,q2,q3,q4,q5,q6⟩:=Lp k2 r hB;obtain⟨σ2,o1,v1,t1,t2,t3,t4,t5⟩:=ints1 q3 hB k1;obtain⟨σ3,os2,vs,u1,u2,u3,u4,u5⟩:=Ap hB n ks t2 (by simp at hl;omega) (λr hr=>hok r (by simp[hr]));have e:news os2 ((news os1 h).new o1)=news (os1++[o1]++os2) h:=by rw[sH,sH];rfl
   refine⟨σ3,os1++[o1]++os2,(v1,cv)::vs,by simp[q1,u1];omega,by simp[u2],Sg.le_trans q2 (Sg.le_trans t1 u3),by rw[<-e];exact u4,λi x row hx hr=>?_⟩;rw[<-e];cases i with
   |zero =>
     simp only[bD,aa]at hx hr;subst hx hr;refine⟨VR.mono u3 _ _ t3,VR.mono u3 _ _ (VR.mono t1 _ _ q4),?_⟩;exact PAt.stay ⟨t5,q5,λz=>SlL.stay um (q6 z)⟩ (EE os2)
   |succ i =>
     simp only[cJ]at hx hr;exact u5 i x row hx hr
def Bc{α:Type}{f:α->List AV}(hf:∀x,(f x).length=2):∀(xs:List α) (i:Nat) (v:AV),(xs.flatMap f)[i]?=some v->∃x,xs[i/2]?=some x/\(f x)[i%2]?=some v
 |[],i,v,h=>by simp at h
 |y::r,i,v,h=>by
   rw[bH]at h;by_cases hi:i<2
   .rw[bC (by rw[hf];exact hi)]at h;refine⟨y,?_,?_⟩
    .rw[show i/2=0 by omega];rfl
    .rw[show i%2=i by omega];exact h
   .rw[bw (by rw[hf];omega),hf]at h;obtain⟨x,h1,h2⟩:=Bc hf r (i-2) v h;refine⟨x,?_,?_⟩
    .rw[show i/2=(i-2)/2+1 by omega,cJ];exact h1
    .rw[show i%2=(i-2)%2 by omega];exact h2
def Lw{len:Nat}(hc:PlIn w a len cap ks){h:AH}(r:Rep K σ h w)(hB:K.B=w.heap.size) :
 ∃(σ':Sg) (os:List AO) (cv:AV),os.length=4081/\σ.le σ'/\Rep K σ' (news os h) w/\VR σ' cv (.slice a len cap)/\fP cv=some (.int .i64 (len:Nat)) /\
   (len<=40->((ks.take len).map p0).length=len/\QR0 (news os h) cv ((ks.take len).map p0)):=by
 have hle:=hc.le;have hlen:=hc.length;have htl:(ks.take len).length=len:=by rw[aS];omega
 cases a with
 |none =>
   obtain⟨rfl,rfl⟩:=hc.none_ rfl;obtain⟨σ1,os,vs,a1,a2,a3,a4,a5⟩:=wK (e:=1) (by decide) hB 4081 [] r (dv _) (λr hr=>by cases hr);exact⟨σ1,os,.nils,a1,a3,a4,by simp[VR],rfl,λ_=>⟨by simp,[],.inl ⟨by simp,.inl rfl⟩,by simp,λi p w h1=>by simp at h1⟩⟩
 |some x =>
   have hsp:=hc.spot x rfl;by_cases hl:len<=40
   .obtain⟨σ1,os,vs,a1,a2,a3,a4,a5⟩:=Ap hB 40 (ks.take len) r om (λp hp=>hc.ok p (kH hp));have hcell:∀i,i<cap*2->w.cell? (x.add i)=some (match ks[i/2]? with|some p=>if i%2=0 then .slice p.a p.len p.cap else .slice p.b p.lb p.cb|none=>.bool true):=by
     intro i hi;have hk:ks[i/2]?=some ks[i/2]:=aj om;obtain⟨k1,k2⟩:=hc.cells x rfl _ _ hk;rw[hk];simp only;split
     .rename_i q
      rw[show i/2*2=i by omega]at k1;exact k1
     .rename_i q
      rw[show i/2*2+1=i by omega]at k2;exact k2
    obtain⟨σ2,b1,b2,b3⟩:=Nx a4 hB (e:=2) (by decide) (vs:=vs.flatMap f2) (len:=len) hsp hle (by rw[dE (f:=f2) (e:=2) (λ_=>rfl)];congr 1;omega) hcell (λi v hv=>by
     obtain⟨q,h1,h2⟩:=Bc (f:=f2) (λ_=>rfl) _ _ _ hv;have h0:i/2<vs.length:=(au.1 h1).1;have h3:(ks.take len)[i/2]?=some (ks.take len)[i/2]:=aj om;have h5:ks[i/2]?=some (ks.take len)[i/2]:=by
      rw[<-h3,cS,if_pos om]
     obtain⟨c1,c2,_⟩:=a5 (i/2) q _ h1 h3;rw[h5];have hm2:i%2=0\/i%2=1:=om;rcases hm2 with e|e
     .rw[e]at h2;simp only[f2,bD,aa]at h2;subst h2;simpa[e]using c1
     .rw[e]at h2;simp only[f2,cJ,bD,aa]at h2;subst h2;simpa[e]using c2)
    rw[jq]at b2;refine⟨σ2,os++[_],_,by simp[a1],Sg.le_trans a3 b1,b2,b3,rfl,λ_=>⟨by rw[ah];exact htl,?_⟩⟩;rw[<-jq];refine⟨vs,tZ (f:=f2) (ro:=true) (λ_=>rfl) (by rw[AH.get_new,if_pos rfl]) om,by rw[ah];exact a2,λi v p hv hp=>?_⟩;rw[aV]at hp;obtain⟨k,hk,rfl⟩:=aG.1 hp;exact PAt.stay (a5 i v k hv hk).2.2 um
   .obtain⟨σ1,os,vs,a1,a2,a3,a4,a5⟩:=wK (e:=1) (by decide) hB 4080 [] r (dv _) (λr hr=>by cases hr);obtain⟨σ2,b1,b2,b3⟩:=Ly a4 (e:=2) (len:=len) hsp hc.le;rw[jq]at b2;exact⟨σ2,os++[_],_,by simp[a1],Sg.le_trans a3 b1,b2,b3,rfl,λq=>absurd q hl⟩
def Mv{P:Program}{a0 a1:Option Addr}{l0 c0 l1 c1:Nat}{z0:List Int}(w0:IsRowE .i64 2 w a0 l0 c0 z0)(s0:∀x,a0=some x->x.spot=none)(w1:PlIn w a1 l1 c1 ks) :
 ∃(σ:Sg) (os:List AO) (v0 v1:AV),os.length=4082/\GL σ/\Rep ⟨w.heap.size,w,P,[]⟩ σ (news os AH.zero) w/\VR σ v0 (.slice a0 l0 c0)/\VR σ v1 (.slice a1 l1 c1) /\
   fP v0=some (.int .i64 (l0:Nat))/\SlE (news os AH.zero) v0 (qx (z0.take (l0*2)))/\fP v1=some (.int .i64 (l1:Nat))/\(l1<=40->((ks.take l1).map p0).length=l1/\QR0 (news os AH.zero) v1 ((ks.take l1).map p0)):=by
 have st:=St0.zero P w;obtain⟨σ1,os1,v1,q1,q2,q3,q4,q5,q6⟩:=Lw w1 st.rep rfl;obtain⟨σ2,o0,v0,r1,r2,r3,r4⟩:=MX q3 rfl (by decide) w0 s0;rw[jq]at r2;refine⟨σ2,os1++[o0],v0,v1,by simp[q1],(st.gl.mono q2).mono r1,r2,r3,VR.mono r1 _ _ q4,?_,?_,q5,λhl=>⟨(q6 hl).1,?_⟩⟩
 .rcases r4 with⟨h1,h2⟩|⟨h1,_⟩
  .subst h1 h2;rfl
  .subst h1;rfl
 .rw[<-jq];rcases r4 with⟨h1,h2⟩|⟨h1,h2,h3⟩
  .subst h1 h2;exact .inl ⟨by simp[qx],.inl rfl⟩
  .subst h1 h2;obtain⟨f1,f2⟩:=vl l0 _ h3;refine tZ (f:=eE) (ro:=true) (λ_=>rfl) ?_ f2.symm;rw[AH.get_new,if_pos rfl,f1]
 .rw[<-jq];exact(q6 hl).2.stay um
open Go.Am Go.Shelf
def sren:Ren:=⟨λx=>match x with|189=>58|125=>93|257=>94|128=>122|129=>123|294=>124|295=>125|296=>126|297=>127|298=>128|299=>129|216=>79|300=>130|301=>131|328=>154|329=>150|330=>151|331=>155|332=>156|215=>112|343=>165|n=>n,λx=>match x with|46=>142|51=>177|53=>179|183=>171|182=>170|131=>104|218=>209|222=>213|228=>223|229=>224|n=>n,λn=>n⟩
def sre2:Ren:=⟨λx=>match x with|6=>56|15=>93|14=>92|28=>122|29=>123|20=>114|21=>115|22=>116|23=>117|24=>118|25=>119|26=>120|27=>121|46=>149|47=>150|48=>151|49=>152|50=>153|57=>164|n=>n,λx=>match x with|22=>29|24=>28|25=>117|39=>142|53=>177|55=>179|46=>171|45=>170|50=>104|66=>209|70=>213|76=>223|77=>224|n=>n,λn=>n⟩
def brs{f:FuncId}{B:Func}(h1:((Tryz.prog.funcs[f]?.getD Tryz.f56).name== "runtime.NumGoroutine")=false)(h2:Tryz.prog.funcs[f]?=some { B with name:=(Tryz.prog.funcs[f]?.getD Tryz.f56).name}):Bears Tryz.prog f B:=⟨_,h1,h2⟩
def slay:Lays.n189 Tryz.prog sren:=by
 constructor<;>first|kernel_rfl|(intro;kernel_rfl)
def sla2:SlLaysF.n6 Tryz.prog sre2:=by
 constructor<;>first|kernel_rfl|exact brs (by kernel_rfl) (by kernel_rfl)|(intro;kernel_rfl)
def cmp57:Kl Tryz.prog 57:=by
 intro W b1 o1 n1 c1 b2 o2 n2 c2 k1 k2 h1 h2 a1 a2 a3 a4
 go_enter Tryz.func57,Tryz.ntmps57
 go_wp2
 go_quiet (fail)
 go_wp2
 go_ret
 exact⟨rfl,_,rfl⟩
def ssrt:Ke Tryz.prog 58:=λblk off cap zs w hH hb hz=>calls_of_every_depth λD=>AnyS.slices_Sort_int_alone slay D blk off cap zs w hH hb hz
def srts:Kg Tryz.prog mks:=by
 exact zC.2 ⟨.inl ⟨rfl,Ky ssrt (allD_at cfs (uf (show lkp tab 58 none=some rf58 from rfl)))⟩,zC.2 ⟨.inr ⟨57,rfl,Kz sla2 rfl (enters_of Tryz.func57 (by kernel_rfl) rfl) cmp57 (allD_at cfs (uf (show lkp tab 56 none=some rf56 from rfl)))⟩,λ_ h=>by cases h⟩⟩
end Go.Proofs.YtklpoimdclflmaaGreatDoor
