/- arborref08.What, the walk. -/
import Derived.Test.YtcfncejilmimpaaGreatVTAR
set_option linter.all false
namespace Go.Proofs.YtcfncejilmimpaaGreat
open Go.Am
open Go.Kur
variable {E:List (Int×Int)}{K:List Nat}{L:List Int}{h:AH}{n:Nat}
def MK(N:Nat)(l:List (Nat×Nat))(r:AV):Prop:=(doc5 N l/\r=.int .i64 5)\/(¬doc5 N l/\doc33 N l/\r=.int .i64 33)\/(¬doc5 N l/\¬doc33 N l/\r=.int .i64 0)
def Mk(n:Int)(E:List (Int×Int))(L:List Int)(r:AV):Prop:=(¬LayR n E L/\r=.int .i64 0)\/(LayR n E L/\((finP (l0 E L) n.toNat=none/\r=.int .i64 0)\/∃l,finP (l0 E L) n.toNat=some l/\MK n.toNat l r))
theorem Mx(a b:Nat):(if ((b:Nat):Int)<((a:Nat):Int)then((b:Nat):Int)else((a:Nat):Int))=((min a b:Nat):Int):=by split<;>omega
theorem My(a b:Nat):(if ((a:Nat):Int)<((b:Nat):Int)then((b:Nat):Int)else((a:Nat):Int))=((max a b:Nat):Int):=by split<;>omega
set_option maxHeartbeats 8000000 in
theorem El{n:Int}{ev lv:AV}(he:SlE h ev E)(hL:SlI h lv L)(hel:E.length<2^28)(hll:L.length<2^28)(hn:n<2^28) :
 C prg 6 [.agg [.int .i64 n,ev],lv] h λr h'=>Ext h.next h h'/\Mk n E L r:=by
 obtain⟨ec,eo⟩:=he.cells;have hEl:=he.len;have hLl:=hL.len;rw[ah]at hEl hLl;refine Oj pf6 ?_;refine ai (aE (Mi0) ?_);have x0:Ext h.next h (h.new (.cells [.int .i64 n,ev] 2 false)):=Og (ab _);have g0:(h.new (.cells [.int .i64 n,ev] 2 false)).get h.next=some (.cells [.int .i64 n,ev] 2 false):=by rw[AH.get_new,if_pos rfl]
 have n0:(h.new (.cells [.int .i64 n,ev] 2 false)).next=h.next+1:=rfl;generalize h.new (.cells [.int .i64 n,ev] 2 false)=h1 at *
 have x1:Ext h1.next h1 (h1.new (.cells [] 2 false)):=Og (ab _);have g1:(h1.new (.cells [] 2 false)).get h1.next=some (.cells [] 2 false):=by rw[AH.get_new,if_pos rfl]
 have n1:(h1.new (.cells [] 2 false)).next=h1.next+1:=rfl;refine ai (aE (Mi0) ?_);generalize h1.new (.cells [] 2 false)=hA at *
 have mem:∀{h':AH},Ext h1.next h1 h'->Ext h.next h h'/\h'.get h.next=some (.cells [.int .i64 n,ev] 2 false)/\SlE h' ev E/\SlI h' lv L:=fun {h'} x=>by
  have X:Ext h.next h h':=x0.trans (x.mono om);exact⟨X,by rw[x.gt _ om];exact g0,he.ext X (ab _),hL.ext X (ab _)⟩
 refine ai (ai (aE (M0) ?_))
 refine lw (α:=AV) (N:=L.length) (λk a=>[(1,lv),(2,.ptr h.next 0),(5,a),(6,.int .i64 (k:Nat))])
  (λk a h'=>(∀(j:Nat) (hj:j<L.length),j<k->OkR n E L[j]/\L[j]∉L.take j)/\IsSl h' 2 h1.next a (pC (l0 E (L.take k)))/\Ext h1.next h1 h') (.sl h1.next 0 0 0) (Hi1 @bJ)
  ⟨λj hj hk=>absurd hk (eX _),.inr ⟨h1.next,0,ab _,rfl,g1,rfl⟩,x1⟩ ?_ ?_ ?_
 .rintro k a ts h2 hk _ ⟨e1,e2,e5,e6,-⟩;simp only at e1 e2 e5 e6;exact⟨_,(M4 e1 e6 hLl @eq),Z0,H4 e1 e2 e5 e6⟩
 .rintro k a ts h2 hk ⟨j1,j2,j3⟩ ⟨e1,e2,e5,e6,-⟩;simp only at e1 e2 e5 e6;obtain⟨X2,g2,he2,hL2⟩:=mem j3;have n2:=j3.nx;obtain⟨b1,p1,a1,a2,_⟩:=hL2.at1 (fX (f:=eI) hk);have rv:ar h2 h.next 1 1=some [ev]:=bF g2 rfl;generalize hz:L[k]=z at *
  have hnot:∀{h':AH},Ext h1.next h1 h'->¬(OkR n E z/\z∉L.take k)->Ext h.next h h'/\Mk n E L (.int .i64 0):=fun {h'} x hb=>⟨(mem x).1,.inl ⟨λhp=>hb (hz▸hp k hk),rfl⟩⟩
  refine ai (ai ?_);by_cases q1:z<0
  .have c1:decide (z<0)=true:=aP q1;refine aE (M5 e1 e6 a1 a2 c1) ?_;refine cI (Z0) (ai (aE (M0) ?_));exact bP ⟨_,(by simp only[rs,rf6,am,aJ,simprocAttr]<;>rfl),hnot j3 λq=>by have:=q.1.1.1;omega⟩
  have c1:decide (z<0)=false:=aL q1;obtain⟨i,rfl⟩:=sA (show 0<=z by omega);by_cases q2:E.length<=i
  .have c2:decide (((E.length:Nat):Int)<=((i:Nat):Int))=true:=aP om;refine aE (M10 e1 e6 a1 a2 c1 e2 rv hEl c2 c2) ?_;refine cI (Z0) (ai (aE (M0) ?_));exact bP ⟨_,(by simp only[rs,rf6,am,aJ,simprocAttr]<;>rfl),hnot j3 λq=>by have:=q.1.1.2.1;omega⟩
  have c2:decide (((E.length:Nat):Int)<=((i:Nat):Int))=false:=aL om;have hiE:i<E.length:=om;refine aE (M10 e1 e6 a1 a2 c1 e2 rv hEl c2 c2) ?_;refine dJ (Z0) (bM ?_);refine ai (ai (aE (M0) ?_))
  refine lw (α:=Unit) (N:=k) (λm _=>[(1,lv),(2,.ptr h.next 0),(5,a),(6,.int .i64 (k:Nat)),(7,.int .i64 (m:Nat))])
   (λm _ h'=>h'=h2/\∀(j:Nat) (hj:j<L.length),j<m->L[j]≠((i:Nat):Int)) () (H5 e1 e2 e5 e6 @bJ) ⟨rfl,λj hj hm=>absurd hm (eX _)⟩ ?_ ?_ ?_
  .rintro m _ ts h3 hm ⟨rfl,_⟩ ⟨f1,f2,f5,f6,f7,-⟩;simp only at f1 f2 f5 f6 f7;exact⟨_,(M3 f7 f6 @eq),Z0,H5 f1 f2 f5 f6 f7⟩
  .rintro m _ ts h3 hm ⟨rfl,jm⟩ ⟨f1,f2,f5,f6,f7,-⟩;simp only at f1 f2 f5 f6 f7;obtain⟨b2,p2,d1,d2,_⟩:=hL2.at1 (fX (f:=eI) (show m<L.length by omega));have w1:IntKind.i64.wrap (((m:Nat):Int)+1)=((m+1:Nat):Int):=ft om om;by_cases q3:L[m]=((i:Nat):Int)
   .have c3:decide (L[m]=((i:Nat):Int))=true:=aP q3;refine ai (aE (M8 f1 f6 f7 d1 d2 a1 a2 c3) ?_);refine cI (Z0) (ai (aE (M0) ?_));exact bP ⟨_,(by simp only[rs,rf6,am,aJ,simprocAttr]<;>rfl),hnot j3 λq=>q.2 (by rw[<-q3,jX];exact⟨m,om,rfl⟩)⟩
   .have c3:decide (L[m]=((i:Nat):Int))=false:=aL q3;refine ai (aE (M8 f1 f6 f7 d1 d2 a1 a2 c3) ?_);refine dJ (Z0) (bM ⟨(),⟨rfl,λj hj hjm=>?_⟩,_,(M2 f7 w1),H4 f1 f2 f5 f6⟩);by_cases hjm':j=m
    .subst hjm';exact q3
    .exact jm j hj om
  rintro _ ts h3 ⟨rfl,jm⟩ ⟨f1,f2,f5,f6,f7,-⟩;simp only at f1 f2 f5 f6;have hnk:((i:Nat):Int)∉L.take k:=λhm=>by
   obtain⟨j,hj,e⟩:=jX.1 hm;exact jm j om om e
  obtain⟨b3,p3,d1,d2,_⟩:=he2.at (fX (f:=eE) hiE);have hgd:E.getD i (0,0)=E[i]:=by rw[aj,ae hiE];rfl
  have hok:OkR n E ((i:Nat):Int)↔0<=E[i].1/\0<=E[i].2/\E[i].1<n/\E[i].2<n/\E[i].1≠E[i].2:=by
   unfold OkR OkE;rw[fE,hgd];constructor
   .rintro⟨⟨_,_,a,b,c,d⟩,e⟩;exact⟨a,b,c,d,e⟩
   .rintro⟨a,b,c,d,e⟩;exact⟨⟨om,om,a,b,c,d⟩,e⟩
  have htl:tlK E i=E[i].1.toNat:=by unfold tlK;rw[hgd]
  have hhd:hdK E i=E[i].2.toNat:=by unfold hdK;rw[hgd]
  generalize E[i]=p at *
  obtain⟨pa,pb⟩:=p;simp only at hok htl hhd;obtain⟨h4,w4,x4,g4,n4⟩:=ip (h:=h3) (z:=[.int .i64 0,.int .i64 0]) (cs:=[.int .i64 pa,.int .i64 pb]) (e:=2) rfl;refine ai (aE (by simp only[am,aJ,simprocAttr,f1,f6,f2,rv,a1,a2,d1,d2,eE,w4]<;>rfl) ?_);have X4:Ext h1.next h1 h4:=j3.trans (x4.mono om);have s0:ar h4 h3.next 0 1=some [.int .i64 pa]:=bF g4 rfl;have s1:ar h4 h3.next 1 1=some [.int .i64 pb]:=bF g4 rfl;have rn4:ar h4 h.next 0 1=some [.int .i64 n]:=bF (mem X4).2.1 rfl;refine ai (ai ?_);by_cases q4:pa<0
  .have c4:decide (pa<0)=true:=aP q4;refine aE (M2 s0 c4) ?_;refine cI (Z0) (ai (aE (M0) ?_));exact bP ⟨_,(by simp only[rs,rf6,am,aJ,simprocAttr]<;>rfl),hnot X4 λq=>by have:=hok.1 q.1;omega⟩
  have c4:decide (pa<0)=false:=aL q4;by_cases q5:pb<0
  .have c5:decide (pb<0)=true:=aP q5;refine aE (M4 s0 c4 s1 c5) ?_;refine cI (Z0) (ai (aE (M0) ?_));exact bP ⟨_,(by simp only[rs,rf6,am,aJ,simprocAttr]<;>rfl),hnot X4 λq=>by have:=hok.1 q.1;omega⟩
  have c5:decide (pb<0)=false:=aL q5;by_cases q6:n<=pa
  .have c6:decide (n<=pa)=true:=aP q6;refine aE (M7 s0 c4 s1 c5 f2 rn4 c6) ?_;refine cI (Z0) (ai (aE (M0) ?_));exact bP ⟨_,(by simp only[rs,rf6,am,aJ,simprocAttr]<;>rfl),hnot X4 λq=>by have:=hok.1 q.1;omega⟩
  have c6:decide (n<=pa)=false:=aL q6;by_cases q7:n<=pb
  .have c7:decide (n<=pb)=true:=aP q7;refine aE (M8 s0 c4 s1 c5 f2 rn4 c6 c7) ?_;refine cI (Z0) (ai (aE (M0) ?_));exact bP ⟨_,(by simp only[rs,rf6,am,aJ,simprocAttr]<;>rfl),hnot X4 λq=>by have:=hok.1 q.1;omega⟩
  have c7:decide (n<=pb)=false:=aL q7;by_cases q8:pa=pb
  .have c8:decide (pa=pb)=true:=aP q8;refine aE (M10 s0 c4 s1 c5 f2 rn4 c6 c7 c8 c8) ?_;refine cI (Z0) (ai (aE (M0) ?_));exact bP ⟨_,(by simp only[rs,rf6,am,aJ,simprocAttr]<;>rfl),hnot X4 λq=>by have:=hok.1 q.1;omega⟩
  have c8:decide (pa=pb)=false:=aL q8;refine aE (M10 s0 c4 s1 c5 f2 rn4 c6 c7 c8 c8) ?_;refine dJ (Z0) (bM ?_);obtain⟨a',rfl⟩:=sA (show 0<=pa by omega);obtain⟨b',rfl⟩:=sA (show 0<=pb by omega);have htl:tlK E i=a':=htl;have hhd:hdK E i=b':=hhd;have w1:IntKind.i64.wrap (((k:Nat):Int)+1)=((k+1:Nat):Int):=ft om om;have hl0:(l0 E (L.take k)).length=k:=by unfold l0 nLK;rw[ah,ah,bG];omega
  have i4:IsSl h4 2 h1.next a (pC (l0 E (L.take k))):=j2.ext x4 (ab _);obtain⟨v',h5,t1,t2,t3,t4⟩:=i4.push (bytes:=16) [.int .i64 ((min a' b':Nat):Int),.int .i64 ((max a' b':Nat):Int)] om om rfl rfl (by rw[qE,hl0,fM _ om];unfold bd;omega) (by rw[qE,hl0,fM _ om];unfold bd;omega);refine aE (M8 f5 s0 s1 @mn2K @mx2 @Mx @My t1) ?_;refine⟨v',⟨λj hj hjk=>?_,?_,X4.trans t3⟩,_,(M2 f6 w1),H2 f1 f2⟩
  .by_cases hjk':j=k
   .subst hjk';rw[hz];exact⟨hok.2 om,hnk⟩
   .exact j1 j hj om
  .rw[Li hk hz,Bp];have:pC [pr0 E i]=[.int .i64 ((min a' b':Nat):Int),.int .i64 ((max a' b':Nat):Int)]:=by
    unfold pC pr0;rw[htl,hhd];rfl
   rw[this];exact t2
 rintro a ts h2 ⟨j1,j2,j3⟩ ⟨e1,e2,e5,e6,-⟩;simp only at e1 e2 e5;rw[dL]at j2;have hR:LayR n E L:=λk hk=>j1 k hk hk;have hb:=Jm hR.lay;have h0:=NE hR;have hfp:∀{k:Nat}{l:List (Nat×Nat)},finP (l0 E L) k=some l->Srt l/\Bel n.toNat l/\l.length<=L.length:=fun {k l} q=>by
  have q':=q;rw[<-NF (h:=hR.lay.nodup.1)]at q';obtain⟨_,_,q3,q4⟩:=BH hb h0 q';refine⟨q3,q4,bZ (zX q) ?_⟩;unfold l0 nLK;rw[ah,ah];exact ab _
 have hlt:∀k:Nat,decide (((k:Nat):Int)<n)=decide (k<n.toNat):=λk=>by rw[decide_eq_decide];omega
 refine ai (ai (aE (M0) ?_))
 refine lw (α:=AV×List (Nat×Nat)) (N:=n.toNat) (λk s=>[(2,.ptr h.next 0),(5,s.1),(9,.int .i64 (k:Nat))])
  (λk s h'=>finP (l0 E L) k=some s.2/\IsSl h' 2 h1.next s.1 (pC s.2)/\Ext h1.next h1 h') (a,l0 E L) (H3 e2 e5 @bJ) ⟨rfl,j2,j3⟩ ?_ ?_ ?_
 .rintro k ⟨a,l⟩ ts h3 hk ⟨_,_,x3⟩ ⟨e2,e5,e9,-⟩;simp only at e2 e5 e9;have rn3:ar h3 h.next 0 1=some [.int .i64 n]:=bF (mem x3).2.1 rfl;exact⟨_,(M4 e2 e9 rn3 hlt),Z0,H3 e2 e5 e9⟩
 .rintro x ⟨a,l⟩ ts h3 hx ⟨k1,k2,k3⟩ ⟨e2,e5,e9,-⟩;simp only at k1 k2 e2 e5 e9;obtain⟨hS,hB,hlen⟩:=hfp k1;have n3:=k3.nx;have w1x:IntKind.i64.wrap (((x:Nat):Int)+1)=((x+1:Nat):Int):=ft om om;have x4:Ext h3.next h3 (h3.new (.cells [] 1 false)):=Og (ab _);have g4:(h3.new (.cells [] 1 false)).get h3.next=some (.cells [] 1 false):=by rw[AH.get_new,if_pos rfl]
  have n4:(h3.new (.cells [] 1 false)).next=h3.next+1:=rfl;refine ai (aE (M0) ?_);generalize h3.new (.cells [] 1 false)=h4 at *
  have lenA:jb a=some (.int .i64 (l.length:Nat)):=by
   have:=(tu k2).len;rw[ah,ah]at this;exact this
  refine ai (ai (aE (M0) ?_))
  refine lw (α:=AV) (N:=l.length) (λm b=>[(2,.ptr h.next 0),(5,a),(9,.int .i64 (x:Nat)),(10,b),(11,.int .i64 (m:Nat))])
   (λm b h'=>IsSl h' 1 h3.next b (nC (atI l x m))/\Ext h3.next h3 h') (.sl h3.next 0 0 0) (H4 e2 e5 e9 @bJ) ⟨.inr ⟨h3.next,0,ab _,rfl,g4,rfl⟩,x4⟩ ?_ ?_ ?_
  .rintro m b ts h5 hm _ ⟨f2,f5,f9,f10,f11,-⟩;simp only at f2 f5 f9 f10 f11;exact⟨_,(M4 f11 f5 lenA @eq),Z0,H5 f2 f5 f9 f10 f11⟩
  .rintro m b ts h5 hm ⟨i5,x5⟩ ⟨f2,f5,f9,f10,f11,-⟩;simp only at f2 f5 f9 f10 f11;have n5:=x5.nx;have sl5:SlE h5 a (l.map pE):=tu (k2.ext x5 (ab _));obtain⟨b5,p5,a5,_,rr,_⟩:=sl5.at (i:=m) (x:=eE (pE l[m])) (by rw[aF,aF,ae hm];rfl);have ra:ar h5 b5 p5 1=some [.int .i64 ((l[m].1:Nat):Int)]:=rr 0 _ rfl;have rb:ar h5 b5 (p5+1) 1=some [.int .i64 ((l[m].2:Nat):Int)]:=rr 1 _ rfl;have w1:IntKind.i64.wrap (((m:Nat):Int)+1)=((m+1:Nat):Int):=ft om om;have hst:=Jp l x hm;have hal:(atI l x m).length<=m:=by
    unfold atI;refine bZ (cS _ _) ?_;rw[bH];exact ab _
   obtain⟨b',h6,t1,t2,t3,t4⟩:=i5.push (bytes:=8) [.int .i64 ((m:Nat):Int)] om om rfl rfl (by rw[gU];unfold bd;omega) (by rw[gU];unfold bd;omega);refine ai ?_;by_cases c1:l[m].1=x
   .have d1:decide (((l[m].1:Nat):Int)=((x:Nat):Int))=true:=aP om;have hp:atP x l[m]=true:=aP (.inl c1);refine aE (M6 f5 f11 f9 a5 ra d1) ?_;refine cI (Z0) (aE (M3 f10 f11 t1) ?_);refine⟨b',⟨?_,x5.trans t3⟩,_,(M2 f11 w1),H3 f2 f5 f9⟩;rw[hst,if_pos hp,pp];exact t2
   .have d1:decide (((l[m].1:Nat):Int)=((x:Nat):Int))=false:=aL om;by_cases c2:l[m].2=x
    .have d2:decide (((l[m].2:Nat):Int)=((x:Nat):Int))=true:=aP om;have hp:atP x l[m]=true:=aP (.inr c2);refine aE (M8 f5 f11 f9 a5 ra d1 rb d2) ?_;refine cI (Z0) (aE (M3 f10 f11 t1) ?_);refine⟨b',⟨?_,x5.trans t3⟩,_,(M2 f11 w1),H3 f2 f5 f9⟩;rw[hst,if_pos hp,pp];exact t2
    .have d2:decide (((l[m].2:Nat):Int)=((x:Nat):Int))=false:=aL om;have hp:atP x l[m]=false:=aL om;refine aE (M8 f5 f11 f9 a5 ra d1 rb d2) ?_;refine dJ (Z0) (bM ⟨b,⟨?_,x5⟩,_,(M2 f11 w1),H4 f2 f5 f9 f10⟩);rw[hst,if_neg (by simp[hp])];exact i5
  rintro b ts h5 ⟨i5,x5⟩ ⟨f2,f5,f9,f10,f11,-⟩;simp only at f2 f5 f9 f10;have n5:=x5.nx;have hflt:=Mh l x;have lenB:jb b=some (.int .i64 ((atI l x l.length).length:Nat)):=by
   have:=(et i5).len;rw[ah,ah]at this;exact this
  have X5:Ext h1.next h1 h5:=k3.trans (x5.mono om);have i2:IsSl h5 2 h1.next a (pC l):=k2.ext x5 (ab _);refine ai (ai ?_);by_cases c2:(atI l x l.length).length=2
  case neg =>
   have d2:decide ((((atI l x l.length).length:Nat):Int)=2)=false:=aL om;refine aE (M3 f10 lenB d2) ?_;refine cI (Z0) (fO ⟨λ_=>⟨(a,l),⟨?_,i2,X5⟩,_,(M2 f9 w1x),H2 f2 f5⟩,λe=>absurd rfl e⟩);rw[finP_succ,k1];show smP x l=some l;unfold smP;rw[hflt]
   match hq:atI l x l.length,c2 with
   |[],_=>rfl
   |[_],_=>rfl
   |[_,_],c=>exact absurd rfl c
   |_::_::_::_,_=>rfl
  have d2:decide ((((atI l x l.length).length:Nat):Int)=2)=true:=aP om;refine aE (M3 f10 lenB d2) ?_;refine dJ (Z0) (bM ?_);obtain⟨i,j,hij⟩:∃i j,atI l x l.length=[i,j]:=by
   match hq:atI l x l.length,c2 with
   |[i,j],_=>exact⟨i,j,rfl⟩
  obtain⟨hi,hpi⟩:=Jq (l:=l) (x:=x) (k:=l.length) (i:=i) (by rw[hij];simp);obtain⟨hj,hpj⟩:=Jq (l:=l) (x:=x) (k:=l.length) (i:=j) (by rw[hij];simp);have gi:l.getD i (0,0)=l[i]:=by rw[aj,ae hi];rfl
  have gj:l.getD j (0,0)=l[j]:=by rw[aj,ae hj];rfl
  rw[gi]at hpi;rw[gj]at hpj;have hpi:l[i].1=x\/l[i].2=x:=dg hpi;have hpj:l[j].1=x\/l[j].2=x:=dg hpj;obtain⟨bi1,bi2⟩:=hB l[i] (aR hi);obtain⟨bj1,bj2⟩:=hB l[j] (aR hj);have hsm:smP x l=if l[i].1+l[i].2-x=l[j].1+l[j].2-x then none else some (mg l i j l.length++[(min (l[i].1+l[i].2-x) (l[j].1+l[j].2-x),max (l[i].1+l[i].2-x) (l[j].1+l[j].2-x))]):=by
   unfold smP;rw[hflt,hij,<-Em hij];simp only[bm,oN,gi,gj]
  have sb:=et i5;rw[hij]at sb;have sl5:SlE h5 a (l.map pE):=tu i2;obtain⟨q1,q2,q3,q4,_⟩:=sb.at1 (i:=0) (y:=.int .i64 ((i:Nat):Int)) rfl;obtain⟨r1,r2,r3,r4,_⟩:=sb.at1 (i:=1) (y:=.int .i64 ((j:Nat):Int)) rfl;have q3:iQ 1 b (.int .i64 0)=some (.ptr q1 q2):=q3;have r3:iQ 1 b (.int .i64 1)=some (.ptr r1 r2):=r3;obtain⟨u1,u2,u3,_,ur,_⟩:=sl5.at (i:=i) (x:=eE (pE l[i])) (by rw[aF,aF,ae hi];rfl);obtain⟨v1,v2,v3,_,vr,_⟩:=sl5.at (i:=j) (x:=eE (pE l[j])) (by rw[aF,aF,ae hj];rfl);have ua:ar h5 u1 u2 1=some [.int .i64 ((l[i].1:Nat):Int)]:=ur 0 _ rfl;have ub:ar h5 u1 (u2+1) 1=some [.int .i64 ((l[i].2:Nat):Int)]:=ur 1 _ rfl;have va:ar h5 v1 v2 1=some [.int .i64 ((l[j].1:Nat):Int)]:=vr 0 _ rfl;have vb:ar h5 v1 (v2+1) 1=some [.int .i64 ((l[j].2:Nat):Int)]:=vr 1 _ rfl;have wi1:IntKind.i64.wrap (((l[i].1:Nat):Int)+((l[i].2:Nat):Int))=((l[i].1+l[i].2:Nat):Int):=by rw[ft om om];omega
  have wi2:IntKind.i64.wrap (((l[i].1+l[i].2:Nat):Int)-((x:Nat):Int))=((l[i].1+l[i].2-x:Nat):Int):=by rw[ft om om];omega
  have wj1:IntKind.i64.wrap (((l[j].1:Nat):Int)+((l[j].2:Nat):Int))=((l[j].1+l[j].2:Nat):Int):=by rw[ft om om];omega
  have wj2:IntKind.i64.wrap (((l[j].1+l[j].2:Nat):Int)-((x:Nat):Int))=((l[j].1+l[j].2-x:Nat):Int):=by rw[ft om om];omega
  refine ai (aE (M10 f5 f9 f10 q3 q4 u3 ua ub wi1 wi2) ?_);refine ai (aE (M10 f5 f9 f10 r3 r4 v3 va vb wj1 wj2) ?_);generalize l[i].1+l[i].2-x=A at *
  generalize l[j].1+l[j].2-x=B at *
  refine ai (ai ?_);by_cases cab:A=B
  .have d3:decide (((A:Nat):Int)=((B:Nat):Int))=true:=aP om;refine aE (M1 d3) ?_;refine cI (Z0) (ai (aE (M0) ?_));refine bP ⟨_,(by simp only[rs,rf6,am,aJ,simprocAttr]<;>rfl),(mem X5).1,.inr ⟨hR,.inl ⟨ET (k:=x+1) ?_ hx,rfl⟩⟩⟩;rw[finP_succ,k1];show smP x l=none;rw[hsm,if_pos cab]
  have d3:decide (((A:Nat):Int)=((B:Nat):Int))=false:=aL om;refine aE (M1 d3) ?_;refine dJ (Z0) (bM ?_);have x6:Ext h5.next h5 (h5.new (.cells [] 2 false)):=Og (ab _);have g6:(h5.new (.cells [] 2 false)).get h5.next=some (.cells [] 2 false):=by rw[AH.get_new,if_pos rfl]
  have n6:(h5.new (.cells [] 2 false)).next=h5.next+1:=rfl;refine ai (aE (M0) ?_);generalize h5.new (.cells [] 2 false)=h6 at *
  refine ai (ai (aE (M0) ?_))
  refine lw (α:=AV) (N:=l.length) (λm c=>[(2,.ptr h.next 0),(5,a),(9,.int .i64 (x:Nat)),(10,b),(12,.int .i64 (A:Nat)),(13,.int .i64 (B:Nat)),(14,c),(15,.int .i64 (m:Nat))])
   (λm c h'=>IsSl h' 2 h5.next c (pC (mg l i j m))/\Ext h5.next h5 h') (.sl h5.next 0 0 0) (H5 f2 f5 f9 f10 @bJ) ⟨.inr ⟨h5.next,0,ab _,rfl,g6,rfl⟩,x6⟩ ?_ ?_ ?_
  .rintro m c ts h7 hm _ ⟨t2,t5,t9,t10,t12,t13,t14,t15,-⟩;simp only at t2 t5 t9 t10 t12 t13 t14 t15;exact⟨_,(by simp only[am,aJ,simprocAttr,t15,t5,lenA,eq]<;>rfl),Z0,by simp only[hl,am,aJ,simprocAttr,t2,t5,t9,t10,t12,t13,t14,t15]⟩
  .rintro m c ts h7 hm ⟨i7,x7⟩ ⟨t2,t5,t9,t10,t12,t13,t14,t15,-⟩;simp only at t2 t5 t9 t10 t12 t13 t14 t15;have n7:=x7.nx;have sl7:SlE h7 a (l.map pE):=tu (i2.ext x7 (ab _));have sb7:SlN h7 b [i,j]:=Sl.ext sb x7 (ab _);obtain⟨q1,q2,q3,q4,_⟩:=sb7.at1 (i:=0) (y:=.int .i64 ((i:Nat):Int)) rfl;obtain⟨r1,r2,r3,r4,_⟩:=sb7.at1 (i:=1) (y:=.int .i64 ((j:Nat):Int)) rfl;have q3:iQ 1 b (.int .i64 0)=some (.ptr q1 q2):=q3;have r3:iQ 1 b (.int .i64 1)=some (.ptr r1 r2):=r3;obtain⟨u1,u2,u3,u4,_,_⟩:=sl7.at (i:=m) (x:=eE (pE l[m])) (by rw[aF,aF,ae hm];rfl);have w1:IntKind.i64.wrap (((m:Nat):Int)+1)=((m+1:Nat):Int):=ft om om;have hst:=AZ l i j hm;have hrl:(mg l i j m).length<=m:=by
    unfold mg;rw[ah];refine bZ (cS _ _) ?_;rw[bH];exact ab _
   obtain⟨c',h8,y1,y2,y3,y4⟩:=i7.push (bytes:=16) [.int .i64 ((l[m].1:Nat):Int),.int .i64 ((l[m].2:Nat):Int)] om om rfl rfl (by rw[qE,fM _ om];unfold bd;omega) (by rw[qE,fM _ om];unfold bd;omega);refine ai ?_;by_cases c1:m=i
   .have d4:decide (((m:Nat):Int)=((i:Nat):Int))=true:=aP om;refine aE (M5 t15 t10 q3 q4 d4) ?_;refine dJ (Z0) (bM ⟨c,⟨?_,x7⟩,_,(M2 t15 w1),by simp only[hl,am,aJ,simprocAttr,t2,t5,t9,t10,t12,t13,t14]⟩);rw[hst,if_neg om];exact i7
   .have d4:decide (((m:Nat):Int)=((i:Nat):Int))=false:=aL om;by_cases c2:m=j
    .have d5:decide (((m:Nat):Int)=((j:Nat):Int))=true:=aP om;refine aE (M8 t15 t10 q3 q4 d4 r3 r4 d5) ?_;refine dJ (Z0) (bM ⟨c,⟨?_,x7⟩,_,(M2 t15 w1),by simp only[hl,am,aJ,simprocAttr,t2,t5,t9,t10,t12,t13,t14]⟩);rw[hst,if_neg om];exact i7
    .have d5:decide (((m:Nat):Int)=((j:Nat):Int))=false:=aL om;refine aE (M8 t15 t10 q3 q4 d4 r3 r4 d5) ?_;refine cI (Z0) (aE (by simp only[am,aJ,simprocAttr,t14,t5,t15,u3,u4,pE,eE,y1]<;>rfl) ?_);refine⟨c',⟨?_,x7.trans y3⟩,_,(M2 t15 w1),by simp only[hl,am,aJ,simprocAttr,t2,t5,t9,t10,t12,t13]⟩;rw[hst,if_pos ⟨c1,c2⟩,Bp];exact y2
  rintro c ts h7 ⟨i7,x7⟩ ⟨t2,t5,t9,t10,t12,t13,t14,t15,-⟩;simp only at t2 t9 t12 t13 t14;have n7:=x7.nx;have hrl:(mg l i j l.length).length<=l.length:=by
   unfold mg;rw[ah];refine bZ (cS _ _) ?_;rw[bH];exact ab _
  obtain⟨c',h8,y1,y2,y3,y4⟩:=i7.push (bytes:=16) [.int .i64 ((min A B:Nat):Int),.int .i64 ((max A B:Nat):Int)] om om rfl rfl (by rw[qE,fM _ om];unfold bd;omega) (by rw[qE,fM _ om];unfold bd;omega);refine aE (M8 t12 t13 t14 @mn2K @mx2 @Mx @My y1) ?_;refine⟨(c',mg l i j l.length++[(min A B,max A B)]),⟨?_,?_,X5.trans ((x7.trans y3).mono om)⟩,_,(M2 t9 w1x),H1 t2⟩
  .rw[finP_succ,k1];show smP x l=_;rw[hsm,if_neg cab]
  .rw[Bp];exact y2.mono om
 rintro⟨a,l⟩ ts h3 ⟨k1,k2,k3⟩ ⟨e2,e5,e9,-⟩;simp only at k1 k2 e2 e5;obtain⟨hS,hB,hlen⟩:=hfp k1;generalize hNd:n.toNat=N at *
 have ans:∀{h':AH}{r:AV},Ext h1.next h1 h'->MK N l r->Ext h.next h h'/\Mk n E L r:=fun {h' r} x t=>⟨(mem x).1,.inr ⟨hR,.inr ⟨l,by rw[hNd];exact k1,by rw[hNd];exact t⟩⟩⟩
 have lenA:jb a=some (.int .i64 (l.length:Nat)):=by
  have:=(tu k2).len;rw[ah,ah]at this;exact this
 have n3:=k3.nx;have x4:Ext h3.next h3 (h3.new (.cells [] 1 false)):=Og (ab _);have g4:(h3.new (.cells [] 1 false)).get h3.next=some (.cells [] 1 false):=by rw[AH.get_new,if_pos rfl]
 have n4:(h3.new (.cells [] 1 false)).next=h3.next+1:=rfl;refine ai (aE (M0) ?_);generalize h3.new (.cells [] 1 false)=h4 at *
 have X4:Ext h1.next h1 h4:=k3.trans (x4.mono om);have rn4:ar h4 h.next 0 1=some [.int .i64 n]:=bF (mem X4).2.1 rfl;have hmx:(if n<0 then(0:Int)else n)=((N:Nat):Int):=by split<;>omega
 have hmk:=pS (h:=h4) (z:=[.int .i64 0]) (e:=1) (bytes:=8) (n:=N) (by unfold bd;omega) (by unfold bd;omega);rw[iX,Fq]at hmk;have x5:Ext h4.next h4 (h4.new (.cells (lU N []) 1 false)):=Og (ab _);have g5:(h4.new (.cells (lU N []) 1 false)).get h4.next=some (.cells (lU N []) 1 false):=by rw[AH.get_new,if_pos rfl]
 have n5:(h4.new (.cells (lU N []) 1 false)).next=h4.next+1:=rfl;refine ai (aE (M5 e2 rn4 @mx2 hmx hmk) ?_);generalize h4.new (.cells (lU N []) 1 false)=h5 at *
 have X5:Ext h1.next h1 h5:=X4.trans (x5.mono om);have i5:IsSl h5 2 h1.next a (pC l):=(k2.ext x4 (ab _)).ext x5 (ab _);have al5:∀b o m c,a=.sl b o m c->b<h3.next:=λb o m c e=>k2.lt e;have slA:∀{h':AH},(∀c,c<h3.next->h'.get c=h5.get c)->SlE h' a (l.map pE):=fun {h'} q=>tu (i5.cong λb m e _=>q b (al5 b 0 m m e));refine ai (ai (aE (M0) ?_))
 refine lw (α:=Unit) (N:=l.length) (λk _=>[(2,.ptr h.next 0),(5,a),(16,.sl h3.next 0 0 0),(17,.sl h4.next 0 N N),(18,.int .i64 (k:Nat))])
  (λk _ h'=>Mod h5.next h5 h' h4.next (.cells (lU N (l.take k)) 1 false)/\(l.take k).Nodup) () (H3 e2 e5 @bJ) ⟨by rw[eT];exact Mod.refl g5,by rw[eT];exact pJ⟩ ?_ ?_ ?_
 .rintro k _ ts h6 hk _ ⟨e2,e5,e16,e17,e18,-⟩;simp only at e2 e5 e16 e17 e18;exact⟨_,(M4 e18 e5 lenA @eq),Z0,H5 e2 e5 e16 e17 e18⟩
 .rintro k _ ts h6 hk ⟨m6,nd6⟩ ⟨e2,e5,e16,e17,e18,-⟩;simp only at e2 e5 e16 e17 e18;have w1k:IntKind.i64.wrap (((k:Nat):Int)+1)=((k+1:Nat):Int):=ft om om;have s6:=slA (h':=h6) λc hc=>m6.gt c om om;have atE:∀{h':AH},SlE h' a (l.map pE)->∀(m:Nat) (hm:m<l.length),∃b q,iQ 2 a (.int .i64 (m:Nat))=some (.ptr b q)/\ar h' b q 1=some [.int .i64 ((l[m].1:Nat):Int)]/\ar h' b (q+1) 1=some [.int .i64 ((l[m].2:Nat):Int)]/\ar h' b q 2=some (eE (pE l[m])):=fun {h'} s m hm=>by
   obtain⟨b,q,a1,a2,rr,_⟩:=s.at (i:=m) (x:=eE (pE l[m])) (by rw[aF,aF,ae hm];rfl);exact⟨b,q,a1,rr 0 _ rfl,rr 1 _ rfl,a2⟩
  obtain⟨b6,q6,a6,ra6,rb6,_⟩:=atE s6 k hk;have hS':=hS l[k] (aR hk);obtain⟨hB1,hB2⟩:=hB l[k] (aR hk);have hnl:∀v,(nb (l.take k) v).length<=2*k:=λv=>by
   rw[HA];refine bZ List.count_le_length ?_;have:∀(m:List (Nat×Nat)),(m.flatMap λp=>[p.1,p.2]).length=2*m.length:=λm=>by
    induction m with
    |nil=>rfl
    |cons p r ih=>rw[cm,aG,ih];simp only[aA,aQ];omega
   rw[this,bG];omega
  have c1:ar h6 h4.next l[k].1 1=some [.int .i64 (((nb (l.take k) l[k].1).length:Nat):Int)]:=bF m6.get (oG hB1);have i1:gz ((l[k].1:Nat):Int) N=some l[k].1:=dW hB1;have i2:gz ((l[k].2:Nat):Int) N=some l[k].2:=dW hB2;have wA:IntKind.i64.wrap ((((nb (l.take k) l[k].1).length:Nat):Int)+1)=(((nb (l.take k) l[k].1).length+1:Nat):Int):=by have:=hnl l[k].1;rw[ft om om];omega
  have wB:IntKind.i64.wrap ((((nb (l.take k) l[k].2).length:Nat):Int)+1)=(((nb (l.take k) l[k].2).length+1:Nat):Int):=by have:=hnl l[k].2;rw[ft om om];omega
  have w7:=iE (v:=.int .i64 (((nb (l.take k) l[k].1).length+1:Nat):Int)) m6.get (show l[k].1<(lU N (l.take k)).length by rw[mz];exact hB1);have u7:=Oi (o:=.cells ((lU N (l.take k)).set l[k].1 (.int .i64 (((nb (l.take k) l[k].1).length+1:Nat):Int))) 1 false) m6.get;refine ai (aE (M10 e5 e17 e18 a6 ra6 i1 @aU c1 wA w7) ?_);generalize h6.put h4.next (.cells ((lU N (l.take k)).set l[k].1 (.int .i64 (((nb (l.take k) l[k].1).length+1:Nat):Int))) 1 false)=h7 at *
  have s7:=slA (h':=h7) λc hc=>by rw[u7.ne om];exact m6.gt c om om
  obtain⟨b7,q7,a7,ra7,rb7,_⟩:=atE s7 k hk;have c2:ar h7 h4.next l[k].2 1=some [.int .i64 (((nb (l.take k) l[k].2).length:Nat):Int)]:=bF u7.get (by rw[cM om];exact oG hB2);have w8:=iE (v:=.int .i64 (((nb (l.take k) l[k].2).length+1:Nat):Int)) u7.get (show l[k].2<((lU N (l.take k)).set l[k].1 (.int .i64 (((nb (l.take k) l[k].1).length+1:Nat):Int))).length by rw[cB,mz];exact hB2);rw[Fs hS' hB2,<-cj hk]at w8;have u8:=Oi (o:=.cells (lU N (l.take (k+1))) 1 false) u7.get;refine ai (aE (M10 e5 e17 e18 a7 rb7 i2 @aU c2 wB w8) ?_);generalize h7.put h4.next (.cells (lU N (l.take (k+1))) 1 false)=h8 at *
  have m8:Mod h5.next h5 h8 h4.next (.cells (lU N (l.take (k+1))) 1 false):=(m6.upd u7).upd u8;have X8:Ext h1.next h1 h8:=X5.trans ((m8.mono (m:=h1.next) om).toExt om);have s8:=slA (h':=h8) λc hc=>m8.gt c om om;refine ai (aE (M0) ?_)
  refine lw (α:=Unit) (N:=k) (λm _=>[(2,.ptr h.next 0),(5,a),(16,.sl h3.next 0 0 0),(17,.sl h4.next 0 N N),(18,.int .i64 (k:Nat)),(19,.int .i64 (m:Nat))])
   (λm _ h'=>h'=h8/\∀(j:Nat) (hj:j<l.length),j<m->l[j]≠l[k]) () (H6 e2 e5 e16 e17 e18 @bJ) ⟨rfl,λj hj hm=>absurd hm (eX _)⟩ ?_ ?_ ?_
  .rintro m _ ts h9 hm ⟨rfl,_⟩ ⟨f2,f5,f16,f17,f18,f19,-⟩;simp only at f2 f5 f16 f17 f18 f19;exact⟨_,(M3 f19 f18 @eq),Z0,H6 f2 f5 f16 f17 f18 f19⟩
  .rintro m _ ts h9 hm ⟨rfl,jm⟩ ⟨f2,f5,f16,f17,f18,f19,-⟩;simp only at f2 f5 f16 f17 f18 f19;have w1:IntKind.i64.wrap (((m:Nat):Int)+1)=((m+1:Nat):Int):=ft om om;have hml:m<l.length:=om;obtain⟨b9,q9,a9,_,_,r9⟩:=atE s8 m hml;obtain⟨bk,qk,ak,_,_,rk⟩:=atE s8 k hk;by_cases q:l[m]=l[k]
   .have c3:(pE l[m]==pE l[k])=true:=by rw[Hf];exact aP q
    refine ai (aE (M10 f5 f18 f19 a9 r9 ak rk @Ae c3 c3) ?_);refine cI (Z0) (ai (aE (M0) ?_));have hnn:¬l.Nodup:=λhn=>by
     exact du.1 hn m k hml hk hm q
    exact bP ⟨_,(by simp only[rs,rf6,am,aJ,simprocAttr]<;>rfl),ans X8 (.inr (.inr ⟨λd=>hnn d.1,λd=>hnn d.1,rfl⟩))⟩
   .have c3:(pE l[m]==pE l[k])=false:=by rw[Hf];exact aL q
    refine ai (aE (M10 f5 f18 f19 a9 r9 ak rk @Ae c3 c3) ?_);refine dJ (Z0) (bM ⟨(),⟨rfl,λj hj hjm=>?_⟩,_,(M2 f19 w1),H5 f2 f5 f16 f17 f18⟩);by_cases hjm':j=m
    .subst hjm';exact q
    .exact jm j hj om
  rintro _ ts h9 ⟨rfl,jm⟩ ⟨f2,f5,f16,f17,f18,f19,-⟩;simp only at f2 f5 f16 f17 f18;refine⟨(),⟨m8,?_⟩,_,(M2 f18 w1k),H4 f2 f5 f16 f17⟩;rw[cj hk,aS];refine⟨nd6,by simp,λx hx y hy=>?_⟩;rw[bI]at hy;subst hy;obtain⟨j,hj,rfl⟩:=jX.1 hx;exact jm j om om
 rintro _ ts h6 ⟨m6,nd6⟩ ⟨e2,e5,e16,e17,e18,-⟩;simp only at e2 e5 e16 e17;rw[dL]at m6 nd6;have n6:=m6.nx;have X6:Ext h1.next h1 h6:=X5.trans ((m6.mono (m:=h1.next) om).toExt om);have g6:h6.get h3.next=some (.cells [] 1 false):=by rw[m6.gt _ om om,x5.gt _ om];exact g4
 refine ai (ai (aE (M0) ?_));let hdK:Nat->List Nat:=λk=>(List.range k).filter λv=>decide (0<(nb l v).length)
 refine lw (α:=AV) (N:=N) (λk b=>[(2,.ptr h.next 0),(5,a),(16,b),(17,.sl h4.next 0 N N),(20,.int .i64 (k:Nat))])
  (λk b h'=>IsSl h' 1 h3.next b (nC (hdK k))/\(∀m,b≠.sl h4.next 0 m m)/\Ext h3.next h6 h'/\h'.get h4.next=some (.cells (lU N l) 1 false)) (.sl h3.next 0 0 0) (H5 e2 e5 e16 e17 @bJ)
  ⟨.inr ⟨h3.next,0,ab _,rfl,g6,rfl⟩,(λm e=>by simp only[AV.sl.injEq]at e;omega),Oh,m6.get⟩ ?_ ?_ ?_
 .rintro k b ts h7 hk _ ⟨e2,e5,e16,e17,e20,-⟩;simp only at e2 e5 e16 e17 e20;exact⟨_,(M3 e20 e17 @eq),Z0,H5 e2 e5 e16 e17 e20⟩
 .rintro k b ts h7 hk ⟨j1,j2,j3,j4⟩ ⟨e2,e5,e16,e17,e20,-⟩;simp only at e2 e5 e16 e17 e20;have n7:=j3.nx;have w1:IntKind.i64.wrap (((k:Nat):Int)+1)=((k+1:Nat):Int):=ft om om;have ik:gz ((k:Nat):Int) N=some k:=dW hk;have ck:ar h7 h4.next k 1=some [.int .i64 (((nb l k).length:Nat):Int)]:=bF j4 (oG hk);have hst:hdK (k+1)=if 0<(nb l k).length then hdK k++[k]else hdK k:=by
   show(List.range (k+1)).filter _=_;rw[dl,iM,iB];by_cases q:0<(nb l k).length
   .rw[if_pos q,if_pos (aP q)];rfl
   .rw[if_neg q,if_neg (by simpa using q),List.filter_nil,cH]
  have hkl:(hdK k).length<=k:=by
   show((List.range k).filter _).length<=k;refine bZ (cS _ _) ?_;rw[bH];exact ab _
  by_cases q:0<(nb l k).length
  .have c1:decide ((0:Int)<(((nb l k).length:Nat):Int))=true:=aP om;refine ai (aE (M6 e17 e20 ik @aU ck c1) ?_);obtain⟨b',h8,t1,t2,t3,t4,t5,t6⟩:=push2 (bytes:=8) [.int .i64 ((k:Nat):Int)] j1 om om rfl rfl (by rw[gU];unfold bd;omega) (by rw[gU];unfold bd;omega);refine cI (Z0) (aE (M3 e16 e20 t1) ?_);have h4l:=AH.lt_of_get j4;refine⟨b',⟨?_,λm e=>by have:=t6 _ _ e;omega,j3.trans t3,by rw[t5 _ h4l j2];exact j4⟩,_,(M2 e20 w1),H3 e2 e5 e17⟩;rw[hst,if_pos q,pp];exact t2
  .have c1:decide ((0:Int)<(((nb l k).length:Nat):Int))=false:=aL om;refine ai (aE (M6 e17 e20 ik @aU ck c1) ?_);refine dJ (Z0) (bM ⟨b,⟨?_,j2,j3,j4⟩,_,(M2 e20 w1),H4 e2 e5 e16 e17⟩);rw[hst,if_neg q];exact j1
 rintro b ts h7 ⟨j1,j2,j3,j4⟩ ⟨e2,e5,e16,e17,e20,-⟩;simp only at e2 e5 e16;have n7:=j3.nx;have hH:hdK N=hds N l:=rfl;rw[hH]at j1;have X7:Ext h1.next h1 h7:=X6.trans (j3.mono om);have lenB:jb b=some (.int .i64 ((hds N l).length:Nat)):=by
  have:=(et j1).len;rw[ah,ah]at this;exact this
 refine ai ?_;by_cases c5:l.length=10/\(hds N l).length=5
 .have d1:decide (((l.length:Nat):Int)=10)=true:=aP om;have d2:decide ((((hds N l).length:Nat):Int)=5)=true:=aP om;refine ai (aE (M6 e5 lenA d1 e16 lenB d2) ?_);refine cI (Z0) (ai (aE (M0) ?_));exact bP ⟨_,(by simp only[rs,rf6,am,aJ,simprocAttr]<;>rfl),ans X7 (.inl ⟨⟨nd6,c5⟩,rfl⟩)⟩
 have n5':¬doc5 N l:=λd=>c5 d.2;refine xg (λts' h'=>h'=h7/\Held [(2,.ptr h.next 0),(5,a),(16,b)] ts') ?_ ?_
 .by_cases c51:l.length=10
  .have d1:decide (((l.length:Nat):Int)=10)=true:=aP om;have d2:decide ((((hds N l).length:Nat):Int)=5)=false:=aL om;refine ai (aE (M6 e5 lenA d1 e16 lenB d2) ?_);exact dJ (Z0) (bM ⟨rfl,H3 e2 e5 e16⟩)
  .have d1:decide (((l.length:Nat):Int)=10)=false:=aL om;refine ai (aE (M3 e5 lenA d1) ?_);exact dJ (Z0) (bM ⟨rfl,H3 e2 e5 e16⟩)
 rintro ts hX ⟨hq,e2,e5,e16,-⟩;have hq':=hq.symm;clear hq;subst hq';simp only at e2 e5 e16;refine ai ?_;by_cases c9:l.length=9
 case neg =>
  have d1:decide (((l.length:Nat):Int)=9)=false:=aL om;refine ai (aE (M3 e5 lenA d1) ?_);refine cI (Z0) (ai (aE (M0) ?_));exact bP ⟨_,(by simp only[rs,rf6,am,aJ,simprocAttr]<;>rfl),ans X7 (.inr (.inr ⟨n5',λd=>c9 d.2.1,rfl⟩))⟩
 have d1:decide (((l.length:Nat):Int)=9)=true:=aP om;by_cases c6:(hds N l).length=6
 case neg =>
  have d2:decide ((((hds N l).length:Nat):Int)=6)=false:=aL om;refine ai (aE (M6 e5 lenA d1 e16 lenB d2) ?_);refine cI (Z0) (ai (aE (M0) ?_));refine bP ⟨_,(by simp only[rs,rf6,am,aJ,simprocAttr]<;>rfl),ans X7 (.inr (.inr ⟨n5',λd=>?_,rfl⟩))⟩;obtain⟨_,_,h0,r,q1,q2,_⟩:=d;rw[q1]at c6;simp at c6;omega
 have d2:decide ((((hds N l).length:Nat):Int)=6)=true:=aP om;refine ai (aE (M6 e5 lenA d1 e16 lenB d2) ?_);refine dJ (Z0) (bM ?_);obtain⟨y0,r0,hcons⟩:∃y0 r0,hds N l=y0::r0:=by
  cases hq:hds N l with
  |nil=>rw[hq]at c6;simp at c6
  |cons a r=>exact⟨a,r,rfl⟩
 have hrl:r0.length=5:=by rw[hcons]at c6;simpa using c6
 have hNn:n=((N:Nat):Int):=by
  have:0<N:=by
   cases N with
   |zero=>unfold hds at hcons;simp at hcons
   |succ N=>omega
  omega
 have rn7:ar h7 h.next 0 1=some [.int .i64 ((N:Nat):Int)]:=by rw[<-hNn];exact bF (mem X7).2.1 rfl
 have hNb:N<2^28:=om;have hmk7:=pS (h:=h7) (z:=[.bool false]) (e:=1) (bytes:=1) (n:=N) (by unfold bd;omega) (by unfold bd;omega);rw[iX,Ec N y0]at hmk7;have x8:Ext h7.next h7 (h7.new (.cells (lE N [] y0) 1 false)):=Og (ab _);have g8:(h7.new (.cells (lE N [] y0) 1 false)).get h7.next=some (.cells (lE N [] y0) 1 false):=by rw[AH.get_new,if_pos rfl]
 have n8:(h7.new (.cells (lE N [] y0) 1 false)).next=h7.next+1:=rfl;refine ai (aE (M3 e2 rn7 hmk7) ?_);generalize h7.new (.cells (lE N [] y0) 1 false)=h8 at *
 have X8:Ext h1.next h1 h8:=X7.trans (x8.mono om);have ia8:IsSl h8 2 h1.next a (pC l):=((i5.cong (h':=h6) λb m e _=>m6.gt b (by have:=al5 b 0 m m e;omega) (by have:=al5 b 0 m m e;omega)).cong (h':=h7) λb m e _=>j3.gt b (al5 b 0 m m e)).ext x8 (ab _);have ib8:IsSl h8 1 h3.next b (nC (hds N l)):=j1.ext x8 (ab _)
 have atE:∀{h':AH},Mod h8.next h8 h' h7.next (.cells (lE N [] y0) 1 false)\/(∃o,Mod h8.next h8 h' h7.next o)->∀(m:Nat) (hm:m<l.length),(∃b q,iQ 2 a (.int .i64 (m:Nat))=some (.ptr b q)/\ar h' b q 1=some [.int .i64 ((l[m].1:Nat):Int)]/\ar h' b (q+1) 1=some [.int .i64 ((l[m].2:Nat):Int)]) /\
  ∃b' q,iQ 1 b (.int .i64 0)=some (.ptr b' q)/\ar h' b' q 1=some [.int .i64 ((y0:Nat):Int)]:=fun {h'} hM m hm=>by
  obtain⟨o,hM⟩:∃o,Mod h8.next h8 h' h7.next o:=hM.elim (λq=>⟨_,q⟩) λq=>q;have al8:∀b o m c,a=.sl b o m c->b<h7.next:=λb o m c e=>by have:=al5 b o m c e;omega
  have bl8:∀b' o m c,b=.sl b' o m c->b'<h7.next:=λb' o m c e=>j1.lt e;obtain⟨b5,q5,a5,_,rr,_⟩:=(tu (ia8.cong (h':=h') λb m e _=>hM.gt b (by have:=al8 b 0 m m e;omega) (by have:=al8 b 0 m m e;omega))).at (i:=m) (x:=eE (pE l[m])) (by rw[aF,aF,ae hm];rfl);have sb:=et (ib8.cong (h':=h') λb m e _=>hM.gt b (by have:=bl8 b 0 m m e;omega) (by have:=bl8 b 0 m m e;omega));rw[hcons]at sb;obtain⟨q1,q2,q3,q4,_⟩:=sb.at1 (i:=0) (y:=.int .i64 ((y0:Nat):Int)) rfl;exact⟨⟨b5,q5,a5,rr 0 _ rfl,rr 1 _ rfl⟩,q1,q2,q3,q4⟩
 refine ai (aE (M0) ?_);refine ai (ai (aE (M0) ?_))
 refine lw (α:=Unit) (N:=l.length) (λk _=>[(5,a),(16,b),(21,.sl h7.next 0 N N),(22,.int .i64 ((nb (l.take k) y0).length:Nat)),(23,.int .i64 (k:Nat))])
  (λk _ h'=>Mod h8.next h8 h' h7.next (.cells (lE N (l.take k) y0) 1 false)) () (by simp only[hl,am,aJ,simprocAttr,e5,e16,bJ,eT,show(nb [] y0).length=0 from rfl]) (by rw[eT];exact Mod.refl g8) ?_ ?_ ?_
 .rintro k _ ts h9 hk _ ⟨e5,e16,e21,e22,e23,-⟩;simp only at e5 e16 e21 e22 e23;exact⟨_,(M4 e23 e5 lenA @eq),Z0,H5 e5 e16 e21 e22 e23⟩
 .rintro k _ ts h9 hk m9 ⟨e5,e16,e21,e22,e23,-⟩;simp only at m9 e5 e16 e21 e22 e23;have w1k:IntKind.i64.wrap (((k:Nat):Int)+1)=((k+1:Nat):Int):=ft om om;obtain⟨⟨b5,q5,a5,ra,rb⟩,q1,q2,q3,q4⟩:=atE (h':=h9) (.inr ⟨_,m9⟩) k hk;have hS':=hS l[k] (aR hk);obtain⟨hB1,hB2⟩:=hB l[k] (aR hk);have hnl:(nb (l.take k) y0).length<=2*k:=by
   rw[HA];refine bZ List.count_le_length ?_;have:∀(m:List (Nat×Nat)),(m.flatMap λp=>[p.1,p.2]).length=2*m.length:=λm=>by
    induction m with
    |nil=>rfl
    |cons p r ih=>rw[cm,aG,ih];simp only[aA,aQ];omega
   rw[this,bG];omega
  have wn:IntKind.i64.wrap ((((nb (l.take k) y0).length:Nat):Int)+1)=(((nb (l.take k) y0).length+1:Nat):Int):=by rw[ft om om];omega
  have hts:=cj hk;by_cases ca:l[k].1=y0
  .have cb:¬l[k].2=y0:=om;have d3:decide (((l[k].1:Nat):Int)=((y0:Nat):Int))=true:=aP om;have d4:decide (((l[k].2:Nat):Int)=((y0:Nat):Int))=false:=aL om;have i2:gz ((l[k].2:Nat):Int) N=some l[k].2:=dW hB2;have hy:nb (l.take k++[l[k]]) y0=nb (l.take k) y0++[l[k].2]:=by rw[sF,if_pos ca,if_neg cb];rfl
   have w8:=iE (v:=.bool true) m9.get (show l[k].2<(lE N (l.take k) y0).length by rw[md];exact hB2);rw[vA hy hB2,<-hts]at w8;have u8:=Oi (o:=.cells (lE N (l.take (k+1)) y0) 1 false) m9.get;refine ai (ai (aE (M8 e5 e23 a5 ra e16 q3 q4 d3) ?_));refine cI (Z0) (ai (aE (M8 e21 e5 e23 a5 rb i2 @aU w8) ?_));generalize h9.put h7.next (.cells (lE N (l.take (k+1)) y0) 1 false)=h10 at *
   have m10:=m9.upd u8;obtain⟨⟨b5',q5',a5',ra',rb'⟩,q1',q2',q3',q4'⟩:=atE (h':=h10) (.inr ⟨_,m10⟩) k hk;refine aE (M2 e22 wn) ?_;refine ai (aE (M8 e5 e23 a5' rb' e16 q3' q4' d4) ?_);refine dJ (Z0) (bM ⟨(),m10,_,(M2 e23 w1k),?_⟩);have hl10:(nb (l.take (k+1)) y0).length=(nb (l.take k) y0).length+1:=by rw[hts,hy,aG];rfl
   exact by simp only[hl,am,aJ,simprocAttr,e5,e16,e21,hl10]
  .have d3:decide (((l[k].1:Nat):Int)=((y0:Nat):Int))=false:=aL om;refine ai (ai (aE (M8 e5 e23 a5 ra e16 q3 q4 d3) ?_));refine dJ (Z0) (bM ?_);by_cases cb:l[k].2=y0
   .have d4:decide (((l[k].2:Nat):Int)=((y0:Nat):Int))=true:=aP om;have i1:gz ((l[k].1:Nat):Int) N=some l[k].1:=dW hB1;have hy:nb (l.take k++[l[k]]) y0=nb (l.take k) y0++[l[k].1]:=by rw[sF,if_neg ca,if_pos cb];rfl
    have w8:=iE (v:=.bool true) m9.get (show l[k].1<(lE N (l.take k) y0).length by rw[md];exact hB1);rw[vA hy hB1,<-hts]at w8;have u8:=Oi (o:=.cells (lE N (l.take (k+1)) y0) 1 false) m9.get;refine ai (aE (M8 e5 e23 a5 rb e16 q3 q4 d4) ?_);refine cI (Z0) (ai (aE (M8 e21 e5 e23 a5 ra i1 @aU w8) ?_));refine aE (M2 e22 wn) ?_;refine⟨(),m9.upd u8,_,(M2 e23 w1k),?_⟩;have hl10:(nb (l.take (k+1)) y0).length=(nb (l.take k) y0).length+1:=by rw[hts,hy,aG];rfl
    exact by simp only[hl,am,aJ,simprocAttr,e5,e16,e21,hl10]
   .have d4:decide (((l[k].2:Nat):Int)=((y0:Nat):Int))=false:=aL om;obtain⟨z1,z2⟩:=Ed (N:=N) (l:=l.take k) ca cb;rw[<-hts]at z1 z2;refine ai (aE (M8 e5 e23 a5 rb e16 q3 q4 d4) ?_);refine dJ (Z0) (bM ⟨(),by rw[z1];exact m9,_,(M2 e23 w1k),?_⟩);exact by simp only[hl,am,aJ,simprocAttr,e5,e16,e21,e22,z2]
 rintro _ ts h9 m9 ⟨e5,e16,e21,e22,e23,-⟩;simp only at m9 e5 e16 e21 e22;rw[dL]at m9 e22;have X9:Ext h1.next h1 h9:=X8.trans ((m9.mono (m:=h1.next) om).toExt om);refine ai (ai (aE (M0) ?_))
 refine lw (α:=Unit) (N:=l.length) (λk _=>[(5,a),(21,.sl h7.next 0 N N),(22,.int .i64 ((nb l y0).length:Nat)),(24,.int .i64 (k:Nat))])
  (λk _ h'=>h'=h9/\∀(j:Nat) (hj:j<l.length),j<k->sideB l y0 l[j].1≠sideB l y0 l[j].2) () (H4 e5 e21 e22 @bJ) ⟨rfl,λj hj hk=>absurd hk (eX _)⟩ ?_ ?_ ?_
 .rintro k _ ts h10 hk _ ⟨e5,e21,e22,e24,-⟩;simp only at e5 e21 e22 e24;exact⟨_,(M4 e24 e5 lenA @eq),Z0,H4 e5 e21 e22 e24⟩
 .rintro k _ ts h10 hk ⟨rfl,jm⟩ ⟨e5,e21,e22,e24,-⟩;simp only at e5 e21 e22 e24;have w1k:IntKind.i64.wrap (((k:Nat):Int)+1)=((k+1:Nat):Int):=ft om om;obtain⟨⟨b5,q5,a5,ra,rb⟩,_⟩:=atE (h':=h10) (.inr ⟨_,m9⟩) k hk;obtain⟨hB1,hB2⟩:=hB l[k] (aR hk);have i1:gz ((l[k].1:Nat):Int) N=some l[k].1:=dW hB1;have i2:gz ((l[k].2:Nat):Int) N=some l[k].2:=dW hB2;have s1:ar h10 h7.next l[k].1 1=some [.bool (sideB l y0 l[k].1)]:=bF m9.get (pN hB1);have s2:ar h10 h7.next l[k].2 1=some [.bool (sideB l y0 l[k].2)]:=bF m9.get (pN hB2);by_cases q:sideB l y0 l[k].1=sideB l y0 l[k].2
  .have c3:(sideB l y0 l[k].1==sideB l y0 l[k].2)=true:=by rw[beq_iff_eq];exact q
   refine ai (aE (M14 e5 e21 e24 a5 ra rb i1 i2 @aU s1 s2 @uA c3 c3) ?_);refine cI (Z0) (ai (aE (M0) ?_));refine bP ⟨_,(by simp only[rs,rf6,am,aJ,simprocAttr]<;>rfl),ans X9 (.inr (.inr ⟨n5',λd=>?_,rfl⟩))⟩;obtain⟨_,_,h0,r,t1,t2,t3,_⟩:=d;rw[hcons]at t1;cases t1;exact t3 l[k] (aR hk) q
  .have c3:(sideB l y0 l[k].1==sideB l y0 l[k].2)=false:=by rw[beq_eq_false_iff_ne];exact q
   refine ai (aE (M14 e5 e21 e24 a5 ra rb i1 i2 @aU s1 s2 @uA c3 c3) ?_);refine dJ (Z0) (bM ⟨(),⟨rfl,λj hj hjm=>?_⟩,_,(M2 e24 w1k),H3 e5 e21 e22⟩);by_cases hjm':j=k
   .subst hjm';exact q
   .exact jm j hj om
 rintro _ ts h10 ⟨rfl,jm⟩ ⟨e5,e21,e22,e24,-⟩;simp only at e22;refine ai ?_;by_cases c3:(nb l y0).length=3
 .have d3:decide ((((nb l y0).length:Nat):Int)=3)=true:=aP om;refine ai (aE (M2 e22 d3) ?_);refine dJ (Z0) (bM ?_);refine ai (aE (M0) ?_);refine bP ⟨_,(by simp only[rs,rf6,am,aJ,simprocAttr]<;>rfl),ans X9 (.inr (.inl ⟨n5',⟨nd6,c9,y0,r0,hcons,hrl,λp hp=>?_,c3⟩,rfl⟩))⟩;obtain⟨j,hj,rfl⟩:=ii hp;exact jm j hj hj
 .have d3:decide ((((nb l y0).length:Nat):Int)=3)=false:=aL om;refine ai (aE (M2 e22 d3) ?_);refine cI (Z0) (ai (aE (M0) ?_));refine bP ⟨_,(by simp only[rs,rf6,am,aJ,simprocAttr]<;>rfl),ans X9 (.inr (.inr ⟨n5',λd=>?_,rfl⟩))⟩;obtain⟨_,_,h0,r,t1,t2,_,t4⟩:=d;rw[hcons]at t1;cases t1;exact c3 t4
open Go.Am
open Go.Kur (finP doc5 doc33)
open Go.Pla (Dual at_ DP QP Pok gP gP_at pok_at)
def jd(E:List (Int×Int))(L:List Int):List (Int×Int):=L.map λi=>E.getD i.toNat (0,0)
theorem vZ(hE:InG n E)(hL:∀i∈L,0<=i/\i<((E.length:Nat):Int)):jd E L=gh E (λv=>v) (nLK L):=by
 unfold jd gh nLK;rw[lZ];refine dI λi hi=>?_;have:=hL i hi;have hlt:i.toNat<E.length:=om;simp only[Function.comp];rw[aj,ae hlt];exact(hE _ hlt).1
theorem CI(hE:InG n E)(hL:∀i,i<E.length->tlE E i≠hdE E i)(hK:∀i∈K,i<E.length):Pok n (K.map (pr0 E)):=λp hp=>by
 obtain⟨i,hi,rfl⟩:=bh.1 hp;have h1:=hE i (hK i hi);have h2:=hL i (hK i hi);have e1:tlK E i=tlE E i:=rfl;have e2:hdK E i=hdE E i:=rfl;unfold pr0;rw[e1,e2];simp only;omega
theorem xR{n:Nat}(hP:gH (n:Nat) E)(nd:K.Nodup)(hK:∀i∈K,i<E.length):IsP (n:Nat) (gh E (λv=>v) K)↔DP n (K.map (pr0 E)):=by
 obtain⟨hP',hE',hL'⟩:=to hP nd hK (ν:=λv=>v) (λv hv=>hv) (λu v _ _ e=>e);have hE:InG n E:=by simpa using nQ hP.1
 have hL:=vP hP.1 hP.2.1;have pk:=CI hE hL hK;rw[xS hP' hE' hL'];have hat:∀e,e<K.length->∀v,at_ (grE n (gh E (λv=>v) K) hE' hL') e v=at_ (gP n (K.map (pr0 E)) pk) e v:=λe he v=>by
  rw[gP_at];show((tlE (gh E (λv=>v) K) e==v)^^(hdE (gh E (λv=>v) K) e==v))=_;rw[(iY he).1,(iY he).2,aj,aF,ae he];simp only[aI,eu];show _=(((min (tlE E K[e]) (hdE E K[e]))==v)^^((max (tlE E K[e]) (hdE E K[e]))==v))
  rcases Nat.le_total (tlE E K[e]) (hdE E K[e])with z|z
  .rw[dK z,su z]
  .rw[jV z,uJ z,kG]
 rw[iP];constructor
 .rintro⟨Φ,l,r,d⟩;refine⟨pk,Φ,l,r,?_⟩;rw[ah];exact d.gr λe he v=>hat e (aB.1 he) v
 .rintro⟨_,Φ,l,r,d⟩;rw[ah]at d;exact⟨Φ,l,r,d.gr λe he v=>(hat e (aB.1 he) v).symm⟩
theorem IC{i:Nat}(hi:i<K.length):((K.map (pr0 E)).erase (pr0 E K[i])).Perm ((K.take i++K.drop (i+1)).map (pr0 E)):=by
 have h0:K.Perm (K[i]::(K.take i++K.drop (i+1))):=by
  have e:K=K.take i++K[i]::K.drop (i+1):=by rw[<-cr hi,cQ]
  conv=>lhs;rw[e]
  exact List.perm_middle
 have h1:(K.map (pr0 E)).Perm (pr0 E K[i]::(K.take i++K.drop (i+1)).map (pr0 E)):=h0.map (pr0 E);have h2:=h1.erase (pr0 E K[i]);rwa [nD]at h2
theorem NX{n:Nat}(hP:gH (n:Nat) E){r:AV}(ha:Mk (n:Nat) E L r):r=.int .i64 0 \/
 ((r=.int .i64 5\/r=.int .i64 33)/\(∀i∈L,0<=i/\i<((E.length:Nat):Int))/\¬IsP (n:Nat) E/\¬IsP (n:Nat) (jd E L)/\∀i,i<L.length->IsP (n:Nat) (jd E (L.take i++L.drop (i+1)))):=by
 have hE:InG n E:=by simpa using nQ hP.1
 have hL:=vP hP.1 hP.2.1;rcases ha with⟨_,h⟩|⟨hR,⟨_,h⟩|⟨l,hl,ht⟩⟩
 .exact .inl h
 .exact .inl h
 obtain⟨nd,hok⟩:=hR.lay.nodup;have hin:∀i∈L,0<=i/\i<((E.length:Nat):Int):=λi hi=>⟨(hok i hi).1,(hok i hi).2.1⟩
 have hK:∀i∈nLK L,i<E.length:=λi hi=>by
  obtain⟨z,hz,rfl⟩:=bh.1 hi;have:=hin z hz;omega
 have pk:=CI hE hL hK;have hnn:((n:Nat):Int).toNat=n:=fE n;rw[hnn]at hl ht;obtain⟨k1,k2,k3⟩:=Go.Pla.finP_dp (N:=n) (l:=l0 E L) pk hl;have fin:(¬DP n l/\QP n l)->(∀i∈L,0<=i/\i<((E.length:Nat):Int))/\¬IsP (n:Nat) E/\¬IsP (n:Nat) (jd E L)/\∀i,i<L.length->IsP (n:Nat) (jd E (L.take i++L.drop (i+1))):=λ⟨f1,f2⟩=>by
  have g1:¬DP n ((nLK L).map (pr0 E)):=λd=>f1 (k2.1 d);have g2:QP n ((nLK L).map (pr0 E)):=k3 f2;refine⟨hin,λh=>?_,λh=>?_,λi hi=>?_⟩
  .exact g1 ((xR hP nd hK).1 (Ib h nd hK (ν:=λv=>v) (λv hv=>hv) (λu v _ _ e=>e)))
  .rw[vZ hE hin]at h;exact g1 ((xR hP nd hK).1 h)
  .have hi':i<(nLK L).length:=by unfold nLK;rw[ah];exact hi
   have e1:nLK (L.take i++L.drop (i+1))=(nLK L).take i++(nLK L).drop (i+1):=by unfold nLK;rw[dm,fy,fz]
   have e2:((nLK L).take i++(nLK L).drop (i+1)).Nodup:=by rw[<-mC];exact nd.eraseIdx i
   rw[vZ hE (λz hz=>hin z (by rw[<-mC]at hz;exact List.mem_of_mem_eraseIdx hz)),e1,xR hP e2 (λz hz=>hK z (by rw[<-mC]at hz;exact List.mem_of_mem_eraseIdx hz))];exact Go.Pla.dp_perm (IC hi') (g2 _ (bh.2 ⟨_,aR hi',rfl⟩))
 rcases ht with⟨h5,h⟩|⟨_,h33,h⟩|⟨_,_,h⟩
 .exact .inr ⟨.inl h,fin (Go.Pla.five_dp k1 h5)⟩
 .exact .inr ⟨.inr h,fin (Go.Pla.six_dp k1 h33)⟩
 .exact .inl h
open Go.Am
theorem apps{esz lo bytes:Nat}{v w:AV}{cs:List AV}{xs:List (List AV)}(hv:IsSl h esz lo v cs)(hlo:lo<=h.next)(he:0<esz)(hw:Sl h esz w xs)(ho:xs.flatten.all AV.one=true)
 (hb:(cs.length/esz+xs.length)*bytes<bd) (hc:cs.length/esz+xs.length<bd):∃v' h',gI h esz bytes v w=some (v',h')/\IsSl h' esz lo v' (cs++xs.flatten)/\Ext lo h h'/\h.next<=h'.next/\(∀c,c<h.next->(∀b n,v=.sl b 0 n n->c≠b)->h'.get c=h.get c):=by
 obtain⟨hs,hfl⟩:=hw.src;by_cases h0:xs.length=0
 .have hx0:xs=[]:=bB.1 h0;subst hx0;refine⟨v,h,?_,by simpa using hv,Oh,ab _,λ_ _ _=>rfl⟩;rcases hv with⟨rfl,rfl⟩|⟨b,n,h1,rfl,h3,h4⟩
  .simp only[gI,hs,ho,if_true,aQ]
  .simp only[gI,hs,ho,if_true,aQ]
 .rcases hv with⟨rfl,rfl⟩|⟨b,n,h1,rfl,h3,h4⟩
  .refine⟨.sl h.next 0 xs.length xs.length,h.new (.cells xs.flatten esz false),?_,.inr ⟨h.next,xs.length,hlo,rfl,by rw[AH.get_new];simp,by simpa using hfl⟩,Og hlo,by simp,λc hc _=>by rw[AH.get_new,if_neg om]⟩;simp only[gI,hs,ho,if_true,h0,if_false];simp only[aQ,Nat.zero_div,bX]at hb hc;rw[if_pos ⟨hb,hc⟩]
  .have hnn:cs.length/esz=n:=by rw[h4,fM _ he]
   rw[hnn]at hb hc;have hr2:ar h b 0 (n*esz)=some cs:=by
    rw[bC h3,if_pos om,bN,<-h4,dL]
   refine⟨.sl h.next 0 (n+xs.length) (n+xs.length),(h.put b .dead).new (.cells (cs++xs.flatten) esz false),?_,.inr ⟨h.next,n+xs.length,hlo,rfl,by rw[AH.get_new,AH.next_put];simp,by rw[aG,hfl,h4,dr]⟩,?_,by simp,?_⟩
   .simp only[gI,hs,ho,if_true,h0,if_false];rw[if_neg om,if_pos ⟨hb,hc⟩,h3,hr2];simp only[if_true]
   .exact(Ext.put h1).trans (Og (by simpa using hlo))
   .intro c hc hne;rw[AH.get_new,AH.next_put,if_neg om,AH.get_put _ _ _ _ (AH.lt_of_get h3),if_neg (Ne.symm (hne b n rfl))]
open Go.Am
open Go.Pla (Dual at_ t5 h5)
theorem IG(e:Int×Int):(eE e).length=2:=rfl
theorem NU(E:List (Int×Int)):(E.flatMap eE).length=E.length*2:=fJ IG E
end Go.Proofs.YtcfncejilmimpaaGreat
