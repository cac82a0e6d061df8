/- arborlaw08.Made, the walk. -/
import Derived.Test.YtlolkmcdimgplaaGreatVTAZ
import Derived.Test.YtlolkmcdimgplaaGreatVAmSrt
import Derived.Shelf.Slices.In.SortAlone
import Derived.Deep.QuietTactic
import Derived.BigQuiet
set_option linter.all false
namespace Go.Proofs.YtlolkmcdimgplaaGreat
open Go.Am
variable {E:List (Int×Int)}{c:Int}{h:AH}{i0 n:Nat}{lv r:AV}
set_option maxHeartbeats 2000000 in
theorem EU{t:Bool}{lens:List Int}(hlv:SlI h lv lens) :
 C prg 5 [.bool t,lv] h λr h'=>∃ev,r=.agg [.int .i64 (mB t lens:Nat),ev]/\SlE h' ev (tY t lens)/\Ext h.next h h':=by
 have ll:=hlv.len;rw[ah]at ll;refine Ny pf5 ?_;refine ai (aD (Mi0) ?_);have x0:Ext h.next h (h.new (.cells [.int .i64 0,.nils] 2 false)):=Nt (ab _);have g0:(h.new (.cells [.int .i64 0,.nils] 2 false)).get h.next=some (.cells [.int .i64 0,.nils] 2 false):=by rw[AH.get_new,if_pos rfl]
 have n0:(h.new (.cells [.int .i64 0,.nils] 2 false)).next=h.next+1:=rfl;generalize (h.new (.cells [.int .i64 0,.nils] 2 false))=h1 at *
 have hf5:C prg 10 [.int .i64 5] h1 λv h'=>∃ev,v=.agg [.int .i64 5,ev]/\SlE h' ev (mE 5 5)/\Ext h1.next h1 h':=wI (h:=h1) (n:=5) om;refine ai (bS (jU (Zi0) (Mi0) (hf5) λr h2 hq=>?_));obtain⟨ev0,rfl,hE0,x2⟩:=hq;rw[Ad]at hE0;have n2:=x2.nx;obtain⟨pb,hpb⟩:∃p,p=h2.next:=⟨_,rfl⟩
 obtain⟨h3,w3,x3,g3,n3⟩:=gv (h:=h2) (z:=[.int .i64 0,.nils]) (cs:=[.int .i64 5,ev0]) (e:=2) rfl;have c0:=hE0.cells;refine mc (λts h'=>h'=h3/\aR ts 0=.bool t/\aR ts 1=lv/\aR ts 4=.ptr h.next 0/\aR ts 5=.ptr h2.next 0) (by simp only[am,aI,simprocAttr,bP,w3,c0.1,c0.2]) ?_;rintro ts h3' ⟨rfl,e0,e1,e4,e5⟩;rw[<-hpb]at e5 g3 n3;have X3:Ext h.next h h3':=(x0.trans (x2.mono om)).trans (x3.mono om);have r3:h3'.get h.next=some (.cells [.int .i64 0,.nils] 2 false):=by rw[x3.gt _ om,x2.gt _ om];exact g0
 have hE3:SlE h3' ev0 (p5.map toI):=hE0.ext x3 (ab _);clear g0 hf5;refine ai (jB (λts h'=>∃bev,Held [(1,lv),(4,.ptr h.next 0),(5,.ptr pb 0)] ts/\h'.get pb=some (.cells [.int .i64 (bB t:Nat),bev] 2 false)/\SlE h' bev ((pP t).map toI)/\h'.get h.next=some (.cells [.int .i64 0,.nils] 2 false)/\Ext h.next h h'/\pb+1<=h'.next) ?_ ?_)
 .cases t with
  |false =>
    refine ai (aD (M1 e0) ?_);refine dR (Z0) (bQ ?_);exact⟨ev0,H3 e1 e4 e5,g3,hE3,r3,X3,om⟩
  |true =>
    refine ai (aD (M1 e0) ?_);have w4:cj h3' pb 0 [.int .i64 6,.nils]=some (h3'.put pb (.cells [.int .i64 6,.nils] 2 false)):=by rw[ez g3];rfl
    have u4:=Nv (o:=.cells [.int .i64 6,.nils] 2 false) g3;refine dv (Z0) ?_;refine ai (bW (λts h'=>h'=h3'.put pb (.cells [.int .i64 6,.nils] 2 false)/\aR ts 1=lv/\aR ts 4=.ptr h.next 0/\aR ts 5=.ptr pb 0) (by simp only[am,aI,simprocAttr,e1,e4,e5,w4]) ?_);clear e0 e1 e4 e5;rintro ts h4 ⟨rfl,e1,e4,e5⟩;have r4:(h3'.put pb (.cells [.int .i64 6,.nils] 2 false)).get h.next=some (.cells [.int .i64 0,.nils] 2 false):=by rw[u4.ne om];exact r3
    have X4:Ext h.next h (h3'.put pb (.cells [.int .i64 6,.nils] 2 false)):=X3.trans (u4.ext om);have n4:=u4.nx;generalize h3'.put pb (.cells [.int .i64 6,.nils] 2 false)=h4 at *
    refine ai (aD (M0) ?_)
    refine uW (α:=AV) (N:=3) (λa _=>[(1,lv),(4,.ptr h.next 0),(5,.ptr pb 0),(6,.int .i64 (a:Nat))])
     (λa ev h'=>IsSl h' 2 (pb+1) ev (((p6.map toI).take (3*a)).flatMap eE)/\h'.get pb=some (.cells [.int .i64 6,ev] 2 false)/\h'.get h.next=some (.cells [.int .i64 0,.nils] 2 false)/\Ext h.next h h'/\pb+1<=h'.next) .nils (H4 e1 e4 e5 @de) ⟨.inl ⟨rfl,rfl⟩,u4.get,r4,X4,om⟩ ?_ ?_ ?_
    .clear e1 e4 e5;rintro a ev ts h5 ha _ ⟨e1,e4,e5,e6,-⟩;simp only at e1 e4 e5 e6;have d1:decide (((a:Nat):Int)<3)=decide (a<3):=by rw[decide_eq_decide];omega
     exact⟨_,(M2 e6 d1),Z0,H4 e1 e4 e5 e6⟩
    .clear e1 e4 e5 r4 X4 n4 u4;rintro a ev ts h5 ha ⟨i5,g5,r5,X5,n5⟩ ⟨e1,e4,e5,e6,-⟩;simp only at e1 e4 e5 e6;have wa:IntKind.i64.wrap (((a:Nat):Int)+1)=((a+1:Nat):Int):=fx om om;refine ai (aD (M0) ?_)
     refine uW (α:=AV) (N:=3) (λk _=>[(1,lv),(4,.ptr h.next 0),(5,.ptr pb 0),(6,.int .i64 (a:Nat)),(7,.int .i64 (3+k:Nat))])
      (λk ev h'=>IsSl h' 2 (pb+1) ev (((p6.map toI).take (3*a+k)).flatMap eE)/\h'.get pb=some (.cells [.int .i64 6,ev] 2 false)/\h'.get h.next=some (.cells [.int .i64 0,.nils] 2 false)/\Ext h.next h h'/\pb+1<=h'.next) ev (by
       have:((3+0:Nat):Int)=3:=rfl;simp only[hl,am,aI,simprocAttr,e1,e4,e5,e6,this]) ⟨i5,g5,r5,X5,n5⟩ ?_ ?_ ?_
     .clear e1 e4 e5 e6 i5 g5 r5 X5 n5;rintro k ev ts h6 hk _ ⟨e1,e4,e5,e6,e7,-⟩;simp only at e1 e4 e5 e6 e7;have d1:decide (((3+k:Nat):Int)<6)=decide (k<3):=by rw[decide_eq_decide];omega
      exact⟨_,(M2 e7 d1),Z0,H5 e1 e4 e5 e6 e7⟩
     .clear e1 e4 e5 e6 i5 g5 r5 X5 n5;rintro k ev ts h6 hk ⟨i6,g6,r6,X6,n6⟩ ⟨e1,e4,e5,e6,e7,-⟩;simp only at e1 e4 e5 e6 e7;have wk:IntKind.i64.wrap (((3+k:Nat):Int)+1)=((3+(k+1):Nat):Int):=fx om om;have rg:aA h6 pb 1 1=some [ev]:=bJ g6 rfl;have hlen:(((p6.map toI).take (3*a+k)).flatMap eE).length/2<=9:=by
       rw[yu,bK];have:(p6.map toI).length=9:=rfl;omega
      obtain⟨ev',h7,a7,i7,x7,n7⟩:=i6.push (bytes:=16) [.int .i64 (a:Nat),.int .i64 (3+k:Nat)] n6 om rfl rfl (by unfold bq;omega) (by unfold bq;omega);have g7:h7.get pb=some (.cells [.int .i64 6,ev] 2 false):=by rw[x7.gt _ om];exact g6
      have r7:h7.get h.next=some (.cells [.int .i64 0,.nils] 2 false):=by rw[x7.gt _ om];exact r6
      have w7:=iP (v:=ev') g7 (i:=1) (by simp);have u7:=Nv (o:=.cells ([AV.int .i64 6,ev].set 1 ev') 2 false) g7;refine aD (by simp only[am,aI,simprocAttr,e5,e6,e7,rg,a7,i7.cells.1,i7.cells.2,w7]<;>rfl) ?_;generalize h7.put pb (.cells ([AV.int .i64 6,ev].set 1 ev') 2 false)=h8 at *
      refine⟨ev',⟨?_,u7.get,by rw[u7.ne om];exact r7,X6.trans ((x7.mono om).trans (u7.ext om)),by have:=u7.nx;omega⟩,_,(by simp only[am,aI,simprocAttr,e7,wk]<;>rfl),H4 e1 e4 e5 e6⟩;rw[<-gF,Kw a ha k hk,bL];exact i7.upd u7 om
     .clear e1 e4 e5 e6 i5 g5 r5 X5 n5;rintro ev ts h6 ⟨i6,g6,r6,X6,n6⟩ ⟨e1,e4,e5,e6,e7,-⟩;simp only at e1 e4 e5 e6;exact⟨ev,⟨i6,g6,r6,X6,n6⟩,_,(M2 e6 wa),H3 e1 e4 e5⟩
    .clear e1 e4 e5;rintro ev ts h5 ⟨i5,g5,r5,X5,n5⟩ ⟨e1,e4,e5,e6,-⟩;simp only at e1 e4 e5;exact⟨ev,H3 e1 e4 e5,g5,Nq om yl i5,r5,X5,n5⟩
 clear e0 e1 e4 e5;rintro ts h4 ⟨bev,⟨e1,e4,e5,-⟩,g4,hE4,r4,X4,n4⟩;simp only at e1 e4 e5;obtain⟨pg,hpg⟩:∃p,p=h4.next:=⟨_,rfl⟩
 obtain⟨h5,w5,x5,g5,n5⟩:=gv (h:=h4) (z:=[.int .i64 0,.nils]) (cs:=[.int .i64 (bB t:Nat),.nils]) (e:=2) rfl;have rb:aA h4 pb 0 1=some [.int .i64 (bB t:Nat)]:=bJ g4 rfl;refine ai (bW (λts h'=>h'=h5/\aR ts 1=lv/\aR ts 4=.ptr h.next 0/\aR ts 5=.ptr pb 0/\aR ts 8=.ptr h4.next 0) (by simp only[am,aI,simprocAttr,e1,e4,e5,rb,w5]) ?_);clear e1 e4 e5;rintro ts h5' ⟨rfl,e1,e4,e5,e8⟩;rw[<-hpg]at e8 g5 n5;have hN:(pP t).length<=10:=by cases t<;>decide
 have hB6:bB t<=6:=by cases t<;>decide
 have ks2:=th lens;have elb:=hE4.len;rw[ah,ah]at elb;have rE5:aA h5' pb 1 1=some [bev]:=bJ (by rw[x5.gt _ om];exact g4) rfl;refine ai (jB (λts h'=>∃av,Held [(4,.ptr h.next 0),(8,.ptr pg 0)] ts/\IsSl h' 2 (pg+1) av ((tY t lens).flatMap eE)/\h'.get pg=some (.cells [.int .i64 (mB t lens:Nat),av] 2 false)/\Ext h4.next h4 h') ?_ ?_)
 .refine ai (aD (M3 e5 rE5 elb) ?_)
  refine gA (α:=AV) (N:=(pP t).length) (λ_ _=>[(1,lv),(4,.ptr h.next 0),(5,.ptr pb 0),(8,.ptr pg 0),(37,bev)])
   (λj av h'=>IsSl h' 2 (pg+1) av ((mkI (bB t) (fA (pP t)) (fB (pP t)) (lT lens) j).flatMap eE)/\h'.get pg=some (.cells [.int .i64 (bB t+sK (lT lens) j:Nat),av] 2 false)/\Ext h4.next h4 h'/\pg+1<=h'.next) .nils (λ_ _=>rfl) om (H4 e1 e4 e5 e8) ⟨.inl ⟨rfl,rfl⟩,g5,x5,om⟩ ?_ ?_
  .clear e1 e4 e5 e8 rE5;rintro j av ts h6 hj ⟨i6,g6,x6,n6⟩ ⟨ei,en,e1,e4,e5,e8,e37,-⟩;simp only at ei en e1 e4 e5 e8 e37;have n6':=x6.nx;have hsj:sK (lT lens) j<=2*j:=ze ks2;have hkj:=ks2 j;obtain⟨qb,qp,a7,r7,l7⟩:=(hE4.ext x6 (ab _)).at (fR (f:=eE) (i:=j) (by rw[ah];exact hj));rw[Mz hj]at r7;have r7:aA h6 qb qp 2=some [.int .i64 (fA (pP t) j:Nat),.int .i64 (fB (pP t) j:Nat)]:=r7;obtain⟨h7,w7,x7,g7,n7⟩:=gv (h:=h6) (z:=[.int .i64 0,.int .i64 0]) (cs:=[.int .i64 (fA (pP t) j:Nat),.int .i64 (fB (pP t) j:Nat)]) (e:=2) rfl;obtain⟨pe,hpe⟩:∃p,p=h6.next:=⟨_,rfl⟩
   refine ai (bW (λts h'=>h'=h7/\aR ts 39=.int .i64 (j:Nat)/\aR ts 38=.int .i64 ((pP t).length:Nat)/\aR ts 1=lv/\aR ts 4=.ptr h.next 0/\aR ts 5=.ptr pb 0/\aR ts 8=.ptr pg 0/\aR ts 37=bev/\aR ts 9=.int .i64 (j:Nat)/\aR ts 10=.ptr h6.next 0) (by simp only[am,aI,simprocAttr,ei,en,e1,e4,e5,e8,e37,a7,r7,w7]) ?_);clear ei en e1 e4 e5 e8 e37;rintro ts h7' ⟨rfl,ei,en,e1,e4,e5,e8,e37,e9,e10⟩;rw[<-hpe]at e10 g7 n7;have x47:Ext h4.next h4 h7':=x6.trans (x7.mono om);have X7:Ext h.next h h7':=X4.trans (x47.mono om);have g7g:h7'.get pg=some (.cells [.int .i64 (bB t+sK (lT lens) j:Nat),av] 2 false):=by rw[x7.gt _ om];exact g6
   have i7:=i6.ext x7 (ab _);have av7:∀b n,av=.sl b 0 n n->b≠pe:=λb n e=>by have:=i6.lt e;omega
   refine ai (bW (λts h'=>h'=h7'/\aR ts 39=.int .i64 (j:Nat)/\aR ts 38=.int .i64 ((pP t).length:Nat)/\aR ts 1=lv/\aR ts 4=.ptr h.next 0/\aR ts 5=.ptr pb 0/\aR ts 8=.ptr pg 0/\aR ts 37=bev/\aR ts 9=.int .i64 (j:Nat)/\aR ts 10=.ptr pe 0/\aR ts 11=.int .i64 1) (by simp only[am,aI,simprocAttr,ei,en,e1,e4,e5,e8,e37,e9,e10]) ?_);clear ei en e1 e4 e5 e8 e37 e9 e10;rintro ts h7 ⟨rfl,ei,en,e1,e4,e5,e8,e37,e9,e10,e11⟩;refine ai (jB (λts h'=>h'=h7/\Held [(39,.int .i64 (j:Nat)),(38,.int .i64 ((pP t).length:Nat)),(1,lv),(4,.ptr h.next 0),(5,.ptr pb 0),(8,.ptr pg 0),(37,bev),(10,.ptr pe 0),(11,.int .i64 (lT lens j+1:Nat))] ts) ?_ ?_)
   .by_cases q:j<lens.length
    .have d:decide (((j:Nat):Int)<((lens.length:Nat):Int))=true:=bp om;refine ai (aD (M4 e9 e1 ll d) ?_);refine dv (Z0) ?_;obtain⟨lb,lp,la,lr,_⟩:=(hlv.ext X7 (ab _)).at1 (i:=j) (y:=.int .i64 lens[j]) (by rw[aG,ae q];rfl);have lo:=wj lens[j];obtain⟨w,hw⟩:∃w,w=xR lens[j]%3:=⟨_,rfl⟩
     have hmod:(((xR lens[j]:Nat):Int)).tmod 3=((w:Nat):Int):=by rw[hw];rfl
     have hks:lT lens j=w:=by
      unfold lT;rw[if_pos q,aj,ae q,er,hw]
     have wn:IntKind.i64.wrap (1+((w:Nat):Int))=((w+1:Nat):Int):=by rw[fx om om];omega
     have h3:¬((3:Int)=0):=by decide
     refine aD (by simp only[am,aI,simprocAttr,e1,e9,la,lr,qM,lo,aC,if_neg h3,if_false,hmod,wn]<;>rfl) ?_;rw[hks];exact⟨rfl,H8 ei en e1 e4 e5 e8 e37 e10⟩
    .have d:decide (((j:Nat):Int)<((lens.length:Nat):Int))=false:=aX om;refine ai (aD (M4 e9 e1 ll d) ?_);refine dR (Z0) (bQ ?_);have hks:lT lens j=0:=if_neg q;rw[hks];exact⟨rfl,H10 ei en e1 e4 e5 e8 e37 e10 e11 e11⟩
   clear ei en e1 e4 e5 e8 e37 e9 e10 e11;rintro ts h8 ⟨rfl,ei,en,e1,e4,e5,e8,e37,e10,e11,-⟩;simp only at ei en e1 e4 e5 e8 e37 e10 e11;obtain⟨kk,hkk⟩:∃k,k=lT lens j:=⟨_,rfl⟩
   obtain⟨nv,hnv⟩:∃k,k=bB t+sK (lT lens) j:=⟨_,rfl⟩
   obtain⟨fa,hfa⟩:∃k,k=fA (pP t) j:=⟨_,rfl⟩
   obtain⟨fb,hfb⟩:∃k,k=fB (pP t) j:=⟨_,rfl⟩
   have hsucc:=Hx (B:=bB t) (j:=j) (a:=fA (pP t)) (b:=fB (pP t)) (ks:=lT lens);rw[<-hkk]at e11 hsucc hkj;rw[<-hnv]at g7g hsucc;rw[<-hfa,<-hfb]at g7;rw[<-hfa,<-hfb]at hsucc;have hml:(mkI (bB t) (fA (pP t)) (fB (pP t)) (lT lens) j).length<=40:=by rw[xK];omega
   have ra:aA h8 pe 0 1=some [.int .i64 (fa:Nat)]:=bJ g7 rfl;refine ai (bW (λts h'=>h'=h8/\aR ts 39=.int .i64 (j:Nat)/\aR ts 38=.int .i64 ((pP t).length:Nat)/\aR ts 1=lv/\aR ts 4=.ptr h.next 0/\aR ts 5=.ptr pb 0/\aR ts 8=.ptr pg 0/\aR ts 37=bev/\aR ts 10=.ptr pe 0/\aR ts 11=.int .i64 (kk+1:Nat)/\aR ts 12=.int .i64 (fa:Nat)) (by simp only[am,aI,simprocAttr,ei,en,e1,e4,e5,e8,e37,e10,e11,ra]) ?_);clear ei en e1 e4 e5 e8 e37 e10 e11;rintro ts h9 ⟨rfl,ei,en,e1,e4,e5,e8,e37,e10,e11,e12⟩
   refine ai (jB (λts h'=>∃av',Held [(39,.int .i64 (j:Nat)),(38,.int .i64 ((pP t).length:Nat)),(1,lv),(4,.ptr h.next 0),(5,.ptr pb 0),(8,.ptr pg 0),(37,bev),(10,.ptr pe 0),(12,.int .i64 (frm fa nv kk:Nat))] ts/\IsSl h' 2 (pg+1) av' ((mkI (bB t) (fA (pP t)) (fB (pP t)) (lT lens) j++(chP fa nv kk).map toI).flatMap eE)/\(∀b n,av'=.sl b 0 n n->b≠pe) /\
    h'.get pg=some (.cells [.int .i64 (nv+kk:Nat),av'] 2 false)/\h'.get pe=some (.cells [.int .i64 (fa:Nat),.int .i64 (fb:Nat)] 2 false)/\Ext h4.next h4 h'/\pe+1<=h'.next) ?_ ?_)
   .refine ai (aD (M0) ?_)
    refine uW (α:=AV) (N:=kk) (λk _=>[(39,.int .i64 (j:Nat)),(38,.int .i64 ((pP t).length:Nat)),(1,lv),(4,.ptr h.next 0),(5,.ptr pb 0),(8,.ptr pg 0),(37,bev),(10,.ptr pe 0),(11,.int .i64 (kk+1:Nat)),(12,.int .i64 (frm fa nv k:Nat)),(13,.int .i64 (k+1:Nat))])
     (λk av' h'=>IsSl h' 2 (pg+1) av' ((mkI (bB t) (fA (pP t)) (fB (pP t)) (lT lens) j++(chP fa nv k).map toI).flatMap eE)/\(∀b n,av'=.sl b 0 n n->b≠pe)/\h'.get pg=some (.cells [.int .i64 (nv+k:Nat),av'] 2 false)/\h'.get pe=some (.cells [.int .i64 (fa:Nat),.int .i64 (fb:Nat)] 2 false)/\Ext h4.next h4 h'/\pe+1<=h'.next) av (by
      have e01:((0+1:Nat):Int)=1:=rfl;have e02:frm fa nv 0=fa:=rfl;simp only[hl,am,aI,simprocAttr,ei,en,e1,e4,e5,e8,e37,e10,e11,e12,e01,e02]) ⟨by simpa[chP]using i7,av7,g7g,g7,x47,om⟩ ?_ ?_ ?_
    .clear ei en e1 e4 e5 e8 e37 e10 e11 e12;rintro k av' ts h6 hk _ ⟨ei,en,e1,e4,e5,e8,e37,e10,e11,e12,e13,-⟩;simp only at ei en e1 e4 e5 e8 e37 e10 e11 e12 e13;have d1:decide (((k+1:Nat):Int)<((kk+1:Nat):Int))=decide (k<kk):=by rw[decide_eq_decide];omega
     exact⟨_,(M3 e11 e13 d1),Z0,H12 ei en e1 e4 e5 e8 e37 e10 e11 e12 e13 e13⟩
    .clear ei en e1 e4 e5 e8 e37 e10 e11 e12 i7 g7g g7 av7;rintro k av' ts h10 hk ⟨i10,v10,g10,p10,x10,n10⟩ ⟨ei,en,e1,e4,e5,e8,e37,e10,e11,e12,e13,-⟩;simp only at ei en e1 e4 e5 e8 e37 e10 e11 e12 e13;have w13:IntKind.i64.wrap (((k+1:Nat):Int)+1)=((k+1+1:Nat):Int):=fx om om;have wn:IntKind.i64.wrap (((nv+k:Nat):Int)+1)=((nv+(k+1):Nat):Int):=fx om om;have rg:aA h10 pg 1 1=some [av']:=bJ g10 rfl;have rn:aA h10 pg 0 1=some [.int .i64 (nv+k:Nat)]:=bJ g10 rfl;have hlen:((mkI (bB t) (fA (pP t)) (fB (pP t)) (lT lens) j++(chP fa nv k).map toI).flatMap eE).length/2<=42:=by
      rw[yu,aB,ah,yq];omega
     obtain⟨av2,h11,a11,i11,x11,n11,k11,v11⟩:=GP (bytes:=16) [.int .i64 (frm fa nv k:Nat),.int .i64 (nv+k:Nat)] i10 om om rfl rfl (by unfold bq;omega) (by unfold bq;omega);have g11:h11.get pg=some (.cells [.int .i64 (nv+k:Nat),av'] 2 false):=by rw[x11.gt _ om];exact g10
     have p11:h11.get pe=some (.cells [.int .i64 (fa:Nat),.int .i64 (fb:Nat)] 2 false):=by rw[k11 _ om (λb n e=>Ne.symm (v10 b n e))];exact p10
     have w11:=iP (v:=av2) g11 (i:=1) (by simp);have u11:=Nv (o:=.cells ([AV.int .i64 (nv+k:Nat),av'].set 1 av2) 2 false) g11;refine ai (bW (λts h'=>h'=h11.put pg (.cells ([AV.int .i64 (nv+k:Nat),av'].set 1 av2) 2 false)/\aR ts 39=.int .i64 (j:Nat)/\aR ts 38=.int .i64 ((pP t).length:Nat)/\aR ts 1=lv/\aR ts 4=.ptr h.next 0/\aR ts 5=.ptr pb 0/\aR ts 8=.ptr pg 0/\aR ts 37=bev/\aR ts 10=.ptr pe 0/\aR ts 11=.int .i64 (kk+1:Nat)/\aR ts 13=.int .i64 (k+1:Nat)) (by simp only[am,aI,simprocAttr,ei,en,e1,e4,e5,e8,e37,e10,e11,e12,e13,rg,rn,a11,i11.cells.1,i11.cells.2,w11]) ?_);clear ei en e1 e4 e5 e8 e37 e10 e11 e12 e13;rintro ts h12 ⟨rfl,ei,en,e1,e4,e5,e8,e37,e10,e11,e13⟩;generalize h11.put pg (.cells ([AV.int .i64 (nv+k:Nat),av'].set 1 av2) 2 false)=h12 at *
     have g12:=u11.get;have g12:h12.get pg=some (.cells [.int .i64 (nv+k:Nat),av2] 2 false):=g12;have r12:aA h12 pg 0 1=some [.int .i64 (nv+k:Nat)]:=bJ g12 rfl;have w12:=iP (v:=.int .i64 (nv+(k+1):Nat)) g12 (i:=0) (by simp);have u12:=Nv (o:=.cells ([AV.int .i64 (nv+k:Nat),av2].set 0 (.int .i64 (nv+(k+1):Nat))) 2 false) g12;refine ai (aD (M2 e8 r12) ?_);refine aD (M4 e8 r12 wn w12) ?_;have n12:=u11.nx;have n13:=u12.nx;generalize h12.put pg (.cells ([AV.int .i64 (nv+k:Nat),av2].set 0 (.int .i64 (nv+(k+1):Nat))) 2 false)=h13 at *
     have x13:Ext h4.next h4 h13:=x10.trans ((x11.mono om).trans ((u11.ext om).trans (u12.ext om)));refine⟨av2,⟨?_,λb n e=>by have:=v11 b n e;omega,u12.get,?_,x13,om⟩,_,(M2 e13 w13),?_⟩
     .rw[chP,bR,<-bO,bL];exact(i11.upd u11 om).upd u12 om
     .rw[u12.ne om,u11.ne om];exact p11
     .have e02:frm fa nv (k+1)=nv+k:=rfl;simp only[hl,am,aI,simprocAttr,ei,en,e1,e4,e5,e8,e37,e10,e11,e02]
    .clear ei en e1 e4 e5 e8 e37 e10 e11 e12;rintro av' ts h10 ⟨i10,v10,g10,p10,x10,n10⟩ ⟨ei,en,e1,e4,e5,e8,e37,e10,e11,e12,e13,-⟩;simp only at ei en e1 e4 e5 e8 e37 e10 e11 e12;exact⟨av',H10 ei en e1 e4 e5 e8 e37 e10 e12 e12,i10,v10,g10,p10,x10,n10⟩
   clear ei en e1 e4 e5 e8 e37 e10 e11 e12 i7 g7g g7 av7;rintro ts h10 ⟨av',⟨ei,en,e1,e4,e5,e8,e37,e10,e12,-⟩,i10,v10,g10,p10,x10,n10⟩;simp only at ei en e1 e4 e5 e8 e37 e10 e12;have rg:aA h10 pg 1 1=some [av']:=bJ g10 rfl;have re:aA h10 pe 1 1=some [.int .i64 (fb:Nat)]:=bJ p10 rfl;have hlen:((mkI (bB t) (fA (pP t)) (fB (pP t)) (lT lens) j++(chP fa nv kk).map toI).flatMap eE).length/2<=42:=by
    rw[yu,aB,ah,yq];omega
   obtain⟨av2,h11,a11,i11,x11,n11⟩:=i10.push (bytes:=16) [.int .i64 (frm fa nv kk:Nat),.int .i64 (fb:Nat)] om om rfl rfl (by unfold bq;omega) (by unfold bq;omega);have g11:h11.get pg=some (.cells [.int .i64 (nv+kk:Nat),av'] 2 false):=by rw[x11.gt _ om];exact g10
   have w11:=iP (v:=av2) g11 (i:=1) (by simp);have u11:=Nv (o:=.cells ([AV.int .i64 (nv+kk:Nat),av'].set 1 av2) 2 false) g11;refine aD (by simp only[am,aI,simprocAttr,e8,e10,e12,rg,re,a11,i11.cells.1,i11.cells.2,w11]<;>rfl) ?_;have n12:=u11.nx;generalize h11.put pg (.cells ([AV.int .i64 (nv+kk:Nat),av'].set 1 av2) 2 false)=h12 at *
   refine⟨av2,⟨?_,?_,x10.trans ((x11.mono om).trans (u11.ext om)),om⟩,H7 ei en e1 e4 e5 e8 e37⟩
   .rw[hsucc,bL];exact i11.upd u11 om
   .have e9:bB t+sK (lT lens) (j+1)=nv+kk:=by rw[sK];omega
    rw[e9];exact u11.get
  .clear e1 e4 e5 e8;rintro av ts h6 ⟨i6,g6,x6,n6⟩ ⟨e1,e4,e5,e8,e37,-⟩;simp only at e4 e8;exact⟨av,H2 e4 e8,i6,g6,x6⟩
 clear e1 e4 e5 e8;rintro ts h6 ⟨av,⟨e4,e8,-⟩,i6,g6,x6⟩;simp only at e4 e8;have r6:h6.get h.next=some (.cells [.int .i64 0,.nils] 2 false):=by rw[x6.gt _ om];exact r4
 have rg:aA h6 pg 0 2=some [.int .i64 (mB t lens:Nat),av]:=by rw[bI g6];rfl
 have w6:cj h6 h.next 0 [.int .i64 (mB t lens:Nat),av]=some (h6.put h.next (.cells [.int .i64 (mB t lens:Nat),av] 2 false)):=by rw[ez r6];rfl
 have u6:=Nv (o:=.cells [.int .i64 (mB t lens:Nat),av] 2 false) r6;refine ai (aD (by simp only[am,aI,simprocAttr,e4,e8,rg,w6,i6.cells.2]<;>rfl) ?_);generalize h6.put h.next (.cells [.int .i64 (mB t lens:Nat),av] 2 false)=h7 at *
 have r7:aA h7 h.next 0 2=some [.int .i64 (mB t lens:Nat),av]:=by rw[bI u6.get];rfl
 exact bU ⟨.agg [.int .i64 (mB t lens:Nat),av],(by simp only[rs,rf5,am,aI,simprocAttr,e4,r7]<;>rfl),av,rfl,Nq om yl (i6.upd u6 om),(X4.trans (x6.mono om)).trans (u6.ext (ab _))⟩
open Go.Am
theorem xr{α:Type}{xs ys:List α}(hl:xs.length=ys.length){k:Nat}(hk:k<xs.length)(h:xs.take k=ys.take k)(e:xs[k]=ys[k]'om):xs.take (k+1)=ys.take (k+1):=by
 rw[bu hk,bu (show k<ys.length by omega),h,e]
theorem GI{v w:AV}{xs ys:List Int}(hv:SlI h v xs)(hw:SlI h w ys)(hl:xs.length<2^40)(hl2:ys.length<2^40):C prg 8 [v,w] h λr h'=>r=.bool (decide (xs=ys))/\h'=h:=by
 have e1:=hv.len;have e2:=hw.len;rw[ah]at e1 e2;refine Ny pf8 ?_;refine ai (aD (Ji0) ?_);refine ai (ai (aD (Mi2 e1 e2) ?_));refine io (t:=!decide (xs.length=ys.length)) (by simp only[am,aI,simprocAttr];exact congrArg AV.bool (by congr 1;simp only[decide_eq_decide];omega)) (λq=>?_) λq=>?_
 .have q:¬xs.length=ys.length:=by simpa using q
  refine ai (aD (M0) ?_);exact bU ⟨.bool false,(by simp only[rs,rf8,am,aI,simprocAttr]<;>rfl),by rw[aX (λe=>q (by rw[e]))],rfl⟩
 have q:xs.length=ys.length:=by simpa using q
 refine bQ ?_;refine ai (ai (aD (Mi0) ?_));refine uW (α:=Unit) (N:=xs.length) (λk _=>[(0,v),(1,w),(5,.int .i64 (k:Nat))]) (λk _ h'=>h'=h/\xs.take k=ys.take k) () (Oi1 @de) ⟨rfl,rfl⟩ ?_ ?_ ?_
 .rintro k _ ts h1 hk ⟨rfl,j1⟩ ⟨f0,f1,f5,-⟩;simp only at f0 f1 f5;exact⟨_,(J4 f0 f5 e1 @ma),I0,O3 f0 f1 f5⟩
 .rintro k _ ts h1 hk ⟨rfl,j1⟩ ⟨f0,f1,f5,-⟩;simp only at f0 f1 f5;obtain⟨b1,p1,a1,r1,_⟩:=hv.at1 (fR (f:=eI) hk);obtain⟨b2,p2,a2,r2,_⟩:=hw.at1 (fR (f:=eI) (show k<ys.length by omega));have w1:=LV (k:=k) om;refine ai (aD (M7 f0 f1 f5 a1 a2 r1 r2) ?_);refine io (t:=!decide (xs[k]=ys[k]'om)) (Z0) (λp=>?_) λp=>?_
  .have p:¬xs[k]=ys[k]'om:=by simpa using p
   refine ai (aD (M0) ?_);refine bU ⟨.bool false,(by simp only[rs,rf8,am,aI,simprocAttr]<;>rfl),?_,rfl⟩;rw[aX];intro e;subst e;exact p rfl
  .have p:xs[k]=ys[k]'om:=by simpa using p
   exact bQ ⟨(),⟨rfl,xr q hk j1 p⟩,_,(J2 f5 w1),O2 f0 f1⟩
 .rintro _ ts h1 ⟨rfl,j1⟩ ⟨f0,f1,f5,-⟩;rw[cZ,q,cZ]at j1;refine ai (aD (M0) ?_);exact bU ⟨.bool true,(by simp only[rs,rf8,am,aI,simprocAttr]<;>rfl),by rw[bp j1],rfl⟩
open Go.Am
theorem Kind.all(k:Kind n E c)(h:(¬LayP (n:Nat) E (gM E.length)/\r=.int .i64 0)\/∃hp:LayP (n:Nat) E (gM E.length),Cs (grK E (gM E.length) hp.nodup.1) r):r=.int .i64 c:=by
 rcases h with⟨h,_⟩|⟨hp,ht⟩
 .exact absurd (Df k.plain) h
 .rcases k.five with⟨rfl,h5⟩|⟨rfl,h5,h33⟩
  .rcases ht with⟨_,rfl⟩|⟨q,_⟩|⟨q,_⟩
   .rfl
   .exact absurd h5 q
   .exact absurd h5 q
  .rcases ht with⟨q,_⟩|⟨_,_,rfl⟩|⟨_,q,_⟩
   .exact absurd q h5
   .rfl
   .exact absurd h33 q
theorem Kind.but(k:Kind n E c)(hi:i0<E.length)(h:(¬LayP (n:Nat) E (pU E.length i0)/\r=.int .i64 0)\/∃hp:LayP (n:Nat) E (pU E.length i0),Cs (grK E (pU E.length i0) hp.nodup.1) r):r=.int .i64 0:=by
 obtain⟨l5,l33⟩:=k.less i0 hi;rcases h with⟨_,h⟩|⟨hp,ht⟩
 .exact h
 .rcases ht with⟨q,_⟩|⟨_,q,_⟩|⟨_,_,h⟩
  .exact absurd q l5
  .exact absurd q l33
  .exact h
theorem Fe:Kind 5 (p5.map toI) 5:=Ma (ks:=λ_=>0) λ_=>dx _
theorem AY:C prg 4 [] h λv h'=>v=.bool true/\Ext h.next h h':=by
 have k:=Fe;obtain⟨k1,k2⟩:=k.dp;have hlen:(p5.map toI).length=10:=rfl;refine Ny pf4 ?_;refine ai (aD (Mi0) ?_);have hf5:C prg 10 [.int .i64 5] h λv h'=>∃ev,v=.agg [.int .i64 5,ev]/\SlE h' ev (mE 5 5)/\Ext h.next h h':=wI (n:=5) om;refine ai (bS (jU (Zi0) (Mi0) (hf5) λr h2 hq=>?_));obtain⟨ev,rfl,hE,x2⟩:=hq;rw[Ad]at hE;have n2:=x2.nx;obtain⟨h3,w3,x3,g3,n3⟩:=gv (h:=h2) (z:=[.int .i64 0,.nils]) (cs:=[.int .i64 5,ev]) (e:=2) rfl;have c0:=hE.cells;refine mc (λts h'=>h'=h3/\aR ts 1=.ptr h2.next 0) (by simp only[am,aI,simprocAttr,bP,w3,c0.1,c0.2]) ?_;rintro ts h3' ⟨rfl,e1⟩;have hE3:SlE h3' ev (p5.map toI):=hE.ext x3 (ab _);have r3:aA h3' h2.next 0 2=some [.int .i64 5,ev]:=by rw[bI g3];rfl
 have hfd:C prg 6 [.agg [.int .i64 5,ev]] h3' λr h'=>∃lv,r=.tup [lv,.int .i64 0]/\SlI h' lv (gM 10)/\Ext h3'.next h3' h':=zR (n:=5) hE3 (by rw[hlen];omega) k.plain k1 k2;refine ai (bS (bE 1 (M2 e1 r3) rfl (Z2 e1 r3) (M2 e1 r3) (hfd) λr h4 hq=>?_));obtain⟨lv,rfl,hL,x4⟩:=hq;have n4:=x4.nx;have hll:=hL.len;rw[ah,kb]at hll;refine mc (λts h'=>h'=h4/\aR ts 1=.ptr h2.next 0/\aR ts 2=lv/\aR ts 3=.int .i64 0) (by simp only[am,aI,simprocAttr,e1,hL.cells.1]) ?_;clear e1;rintro ts h4' ⟨rfl,e1,e2,e3⟩;have g4:h4'.get h2.next=some (.cells [.int .i64 5,ev] 2 false):=by rw[x4.gt _ om];exact g3
 have r4:aA h4' h2.next 0 2=some [.int .i64 5,ev]:=by rw[bI g4];rfl
 have hw:C prg 7 [.agg [.int .i64 5,ev],lv] h4' λr h'=>Ext h4'.next h4' h'/\r=.int .i64 5:=(uf (n:=((5:Nat):Int)) (hE3.ext x4 (ab _)) hL (by rw[hlen];omega) (by rw[kb];omega) om).mono λr h' ⟨a,b⟩=>⟨a,k.all b⟩
 have e10:decide (((10:Nat):Int)=10)=true:=by decide
 refine ai (bS (bE 10 (M7 e1 e2 e3 hll e10 r4 @decide_true) rfl (Z7 e1 e2 e3 hll e10 r4 @decide_true) (M7 e1 e2 e3 hll e10 r4 @decide_true) (hw) λr h5 hq=>?_));obtain⟨x5,rfl⟩:=hq;refine bM (M1 @decide_true) ?_;exact bU ⟨.bool true,(by simp only[rs,rf4,am,aI,simprocAttr]<;>rfl),rfl,x2.trans ((x3.mono om).trans ((x4.mono om).trans (x5.mono om)))⟩
theorem AB{m k:Nat}:nC ((List.range (k+1)).filter λi=>decide (i≠i0))=nC ((List.range k).filter λi=>decide (i≠i0))++(if k≠i0 then [.int .i64 ((k:Nat):Int)]else []):=by
 rw[cJ,eL,lS];congr 1;by_cases q:k≠i0
 .rw[if_pos q,eQ,if_pos (bp q)];rfl
 .rw[if_neg q,eQ,if_neg (by simpa using q)];rfl
theorem Lz(m i0:Nat):nC ((List.range m).filter λi=>decide (i≠i0))=(pU m i0).flatMap eI:=rfl
theorem HA(t:Bool)(lens:List Int):0<(tY t lens).length/\(tY t lens).length<=40/\mB t lens<=40:=by
 have:=ze (th lens) (K:=(pP t).length);have hN:(pP t).length<=10/\0<(pP t).length:=by cases t<;>decide
 have hB6:bB t<=6:=by cases t<;>decide
 unfold tY mB;rw[xK];omega
set_option maxHeartbeats 2000000 in
theorem HB{t:Bool}{lens:List Int}{z:Int}(hlv:SlI h lv lens):C prg 3 [.bool t,lv,.int .i64 z] h λv _=>v=.bool true:=by
 obtain⟨lc,lo_⟩:=hlv.cells;have k:=EI t lens;obtain⟨m1,m2,m3⟩:=HA t lens;obtain⟨k1,k2⟩:=k.dp;refine Ny pf3 ?_;refine ai (aD (Mi0) ?_);refine ai (ai (bS (jU (Z0) (M0) (AY) λr h1 hq=>?_)));obtain⟨rfl,x1⟩:=hq;refine bM (M0) ?_;refine dR (Z0) (bQ ?_);have n1:=x1.nx;refine ai (bS (bE 2 (Mi0) rfl (Zi0) (Mi0) (EU (t:=t) (hlv.ext x1 (ab _))) λr h2 hq=>?_));obtain⟨ev,rfl,hE,x2⟩:=hq;obtain⟨n,hn⟩:∃n,n=mB t lens:=⟨_,rfl⟩
 obtain⟨E,hEE⟩:∃E,E=tY t lens:=⟨_,rfl⟩
 rw[<-hn]at k k1 k2 m3;rw[<-hEE]at k k1 k2 m1 m2 hE;rw[<-hn];have n2:=x2.nx;have c0:=hE.cells;obtain⟨h3,w3,x3,g3,n3⟩:=gv (h:=h2) (z:=[.int .i64 0,.nils]) (cs:=[.int .i64 (n:Nat),ev]) (e:=2) rfl;refine mc (λts h'=>h'=h3/\aR ts 0=.bool t/\aR ts 2=.int .i64 z/\aR ts 7=.ptr h2.next 0) (by simp only[am,aI,simprocAttr,bP,w3,c0.1,c0.2]) ?_;rintro ts h3' ⟨rfl,e0,e2,e7⟩;obtain⟨pg,hpg⟩:∃p,p=h2.next:=⟨_,rfl⟩
 rw[<-hpg]at e7 g3 n3;have hE3:SlE h3' ev E:=hE.ext x3 (ab _);have el:=hE.len;rw[ah]at el;have x4:Ext h3'.next h3' (h3'.new (.cells [] 1 false)):=Nt (ab _);have g4:(h3'.new (.cells [] 1 false)).get h3'.next=some (.cells [] 1 false):=by rw[AH.get_new,if_pos rfl]
 have n4:(h3'.new (.cells [] 1 false)).next=h3'.next+1:=rfl;have x5:Ext (h3'.next+1) (h3'.new (.cells [] 1 false)) ((h3'.new (.cells [] 1 false)).new (.cells [] 1 false)):=Nt (ab _);have g5:((h3'.new (.cells [] 1 false)).new (.cells [] 1 false)).get (h3'.next+1)=some (.cells [] 1 false):=by rw[AH.get_new,if_pos n4.symm]
 have n5:((h3'.new (.cells [] 1 false)).new (.cells [] 1 false)).next=h3'.next+2:=rfl;refine ai (bW (λts h'=>h'=(h3'.new (.cells [] 1 false)).new (.cells [] 1 false)/\aR ts 0=.bool t/\aR ts 2=.int .i64 z/\aR ts 7=.ptr pg 0/\aR ts 8=.sl h3'.next 0 0 0/\aR ts 9=.sl (h3'.next+1) 0 0 0) (by simp only[am,aI,simprocAttr,e0,e2,e7]) ?_);clear e0 e2 e7;rintro ts h5 ⟨rfl,e0,e2,e7,e8,e9⟩;have g45:((h3'.new (.cells [] 1 false)).new (.cells [] 1 false)).get h3'.next=some (.cells [] 1 false):=by rw[x5.gt _ om];exact g4
 have x35:Ext h3'.next h3' ((h3'.new (.cells [] 1 false)).new (.cells [] 1 false)):=x4.trans (x5.mono om);generalize ((h3'.new (.cells [] 1 false)).new (.cells [] 1 false))=h5 at *
 have gE:h5.get pg=some (.cells [.int .i64 (n:Nat),ev] 2 false):=by rw[x35.gt _ om];exact g3
 have rE:aA h5 pg 1 1=some [ev]:=bJ gE rfl;have hE5:SlE h5 ev E:=hE3.ext x35 (ab _);obtain⟨i0,hi0⟩:∃i,i=xR z%E.length:=⟨_,rfl⟩
 have hi0l:i0<E.length:=by rw[hi0];exact nD _ m1
 refine ai (jB (λts h'=>∃av bv,Held [(0,.bool t),(7,.ptr pg 0),(8,av),(9,bv)] ts/\IsSl h' 1 (h3'.next) av ((gM E.length).flatMap eI)/\IsSl h' 1 (h3'.next) bv ((pU E.length i0).flatMap eI)/\Ext h3'.next h3' h') ?_ ?_)
 .refine ai (aD (M3 e7 rE el) ?_)
  refine gA (α:=AV×AV) (N:=E.length) (λ_ p=>[(0,.bool t),(2,.int .i64 z),(7,.ptr pg 0),(8,p.1),(9,p.2)])
   (λk p h'=>IsSl h' 1 h3'.next p.1 (nC (List.range k))/\IsSl h' 1 h3'.next p.2 (nC ((List.range k).filter λi=>decide (i≠i0)))/\(∀b m b' m',p.1=.sl b 0 m m->p.2=.sl b' 0 m' m'->b≠b')/\Ext h3'.next h3' h') (.sl h3'.next 0 0 0,.sl (h3'.next+1) 0 0 0) (λ_ _=>rfl) om (H5 e0 e2 e7 e8 e9)
   ⟨.inr ⟨h3'.next,0,om,rfl,g45,rfl⟩,.inr ⟨h3'.next+1,0,om,rfl,g5,rfl⟩,λb m b' m' q q'=>by cases q;cases q';omega,x35⟩ ?_ ?_
  .clear e0 e2 e7 e8 e9 g45 g5 gE rE;rintro j ⟨av,bv⟩ ts h6 hj ⟨i6,j6,d6,x6⟩ ⟨ei,en,e0,e2,e7,e8,e9,-⟩;simp only at ei en e0 e2 e7 e8 e9 i6 j6 d6;have n6:=x6.nx;refine ai (bW (λts h'=>h'=h6/\aR ts 24=.int .i64 (j:Nat)/\aR ts 23=.int .i64 (E.length:Nat)/\aR ts 0=.bool t/\aR ts 2=.int .i64 z/\aR ts 7=.ptr pg 0/\aR ts 8=av/\aR ts 9=bv/\aR ts 10=.int .i64 (j:Nat)) (by simp only[am,aI,simprocAttr,ei,en,e0,e2,e7,e8,e9]) ?_);clear ei en e0 e2 e7 e8 e9;rintro ts h6' ⟨rfl,ei,en,e0,e2,e7,e8,e9,e10⟩;obtain⟨a2,h7,a7,i7,x7,n7,k7,v7⟩:=GP (bytes:=8) [.int .i64 ((j:Nat):Int)] i6 om om rfl rfl (by rw[eJ,br];unfold bq;omega) (by rw[eJ,br];unfold bq;omega);refine ai (bW (λts h'=>h'=h7/\aR ts 24=.int .i64 (j:Nat)/\aR ts 23=.int .i64 (E.length:Nat)/\aR ts 0=.bool t/\aR ts 2=.int .i64 z/\aR ts 7=.ptr pg 0/\aR ts 8=a2/\aR ts 9=bv/\aR ts 10=.int .i64 (j:Nat)) (by simp only[am,aI,simprocAttr,ei,en,e0,e2,e7,e8,e9,e10,a7]) ?_);clear ei en e0 e2 e7 e8 e9 e10;rintro ts h7' ⟨rfl,ei,en,e0,e2,e7,e8,e9,e10⟩;have x7':Ext h3'.next h3' h7':=x6.trans x7;have j7:IsSl h7' 1 h3'.next bv (nC ((List.range j).filter λi=>decide (i≠i0))):=j6.cong λb m e _=>k7 b (j6.lt e) λb' m' e'=>Ne.symm (d6 b' m' b m e' e);have d7:∀b m b' m',a2=.sl b 0 m m->bv=.sl b' 0 m' m'->b≠b':=λb m b' m' q q'=>by
    have:=v7 b m q;have:=j6.lt q';omega
   have i7':IsSl h7' 1 h3'.next a2 (nC (List.range (j+1))):=by rw[cJ,lS];exact i7
   have g7:h7'.get pg=some (.cells [.int .i64 (n:Nat),ev] 2 false):=by rw[x7'.gt _ om];exact g3
   have r7:aA h7' pg 1 1=some [ev]:=bJ g7 rfl;have lo:=wj z;have hmod:(((xR z:Nat):Int)).tmod ((E.length:Nat):Int)=((i0:Nat):Int):=by rw[hi0];rfl
   have hm0:¬((E.length:Nat):Int)=0:=om;by_cases q:j=i0
   .have d:decide (((j:Nat):Int)=((i0:Nat):Int))=true:=bp om;refine ai (aD (by simp only[am,aI,simprocAttr,e2,e7,e10,qM,lo,aC,r7,el,if_neg hm0,hmod,d]<;>rfl) ?_);refine dR (Z0) (bQ ?_);exact⟨(a2,bv),⟨i7',by rw[AB (m:=E.length),if_neg (by simpa using q),bV];exact j7,d7,x7'⟩,H7 ei en e0 e2 e7 e8 e9⟩
   .have d:decide (((j:Nat):Int)=((i0:Nat):Int))=false:=aX om;refine ai (aD (by simp only[am,aI,simprocAttr,e2,e7,e10,qM,lo,aC,r7,el,if_neg hm0,hmod,d]<;>rfl) ?_);refine dv (Z0) ?_;have hfl:(nC ((List.range j).filter λi=>decide (i≠i0))).length<=j:=by
     rw[eJ];exact cI (cF ..) (by simp)
    obtain⟨b2,h8,a8,i8,x8,n8,k8,v8⟩:=GP (bytes:=8) [.int .i64 ((j:Nat):Int)] j7 (by have:=x7'.nx;omega) om rfl rfl (by unfold bq;omega) (by unfold bq;omega);refine aD (M3 e9 e10 a8) ?_;refine⟨(a2,b2),⟨i7'.cong λb m e _=>k8 b (i7'.lt e) λb' m' e'=>d7 b m b' m' e e',by rw[AB (m:=E.length),if_pos q];exact i8,λb m b' m' q1 q2=>?_,x7'.trans x8⟩,H6 ei en e0 e2 e7 e8⟩;have:=v8 b' m' q2;have:=i7'.lt q1;omega
  .clear e0 e2 e7 e8 e9;rintro⟨av,bv⟩ ts h6 ⟨i6,j6,_,x6⟩ ⟨e0,e2,e7,e8,e9,-⟩;simp only at e0 e7 e8 e9 i6 j6;exact⟨av,bv,H4 e0 e7 e8 e9,by rw[<-DG];exact i6,by rw[<-Lz];exact j6,x6⟩
 clear e0 e2 e7 e8 e9;rintro ts h6 ⟨av,bv,⟨e0,e7,e8,e9,-⟩,i6,j6,x6⟩;simp only at e0 e7 e8 e9;have hA:SlI h6 av (gM E.length):=Nq om (λ_=>rfl) i6;have hB:SlI h6 bv (pU E.length i0):=Nq om (λ_=>rfl) j6;have hE6:SlE h6 ev E:=hE3.ext x6 (ab _);have g6:h6.get pg=some (.cells [.int .i64 (n:Nat),ev] 2 false):=by rw[x6.gt _ om];exact g3
 have r6:aA h6 pg 0 2=some [.int .i64 (n:Nat),ev]:=by rw[bI g6];rfl
 refine ai (bW (λts h'=>h'=h6/\aR ts 0=.bool t/\aR ts 7=.ptr pg 0/\aR ts 8=av/\aR ts 9=bv/\aR ts 11=.int .i64 5) (by simp only[am,aI,simprocAttr,e0,e7,e8,e9]) ?_);clear e0 e7 e8 e9;rintro ts h6' ⟨rfl,e0,e7,e8,e9,e11⟩;refine ai (jB (λts h'=>h'=h6'/\Held [(7,.ptr pg 0),(8,av),(9,bv),(11,.int .i64 (if t then 33 else 5))] ts) ?_ ?_)
 .refine ai (aD (M1 e0) ?_);cases t with
  |true =>
    refine dv (Z0) ?_;refine aD (M0) ?_;exact⟨rfl,by simp only[hl,am,aI,simprocAttr,e7,e8,e9,if_true]⟩
  |false =>
    refine dR (Z0) (bQ ?_);exact⟨rfl,by simp only[hl,am,aI,simprocAttr,e7,e8,e9,e11,bC,if_false]⟩
 clear e0 e7 e8 e9 e11;rintro ts h7 ⟨rfl,e7,e8,e9,e11,-⟩;simp only at e7 e8 e9 e11;obtain⟨cc,hcc⟩:∃c,c=(if t then(33:Int)else 5):=⟨_,rfl⟩
 rw[<-hcc]at k e11;refine ai (bS (bE 1 (M2 e7 r6) rfl (Z2 e7 r6) (M2 e7 r6) (zR (n:=n) hE6 om k.plain k1 k2) λr h8 hq=>?_));obtain⟨fv,rfl,hF,x8⟩:=hq;have n8:=x8.nx;refine mc (λts h'=>h'=h8/\aR ts 7=.ptr pg 0/\aR ts 8=av/\aR ts 9=bv/\aR ts 11=.int .i64 cc/\aR ts 12=fv/\aR ts 13=.int .i64 0) (by simp only[am,aI,simprocAttr,e7,e8,e9,e11,hF.cells.1]) ?_;clear e7 e8 e9 e11;rintro ts h8' ⟨rfl,e7,e8,e9,e11,e12,e13⟩;have n6:=x6.nx;have g8:h8'.get pg=some (.cells [.int .i64 (n:Nat),ev] 2 false):=by rw[x8.gt _ om];exact g6
 have r8:aA h8' pg 0 2=some [.int .i64 (n:Nat),ev]:=by rw[bI g8];rfl
 have hlb:(pU E.length i0).length<2^28:=by
  unfold pU;rw[ah];have:=cF (λi=>decide (i≠i0)) (List.range E.length);rw[br]at this;omega
 have q1:C prg 7 [.agg [.int .i64 (n:Nat),ev],av] h8' λr h'=>Ext h8'.next h8' h'/\r=.int .i64 cc:=(uf (n:=(n:Nat)) (hE6.ext x8 (ab _)) (hA.ext x8 (ab _)) om (by rw[kb];omega) om).mono λr h' ⟨a,b⟩=>⟨a,k.all b⟩
 refine ai (bS (bE 2 (M3 e7 e8 r8) rfl (Z3 e7 e8 r8) (M3 e7 e8 r8) (q1) λr h9 hq=>?_));obtain⟨x9,rfl⟩:=hq;have n9:=x9.nx;have X9:Ext h7.next h7 h9:=x8.trans (x9.mono n8);have g9:h9.get pg=some (.cells [.int .i64 (n:Nat),ev] 2 false):=by rw[X9.gt _ om];exact g6
 have r9:aA h9 pg 0 2=some [.int .i64 (n:Nat),ev]:=by rw[bI g9];rfl
 have q2:C prg 7 [.agg [.int .i64 (n:Nat),ev],bv] h9 λr h'=>Ext h9.next h9 h'/\r=.int .i64 0:=(uf (n:=(n:Nat)) (hE6.ext X9 (ab _)) (hB.ext X9 (ab _)) om hlb om).mono λr h' ⟨a,b⟩=>⟨a,k.but hi0l b⟩
 refine bE 5 (M5 e7 e9 e11 @decide_true r9) rfl (Z5 e7 e9 e11 @decide_true r9) (M5 e7 e9 e11 @decide_true r9) (q2) λr h10 hq=>?_;obtain⟨x10,rfl⟩:=hq;have n10:=x10.nx;have X10:Ext h7.next h7 h10:=X9.trans (x10.mono om);have X810:Ext h8'.next h8' h10:=x9.trans (x10.mono n9);have g10:h10.get pg=some (.cells [.int .i64 (n:Nat),ev] 2 false):=by rw[X10.gt _ om];exact g6
 have r10:aA h10 pg 0 2=some [.int .i64 (n:Nat),ev]:=by rw[bI g10];rfl
 refine bE 9 (M5 e7 e8 e12 e13 @decide_true) rfl (Z5 e7 e8 e12 e13 @decide_true) (M5 e7 e8 e12 e13 @decide_true) (GI (hF.ext X810 (ab _)) (hA.ext X10 (ab _)) (by rw[kb];omega) (by rw[kb];omega)) λr h11 hq=>?_;obtain⟨rfl,rfl⟩:=hq;refine bE 3 (M3 e7 @decide_true r10) rfl (Z3 e7 @decide_true r10) (M3 e7 @decide_true r10) (Bk (n:=(n:Nat)) (hE6.ext X10 (ab _)) om) λr h12 hq=>?_;obtain⟨b,rfl,hb,_⟩:=hq;obtain rfl:b=false:=by
  cases b with
  |false=>rfl
  |true=>exact absurd (hb.1 rfl) k1
 refine bM (M0) ?_;exact bU ⟨.bool true,(by simp only[rs,rf3,am,aI,simprocAttr]<;>rfl),rfl⟩
open Go.Am Go.Shelf
def sren:Ren:=⟨λx=>match x with|189=>23|125=>41|257=>40|128=>63|129=>64|294=>54|295=>55|296=>56|297=>57|298=>58|299=>59|216=>60|300=>61|301=>62|328=>78|329=>79|330=>80|331=>81|332=>82|215=>83|343=>100|n=>n,λx=>match x with|28=>22|46=>77|51=>102|53=>104|183=>94|182=>93|131=>99|218=>114|222=>118|228=>131|229=>132|n=>n,λn=>n⟩
def sre2:Ren:=⟨λx=>match x with|6=>47|15=>41|14=>67|28=>63|29=>64|20=>86|21=>87|22=>88|23=>89|24=>90|25=>91|26=>92|27=>93|46=>103|47=>79|48=>80|49=>104|50=>105|57=>108|n=>n,λx=>match x with|22=>47|24=>22|25=>86|39=>77|53=>102|55=>104|46=>94|45=>93|50=>99|66=>114|70=>118|76=>131|77=>132|n=>n,λn=>n⟩
theorem brs{f:FuncId}{B:Func}(h1:((Tryz.prog.funcs[f]?.getD Tryz.f47).name== "runtime.NumGoroutine")=false)(h2:Tryz.prog.funcs[f]?=some { B with name:=(Tryz.prog.funcs[f]?.getD Tryz.f47).name}):Bears Tryz.prog f B:=⟨_,h1,h2⟩
theorem slay:Lays.n189 Tryz.prog sren:=by
 constructor<;>first|kernel_rfl|(intro;kernel_rfl)
theorem sla2:SlLaysF.n6 Tryz.prog sre2:=by
 constructor<;>first|kernel_rfl|exact brs (by kernel_rfl) (by kernel_rfl)|(intro;kernel_rfl)
theorem cmp48:Jp Tryz.prog 48:=by
 intro W b1 o1 n1 c1 b2 o2 n2 c2 k1 k2 h1 h2 a1 a2 a3 a4
 go_enter Tryz.func48,Tryz.ntmps48
 go_wp2
 go_quiet (fail)
 go_wp2
 go_ret
 exact⟨rfl,_,rfl⟩
theorem ssrt:Jk Tryz.prog 23:=λblk off cap zs w hH hb hz=>calls_of_every_depth λD=>AnyS.slices_Sort_int_alone slay D blk off cap zs w hH hb hz
theorem srts:Jm Tryz.prog mks:=by
 have c:∀{k:Nat}{r:RF},(cx Tryz.prog k).bind dQ=some r->∃rf,cx Tryz.prog k=some rf:=λh=>let ⟨rf,h,_⟩:=iM.1 h;⟨rf,h⟩;exact yL.2 ⟨.inl ⟨rfl,JD ssrt (c cf23)⟩,yL.2 ⟨.inr ⟨48,rfl,JF sla2 rfl (enters_of Tryz.func48 (by kernel_rfl) rfl) cmp48 (c cf47)⟩,λ_ h=>by cases h⟩⟩
end Go.Proofs.YtlolkmcdimgplaaGreat
