/- The definition's side -/
import Derived.Test.YtklpoimdclflmaaGreatDoorTTAJ
set_option linter.all false
namespace Go.Proofs.YtklpoimdclflmaaGreatDoor
open Go.Am
variable {es:List (Int×Int)}{ev:AV}{h:AH}{n:Int}
def Fk{n:Nat}(he:SlE h ev es)(hm:fC (n:Nat) es=true) :
 C prg 74 [.agg [.int .i64 (n:Nat),ev]] h λr h'=>∃xs:List Int,SlI h' r xs/\(xs=[]↔Acy es)/\Ext h.next h h':=by
 obtain⟨m1,m2,m3,m4⟩:=iX hm;have el:=he.len;rw[ah]at el;obtain⟨ec,eo⟩:=he.cells;refine Oj rfl ?_;have x0:Ext h.next h (h.new (.cells [.int .i64 (n:Nat),ev] 2 false)):=Oe (ab _);have g0:(h.new (.cells [.int .i64 (n:Nat),ev] 2 false)).get h.next=some (.cells [.int .i64 (n:Nat),ev] 2 false):=by rw[AH.get_new,if_pos rfl]
 have n0:(h.new (.cells [.int .i64 (n:Nat),ev] 2 false)).next=h.next+1:=rfl;refine ae (ak (Mi0) ?_);generalize h.new (.cells [.int .i64 (n:Nat),ev] 2 false)=h0 at *
 have r0:ai h0 h.next 0 2=some [.int .i64 (n:Nat),ev]:=by rw[aR g0];rfl
 refine ae (bM (bj 1 (Mi1 r0) rfl (Zi1 r0) (Mi1 r0) (HA (he.ext x0 (ab _)) hm) λr h1 hq=>?_));obtain⟨lb,hlb,rfl,gL,x1⟩:=hq;refine bI (M0) ?_;have X1:=x0.trans (x1.mono x0.nx);have n1:=x1.nx;have hlt:=AH.lt_of_get gL;have G1:h1.get h.next=some (.cells [.int .i64 (n:Nat),ev] 2 false):=by rw[x1.gt _ om];exact g0
 have rn:ai h1 h.next 0 1=some [.int .i64 (n:Nat)]:=bq G1 rfl;have hlk:∀{h':AH}{v:Nat},h'.get lb=some (.cells (bls (dY n es n)) 1 false)->v<n->ai h' lb v 1=some [.bool (lk n es n v)]:=λhg hv=>bq hg (Dg (by rw[kj];exact hv));have hacy:=Ip (n:=n) (es:=es) m4;refine ae (ak (Mi0) ?_)
 refine ae (qj (λts h'=>h'=h1/\∃k,k<=n/\(∀v,v<k->lk n es n v=false)/\(k<n->lk n es n k=true)/\Held [(1,.ptr h.next 0),(3,.sl lb 0 n n),(4,.int .i64 (k:Nat))] ts)
  (dl (Kd n (λk ts h'=>h'=h1/\(∀v,v<k->lk n es n v=false)/\Held [(1,.ptr h.next 0),(3,.sl lb 0 n n),(4,.int .i64 (k:Nat))] ts) ?_ ⟨rfl,λv hv=>absurd hv om,Hi1 @bh⟩)) ?_)
 .rintro k ts h' hk ⟨rfl,j1,e1,e3,e4,-⟩;simp only at e1 e3 e4;by_cases q:k<n
  .have c1:decide (((k:Nat):Int)<((n:Nat):Int))=true:=aH om;have ik:fe ((k:Nat):Int) n=some k:=cK q;have rk:=hlk gL q;have w1:=dW (k:=k) om;refine ae (ae (ak (M8 e1 e3 e4 rn c1 ik rk @aP) ?_));refine cF (t:=!lk n es n k) (Z0) (λq2=>?_) λq2=>?_
   .have q2:lk n es n k=false:=by simpa using q2
    refine bz (dl (ak (M2 e4 w1) ?_));refine⟨q,rfl,λv hv=>?_,H2 e1 e3⟩;by_cases e:v=k
    .subst e;exact q2
    .exact j1 v om
   .have q2:lk n es n k=true:=by simpa using q2
    exact fM ⟨λ_=>⟨rfl,k,om,j1,λ_=>q2,H3 e1 e3 e4⟩,λe=>absurd rfl e⟩
  .have c1:decide (((k:Nat):Int)<((n:Nat):Int))=false:=aw om;refine ae (ae (ak (M4 e1 e4 rn c1) ?_));refine dC (Z0) ?_;exact fM ⟨λ_=>⟨rfl,k,om,j1,λq'=>absurd q' q,H3 e1 e3 e4⟩,λe=>absurd rfl e⟩
 rintro ts h' ⟨rfl,k0,hk0,j1,j2,e1,e3,e4,-⟩;simp only at e1 e3 e4;refine ae (ae (ak (M3 e1 e4 rn) ?_));refine cF (t:=decide (k0=n)) (by simp only[am,aL,simprocAttr];exact congrArg AV.bool (by simp only[decide_eq_decide];omega)) (λq=>?_) λq=>?_
 .have q:k0=n:=aY q;subst q;refine ae (ak (M0) ?_);exact bu ⟨.nils,(by simp only[rs,rf74,am,aL,simprocAttr]<;>rfl),[],.inl ⟨rfl,.inl rfl⟩,⟨λ_=>hacy.1 j1,λ_=>rfl⟩,X1⟩
 have q:¬k0=n:=bo q;have hk0n:k0<n:=om;have hleft:=j2 hk0n;have hnot:¬Acy es:=λha=>by rw[hacy.2 ha k0 hk0n]at hleft;cases hleft
 refine bz ?_;refine ae (ak (M0) ?_);have x2:Ext h'.next h' (h'.new (.cells [] 1 false)):=Oe (ab _);have g2:(h'.new (.cells [] 1 false)).get h'.next=some (.cells [] 1 false):=by rw[AH.get_new,if_pos rfl]
 have n2:(h'.new (.cells [] 1 false)).next=h'.next+1:=rfl;generalize h'.new (.cells [] 1 false)=h2 at *
 refine ae (qj (λts h3=>∃way:List Int,∃(wv:AV) (a:Nat),way.length<=n/\((a:Nat):Int)∈way/\IsSl h3 1 h'.next wv (way.flatMap eI)/\Ext h'.next h' h3/\Held [(5,wv),(4,.int .i64 (a:Nat))] ts)
  (dl (Kd n (λk ts h3=>∃way:List Int,∃(wv:AV) (a:Nat),way.length=k/\way.Nodup/\(∀z∈way,z∈jX n)/\a<n/\lk n es n a=true/\IsSl h3 1 h'.next wv (way.flatMap eI)/\Ext h'.next h' h3/\Held [(1,.ptr h.next 0),(3,.sl lb 0 n n),(5,wv),(4,.int .i64 (a:Nat))] ts) ?_
   ⟨[],.sl h'.next 0 0 0,k0,rfl,fk,by simp,hk0n,hleft,.inr ⟨h'.next,0,ab _,rfl,g2,rfl⟩,x2,H3 e1 e3 e4⟩)) ?_)
 .rintro k ts h3 hk ⟨way,wv,a,i1,i2,i3,ha,hla,iw,ix,e1,e3,e5,e4,-⟩;simp only at e1 e3 e5 e4;have sw:SlI h3 wv way:=Ob om (λ_=>rfl) iw;refine ae (ae (bM (bj 2 (M2 e5 e4) rfl (Z2 e5 e4) (M2 e5 e4) (yp (x:=((a:Nat):Int)) sw om) λr h4 hq=>?_)));obtain⟨rfl,rfl⟩:=hq;refine bI (M0) ?_;have hlo:=(lj (((a:Nat):Int)==·) way 0).2;rw[sd]at hlo;refine cF (t:=decide (eM (((a:Nat):Int)==·) way 0<0)) (Z0) (λq2=>?_) λq2=>?_
  rotate_left
  .have q2:((a:Nat):Int)∈way:=by
    refine Decidable.byContradiction λhc=>?_;exact bo q2 (hlo.2 (aw hc))
   exact fM ⟨λ_=>⟨way,wv,a,om,q2,iw,ix,H2 e5 e4⟩,λe=>absurd rfl e⟩
  have q2:¬((a:Nat):Int)∈way:=bo (hlo.1 (aY q2));refine bz (dl ?_);obtain⟨s',h5,a5,i5,x5,n5⟩:=iw.push (bytes:=8) [.int .i64 ((a:Nat):Int)] ix.nx om rfl rfl (by rw[ee];unfold bf;omega) (by rw[ee];unfold bf;omega);refine ae (ak (M3 e5 e4 a5) ?_);have X5:Ext h'.next h' h5:=ix.trans x5;have rn5:ai h5 h.next 0 1=some [.int .i64 (n:Nat)]:=by rw[bi (X5.gt _ om)];exact rn
  have re5:ai h5 h.next 1 1=some [ev]:=bq (by rw[X5.gt _ om];exact G1) rfl;have gL5:h5.get lb=some (.cells (bls (dY n es n)) 1 false):=by rw[X5.gt _ hlt];exact gL
  have he5:=he.ext (X1.trans (X5.mono X1.nx)) (ab _);refine ae (ak (M2 e1 rn5) ?_);refine ae (ae (ak (M0) ?_))
  refine dX (α:=Int) (N:=es.length) (λj b=>[(1,.ptr h.next 0),(3,.sl lb 0 n n),(5,s'),(4,.int .i64 (a:Nat)),(6,.int .i64 b),(7,.int .i64 (j:Nat))])
   (λj b h6=>h6=h5/\((b=n/\∀e∈es.take j,¬(e.2=((a:Nat):Int)/\lk n es n e.1.toNat=true))\/(0<=b/\b<n/\lk n es n b.toNat=true))) ((n:Nat):Int) (H4 e1 e3 e4 @bh) ⟨rfl,.inl ⟨rfl,by simp⟩⟩ ?_ ?_ ?_
  .rintro j b ts h6 hj ⟨rfl,jb⟩ ⟨e1,e3,e5,e4,e6,e7,-⟩;simp only at e1 e3 e5 e4 e6 e7;exact⟨_,(M5 e1 e7 re5 el @bE),Z0,H6 e1 e3 e5 e4 e6 e7⟩
  .rintro j b ts h6 hj ⟨rfl,jb⟩ ⟨e1,e3,e5,e4,e6,e7,-⟩;simp only at e1 e3 e5 e4 e6 e7;obtain⟨b1,p1,a1,_,rr,_⟩:=he5.at (cm (f:=eE) hj);have ra:ai h6 b1 p1 1=some [.int .i64 es[j].1]:=rr 0 _ rfl;have rb:ai h6 b1 (p1+1) 1=some [.int .i64 es[j].2]:=rr 1 _ rfl;obtain⟨ea,eb,hab,hea,heb⟩:=nH (bK.1 m4 _ (ar hj));rw[hab]at ra rb;simp only at ra rb;have ia:fe ((ea:Nat):Int) n=some ea:=cK hea;have la:=hlk gL5 hea;have w1:=dW (k:=j) om;have htk:es.take (j+1)=es.take j++[(((ea:Nat):Int),((eb:Nat):Int))]:=by rw[aI hj,hab]
   have keep:(¬(((eb:Nat):Int)=((a:Nat):Int)/\lk n es n ea=true))->((b=n/\∀e∈es.take (j+1),¬(e.2=((a:Nat):Int)/\lk n es n e.1.toNat=true))\/(0<=b/\b<n/\lk n es n b.toNat=true)):=λhne=>by
    rcases jb with⟨jb,ja⟩|jb
    .refine .inl ⟨jb,λe hee=>?_⟩;rw[htk,aZ]at hee;rcases hee with hee|hee
     .exact ja e hee
     .simp only[aF,bA,or_false]at hee;subst hee;exact hne
    .exact .inr jb
   by_cases q3:((eb:Nat):Int)=((a:Nat):Int)
   .have c3:decide (((eb:Nat):Int)=((a:Nat):Int))=true:=aH q3;refine ae (ak (by simp only[am,aL,simprocAttr,e1,e3,e4,e7,re5,a1,ra,rb,c3,ia,la,aP]<;>rfl) ?_);refine cF (t:=lk n es n ea) (Z0) (λq4=>?_) λq4=>?_
    .refine ak (M7 e1 e6 e7 re5 a1 ra @mn2) ?_;refine⟨if ((ea:Nat):Int)<b then((ea:Nat):Int)else b,⟨rfl,.inr ?_⟩,_,(M2 e7 w1),H4 e1 e3 e5 e4⟩;have hb':b=n\/(0<=b/\b<n/\lk n es n b.toNat=true):=by
      rcases jb with⟨jb,_⟩|jb
      .exact .inl jb
      .exact .inr jb
     split
     .exact⟨om,om,by rw[aO];exact q4⟩
     .rcases hb' with hb'|hb'
      .omega
      .exact hb'
    .exact bz ⟨b,⟨rfl,keep (λhh=>by rw[hh.2]at q4;cases q4)⟩,_,(M2 e7 w1),H5 e1 e3 e5 e4 e6⟩
   .have c3:decide (((eb:Nat):Int)=((a:Nat):Int))=false:=aw q3;refine ae (ak (M10 e1 e3 e4 e7 re5 a1 ra rb c3 c3) ?_);refine dC (Z0) (bz ⟨b,⟨rfl,keep (λhh=>q3 hh.1)⟩,_,(M2 e7 w1),H5 e1 e3 e5 e4 e6⟩)
  .rintro b ts h6 ⟨rfl,jb⟩ ⟨e1,e3,e5,e4,e6,e7,-⟩;simp only at e1 e3 e5 e4 e6 e7;rw[bt]at jb;have hb:0<=b/\b<n/\lk n es n b.toNat=true:=by
    rcases jb with⟨_,ja⟩|jb
    .obtain⟨e,hee,h1,h2⟩:=xh hla;have:=lM (bK.1 m4 e hee);exact absurd ⟨om,h1⟩ (ja e hee)
    .exact jb
   obtain⟨bb,rfl⟩:∃bb:Nat,b=bb:=⟨b.toNat,om⟩
   refine ak (M1 e6) ?_;have hnd:(way++[((a:Nat):Int)]).Nodup:=by
    rw[bQ];refine⟨i2,by simp,λx hx y hy e=>?_⟩;simp only[aF,bA,or_false]at hy;subst hy;exact q2 (e▸hx)
   have hup:∀z∈way++[((a:Nat):Int)],z∈jX n:=λz hz=>by
    rcases aZ.1 hz with hz|hz
    .exact i3 z hz
    .simp only[aF,bA,or_false]at hz;subst hz;exact fA.2 ⟨om,om⟩
   have hle:=qA hnd hup;rw[kK,aJ]at hle;refine⟨?_,way++[((a:Nat):Int)],s',bb,by rw[aJ,i1];rfl,hnd,hup,om,by have:=hb.2.2;rwa [aO]at this,?_,X5,H3 e1 e3 e5⟩
   .simp only[bd,bm]at hle;omega
   .rw[br];exact i5
 rintro ts h3 ⟨way,wv,a,hwl,ham,iw,ix,e5,e4,-⟩;simp only at e5 e4;have sw:SlI h3 wv way:=Ob om (λ_=>rfl) iw;obtain⟨i,hi1,hi2⟩:=vr ham;obtain⟨v',s1,s2,_⟩:=sw.from (lo:=i) (by rw[ah];omega);rw[<-gJ]at s2;have X3:Ext h.next h h3:=X1.trans (ix.mono X1.nx);refine ae (bM (bj 3 (M2 e5 e4) rfl (Z2 e5 e4) (M2 e5 e4) (yp (x:=((a:Nat):Int)) sw om) λr h4 hq=>?_));obtain⟨rfl,rfl⟩:=hq;rw[hi1];refine bI (by simp only[am,aL,simprocAttr,dQ,bW,s1]<;>rfl) ?_;have l2:=s2.len;rw[ah]at l2;have hml:0<(way.drop i).length:=by rw[cI];omega
 have hml2:(way.drop i).length<=64:=by rw[cI];omega
 generalize way.drop i=ws at *
 refine ae (ak (M0) ?_);refine ae (ae (ak (M0) ?_));refine dX (α:=Nat) (N:=ws.length) (λk l=>[(5,v'),(8,.int .i64 (l:Nat)),(9,.int .i64 (k:Nat))]) (λk l h5=>h5=h4/\l<ws.length) 0 (H1 @bh) ⟨rfl,hml⟩ ?_ ?_ ?_
 .rintro k l ts h5 hk ⟨rfl,jl⟩ ⟨e5,e8,e9,-⟩;simp only at e5 e8 e9;exact⟨_,(M4 e5 e9 l2 @bE),Z0,H3 e5 e8 e9⟩
 .rintro k l ts h5 hk ⟨rfl,jl⟩ ⟨e5,e8,e9,-⟩;simp only at e5 e8 e9;obtain⟨b1,p1,a1,r1,_⟩:=s2.at1 (cm (f:=eI) hk);obtain⟨b2,p2,a2,r2,_⟩:=s2.at1 (cm (f:=eI) jl);have w1:=dW (k:=k) om;refine ae (ak (M7 e5 e8 e9 a1 a2 r1 r2) ?_);refine cF (t:=decide (ws[k]<ws[l])) (Z0) (λq=>?_) λq=>?_
  .refine ak (M1 e9) ?_;exact⟨k,⟨rfl,hk⟩,_,(M2 e9 w1),H1 e5⟩
  .exact bz ⟨l,⟨rfl,jl⟩,_,(M2 e9 w1),H2 e5 e8⟩
 .rintro l ts h5 ⟨rfl,jl⟩ ⟨e5,e8,e9,-⟩;simp only at e5 e8;refine ae (ak (M0) ?_);have x6:Ext h5.next h5 (h5.new (.cells [] 1 false)):=Oe (ab _);have g6:(h5.new (.cells [] 1 false)).get h5.next=some (.cells [] 1 false):=by rw[AH.get_new,if_pos rfl]
  have n6:(h5.new (.cells [] 1 false)).next=h5.next+1:=rfl;generalize h5.new (.cells [] 1 false)=h6 at *
  refine ae (ae (ak (M0) ?_))
  refine dX (α:=AV×List Int) (N:=ws.length) (λk a=>[(5,v'),(8,.int .i64 (l:Nat)),(10,a.1),(11,.int .i64 (k:Nat))]) (λk a h7=>a.2.length=k/\IsSl h7 1 h5.next a.1 (a.2.flatMap eI)/\Ext h5.next h5 h7) (.sl h5.next 0 0 0,[]) (H3 e5 e8 @bh)
   ⟨rfl,.inr ⟨h5.next,0,ab _,rfl,g6,rfl⟩,x6⟩ ?_ ?_ ?_
  .rintro k ⟨av,ys⟩ ts h7 hk ⟨k1,k2,kx⟩ ⟨e5,e8,e10,e11,-⟩;simp only at e5 e8 e10 e11 k1 k2;exact⟨_,(M4 e5 e11 l2 @bE),Z0,H4 e5 e8 e10 e11⟩
  .rintro k ⟨av,ys⟩ ts h7 hk ⟨k1,k2,kx⟩ ⟨e5,e8,e10,e11,-⟩;simp only at e5 e8 e10 e11 k1 k2;have hidx:(l+ws.length-k)%ws.length<ws.length:=NU _ hml;have s7:=s2.ext kx (ab _);obtain⟨b1,p1,a1,r1,_⟩:=s7.at1 (cm (f:=eI) hidx);have w1:=dW (k:=k) om;have wa:IntKind.i64.wrap (((l:Nat):Int)+((ws.length:Nat):Int))=((l+ws.length:Nat):Int):=by rw[fU om om];omega
   have wb:IntKind.i64.wrap (((l+ws.length:Nat):Int)-((k:Nat):Int))=((l+ws.length-k:Nat):Int):=by rw[fU om om];omega
   have wc:((l+ws.length-k:Nat):Int).tmod ((ws.length:Nat):Int)=(((l+ws.length-k)%ws.length:Nat):Int):=rfl;have wd:(if ((ws.length:Nat):Int)=0 then(none:Option AV)else some (.int .i64 (((l+ws.length-k:Nat):Int).tmod ((ws.length:Nat):Int))))=some (.int .i64 (((l+ws.length-k)%ws.length:Nat):Int)):=by rw[if_neg om,wc]
   obtain⟨s'',h8,a8,i8,x8,n8⟩:=k2.push (bytes:=8) [.int .i64 (ws[(l+ws.length-k)%ws.length])] kx.nx om rfl rfl (by rw[ee];unfold bf;omega) (by rw[ee];unfold bf;omega);refine ak (M12 e5 e8 e10 e11 l2 wa wb wd a1 r1 a8 a8) ?_;refine⟨(s'',ys++[ws[(l+ws.length-k)%ws.length]]),⟨by simp[k1],?_,kx.trans x8⟩,_,(M2 e11 w1),H2 e5 e8⟩;simp only;rw[br];exact i8
  .rintro⟨av,ys⟩ ts h7 ⟨k1,k2,kx⟩ ⟨e5,e8,e10,e11,-⟩;simp only at e10 k1 k2;refine ae (ak (M1 e10) ?_);refine bu ⟨av,(by simp only[rs,rf74,am,aL,simprocAttr]<;>rfl),ys,Ob om (λ_=>rfl) k2,⟨λh=>?_,λh=>absurd h hnot⟩,X3.trans (kx.mono X3.nx)⟩;rw[h]at k1;simp only[bm]at k1;omega
open Go.Am
def Fl(he:SlE h ev es)(hl:es.length<2^30) :
 C prg 39 [.agg [.int .i64 n,ev]] h λr h'=>(∃c a v,r=.tup [.int .i64 c,a,v]/\(c=0↔ft n es))/\Ext h.next h h':=by
 have el:=he.len;rw[ah]at el;obtain⟨ec,eo⟩:=he.cells;refine Oj rfl ?_;have x0:Ext h.next h (h.new (.cells [.int .i64 n,ev] 2 false)):=Oe (ab _);have g0:(h.new (.cells [.int .i64 n,ev] 2 false)).get h.next=some (.cells [.int .i64 n,ev] 2 false):=by rw[AH.get_new,if_pos rfl]
 have n0:(h.new (.cells [.int .i64 n,ev] 2 false)).next=h.next+1:=rfl;refine ae (ak (Mi0) ?_);generalize h.new (.cells [.int .i64 n,ev] 2 false)=h0 at *
 have r0:ai h0 h.next 0 2=some [.int .i64 n,ev]:=by rw[aR g0];rfl
 refine ae (ae (bM (bj 1 (Mi1 r0) rfl (Zi1 r0) (Mi1 r0) (Lq (he.ext x0 (ab _)) om) λr h1 hq=>?_)));obtain⟨rfl,x1⟩:=hq;refine bI (M0) ?_;have X1:=x0.trans (x1.mono x0.nx);have n1:=x1.nx;refine cF (t:=!fC n es) (Z0) (λq=>?_) λq=>?_
 .have q:fC n es=false:=by simpa using q
  refine ae (ak (M0) ?_);exact bu ⟨.tup [.int .i64 1,.int .i64 0,.nils],(by simp only[rs,rf39,am,aL,simprocAttr]<;>rfl),⟨1,_,_,rfl,⟨λh=>om,λh=>by rw[h.1]at q;cases q⟩⟩,X1⟩
 have hm:fC n es=true:=by simpa using q
 obtain⟨nn,rfl⟩:∃nn:Nat,n=nn:=⟨n.toNat,by
  simp only[fC,aU,aK]at hm;omega⟩
 refine bz ?_;have G1:h1.get h.next=some (.cells [.int .i64 (nn:Nat),ev] 2 false):=by rw[x1.gt _ om];exact g0
 have re:ai h1 h.next 1 1=some [ev]:=bq G1 rfl;have he1:=he.ext X1 (ab _);refine ae (ae (ak (M0) ?_));refine dX (α:=Unit) (N:=es.length) (λk _=>[(1,.ptr h.next 0),(5,.int .i64 (k:Nat))]) (λk _ h'=>h'=h1/\∀e∈es.take k,e.1≠e.2) () (Oi1 @bh) ⟨rfl,by simp⟩ ?_ ?_ ?_
 .rintro k _ ts h2 hk ⟨rfl,j1⟩ ⟨e1,e5,-⟩;simp only at e1 e5;exact⟨_,(J5 e1 e5 re el @bE),I0,O2 e1 e5⟩
 .rintro k _ ts h2 hk ⟨rfl,j1⟩ ⟨e1,e5,-⟩;simp only at e1 e5;obtain⟨b1,p1,a1,_,rr,_⟩:=he1.at (cm (f:=eE) hk);have ra:ai h2 b1 p1 1=some [.int .i64 es[k].1]:=rr 0 _ rfl;have rb:ai h2 b1 (p1+1) 1=some [.int .i64 es[k].2]:=rr 1 _ rfl;have w1:=dW (k:=k) om;refine ae (ak (M6 e1 e5 re a1 ra rb) ?_);refine cF (t:=decide (es[k].1=es[k].2)) (Z0) (λq=>?_) λq=>?_
  .have q:es[k].1=es[k].2:=aY q;refine ae (ak (M1 e5) ?_);exact bu ⟨.tup [.int .i64 13,.int .i64 (k:Nat),.nils],(by simp only[rs,rf39,am,aL,simprocAttr,e5]<;>rfl),⟨13,_,_,rfl,⟨λh=>om,λh=>absurd q (h.2.1 _ (ar hk))⟩⟩,X1⟩
  .have q:¬es[k].1=es[k].2:=bo q;refine bz ⟨(),⟨rfl,λe hee=>?_⟩,_,(J2 e5 w1),O1 e1⟩;rw[aI hk,aZ]at hee;rcases hee with hee|hee
   .exact j1 e hee
   .simp only[aF,bA,or_false]at hee;subst hee;exact q
 rintro _ ts h2 ⟨rfl,j1⟩ ⟨e1,-⟩;simp only at e1;rw[bt]at j1;refine ae (ae (ak (M0) ?_));refine dX (α:=Unit) (N:=es.length) (λk _=>[(1,.ptr h.next 0),(6,.int .i64 (k:Nat))]) (λk _ h'=>h'=h2/\(es.take k).Nodup) () (O2 e1 @bh) ⟨rfl,by simp⟩ ?_ ?_ ?_
 .rintro k _ ts h3 hk ⟨rfl,j2⟩ ⟨e1,e6,-⟩;simp only at e1 e6;exact⟨_,(J5 e1 e6 re el @bE),I0,O2 e1 e6⟩
 .rintro k _ ts h3 hk ⟨rfl,j2⟩ ⟨e1,e6,-⟩;simp only at e1 e6;have w1:=dW (k:=k) om;obtain⟨b2,p2,a2,r2,_⟩:=he1.at (cm (f:=eE) hk);refine ae (ak (M0) ?_);refine dX (α:=Unit) (N:=k) (λj _=>[(1,.ptr h.next 0),(6,.int .i64 (k:Nat)),(7,.int .i64 (j:Nat))]) (λj _ h'=>h'=h3/\es[k]∉es.take j) () (O3 e1 e6 @bh) ⟨rfl,by simp⟩ ?_ ?_ ?_
  .rintro j _ ts h4 hj ⟨rfl,j3⟩ ⟨e1,e6,e7,-⟩;simp only at e1 e6 e7;exact⟨_,(J3 e6 e7 @bE),I0,O3 e1 e6 e7⟩
  .rintro j _ ts h4 hj ⟨rfl,j3⟩ ⟨e1,e6,e7,-⟩;simp only at e1 e6 e7;have hjl:j<es.length:=om;have w2:=dW (k:=j) om;obtain⟨b1,p1,a1,r1,_⟩:=he1.at (cm (f:=eE) hjl);refine ae (ak (M10 e1 e6 e7 re a1 a2 r1 r2 @vA @vA) ?_);refine cF (t:=es[j]==es[k]) (Z0) (λq=>?_) λq=>?_
   .have q:es[j]=es[k]:=by simpa using q
    refine ae (ak (M1 e6) ?_);refine bu ⟨.tup [.int .i64 14,.int .i64 (k:Nat),.nils],(by simp only[rs,rf39,am,aL,simprocAttr,e6]<;>rfl),⟨14,_,_,rfl,⟨λh=>om,λh=>?_⟩⟩,X1⟩;exfalso;have:=h.2.2.1;rw[<-cH k es,cj hk,bQ]at this;refine this.2.2 es[k] ?_ _ (aM ..) rfl;rw[<-q];exact List.mem_take_iff_getElem.2 ⟨j,om,rfl⟩
   .have q:¬es[j]=es[k]:=by simpa using q
    refine bz ⟨(),⟨rfl,?_⟩,_,(J2 e7 w2),O2 e1 e6⟩;rw[aI hjl,aZ];rintro (h|h)
    .exact j3 h
    .simp only[aF,bA,or_false]at h;exact q h.symm
  .rintro _ ts h4 ⟨rfl,j3⟩ ⟨e1,e6,e7,-⟩;simp only at e1 e6;refine⟨(),⟨rfl,?_⟩,_,(J2 e6 w1),O1 e1⟩;rw[aI hk,bQ];refine⟨j2,by simp,λx hx y hy e=>?_⟩;simp only[aF,bA,or_false]at hy;subst hy;exact j3 (e▸hx)
 rintro _ ts h3 ⟨rfl,j2⟩ ⟨e1,-⟩;simp only at e1;rw[bt]at j2;have r3:ai h3 h.next 0 2=some [.int .i64 (nn:Nat),ev]:=by rw[aR G1];rfl
 refine ae (bM (bj 1 (M2 e1 r3) rfl (Z2 e1 r3) (M2 e1 r3) (Fk he1 hm) λr h4 hq=>?_));obtain⟨xs,sx,hxa,x4⟩:=hq;refine bI (M0) ?_;have X4:=X1.trans (x4.mono X1.nx);have lx:=sx.len;rw[ah]at lx;refine ae (ae (ak (M1 lx) ?_));refine cF (t:=decide (0<xs.length)) (by simp only[am,aL,simprocAttr];exact congrArg AV.bool (by simp only[decide_eq_decide];omega)) (λq=>?_) λq=>?_
 .have q:0<xs.length:=aY q;refine ae (ak (M0) ?_);refine bu ⟨.tup [.int .i64 15,.int .i64 0,r],(by simp only[rs,rf39,am,aL,simprocAttr]<;>rfl),⟨15,_,_,rfl,⟨λh=>om,λh=>?_⟩⟩,X4⟩;exfalso;have:=hxa.2 h.2.2.2.1;subst this;simp at q
 have q:¬0<xs.length:=bo q;have hacy:=hxa.1 (aW.1 om);refine bz ?_;have r4:ai h4 h.next 0 2=some [.int .i64 (nn:Nat),ev]:=by rw[bi (x4.gt _ om)];exact r3
 have hn64:=(iX hm).2.1;refine ae (bM (bj 1 (M2 e1 r4) rfl (Z2 e1 r4) (M2 e1 r4) (uH (he.ext X4 (ab _)) hl hn64) λsv h5 hq=>?_));obtain⟨is,x5⟩:=hq;refine bI (M0) ?_;have X5:=X4.trans (x5.mono X4.nx);have ss:SlI h5 sv (gU nn es):=Ob om (λ_=>rfl) is;have ls:=ss.len;rw[ah]at ls;refine ae (ae (ak (M1 ls) ?_));refine cF (t:=decide (1<(gU nn es).length)) (by simp only[am,aL,simprocAttr];exact congrArg AV.bool (by simp only[decide_eq_decide];omega)) (λq2=>?_) λq2=>?_
 .have q2:1<(gU nn es).length:=aY q2;obtain⟨v',s1,_,_⟩:=ss.upto (hi:=2) (by rw[ah];omega);have s1:slV h5 1 sv none (some (.int .i64 2)) none=some v':=s1;refine ae (ak (by simp only[am,aL,simprocAttr,dQ,bW,s1]<;>rfl) ?_);refine bu ⟨.tup [.int .i64 16,.int .i64 0,v'],(by simp only[rs,rf39,am,aL,simprocAttr]<;>rfl),⟨16,_,_,rfl,⟨λh=>om,λh=>?_⟩⟩,X5⟩;exfalso;have:=h.2.2.2.2;rw[aO]at this;omega
 .have q2:¬1<(gU nn es).length:=bo q2;refine bz (ae (ak (M0) ?_));exact bu ⟨.tup [.int .i64 0,.int .i64 0,.nils],(by simp only[rs,rf39,am,aL,simprocAttr]<;>rfl),⟨0,_,_,rfl,⟨λ_=>⟨hm,j1,j2,hacy,by rw[aO];omega⟩,λ_=>rfl⟩⟩,X5⟩
def uD(he:SlE h ev es)(hl:es.length<2^30) :
 C prg 22 [.agg [.int .i64 n,ev]] h λr h'=>(∃b,r=.bool b/\(b=true↔ft n es))/\Ext h.next h h':=by
 obtain⟨ec,eo⟩:=he.cells;refine Oj rfl ?_;have x0:Ext h.next h (h.new (.cells [.int .i64 n,ev] 2 false)):=Oe (ab _);have g0:(h.new (.cells [.int .i64 n,ev] 2 false)).get h.next=some (.cells [.int .i64 n,ev] 2 false):=by rw[AH.get_new,if_pos rfl]
 refine ae (ak (Mi0) ?_);generalize h.new (.cells [.int .i64 n,ev] 2 false)=h0 at *
 have r0:ai h0 h.next 0 2=some [.int .i64 n,ev]:=by rw[aR g0];rfl
 refine ae (bM (bj 1 (Mi1 r0) rfl (Zi1 r0) (Mi1 r0) (Fl (he.ext x0 (ab _)) hl) λr h1 hq=>?_));obtain⟨⟨c,a,v,rfl,hc⟩,x1⟩:=hq;refine bI (M0) ?_;refine ae (ak (M0) ?_);exact bu ⟨.bool (decide (c=0)),(by simp only[rs,rf22,am,aL,simprocAttr]<;>rfl),⟨_,rfl,by rw[aK];exact hc⟩,x0.trans (x1.mono x0.nx)⟩
open Go.Am
structure IsRef(h:AH)(fb n:Nat)(es:List (Int×Int))(row:List It)(pl:List Int)(ev rv pv:AV):Prop where
 g:h.get fb=some (.cells [.int .i64 (n:Nat),ev,rv,pv] 4 false)
 e:SlE h ev es
 r:SlT h rv row
 p:SlI h pv pl
 oe:∀b o m c,ev=.sl b o m c->b≠fb
 or:∀b o m c,rv=.sl b o m c->b≠fb
 op:∀b o m c,pv=.sl b o m c->b≠fb
 hm:fC (n:Nat) es=true
def IsRef.ext{h h':AH}{fb n:Nat}{es:List (Int×Int)}{row:List It}{pl:List Int}{ev rv pv:AV}(hr:IsRef h fb n es row pl ev rv pv)(hx:Ext h.next h h'):IsRef h' fb n es row pl ev rv pv :=
 ⟨by rw[hx.gt _ (AH.lt_of_get hr.g)];exact hr.g,hr.e.ext hx (ab _),hr.r.ext hx (ab _),hr.p.ext hx (ab _),hr.oe,hr.or,hr.op,hr.hm⟩
def EW{fb n:Nat}{row:List It}{pl:List Int}{rv pv:AV}{x:Int}(hr:IsRef h fb n es row pl ev rv pv)(hl:row.length<2^30)(hl2:pl.length<2^30) :
 C prg 77 [.ptr fb 0,.int .i64 x] h λr h'=>r=.bool (jy n es row pl x)/\Ext h.next h h':=by
 obtain⟨m1,m2,m3,m4⟩:=iX hr.hm;have rn:ai h fb 0 1=some [.int .i64 (n:Nat)]:=bq hr.g rfl;have rp:ai h fb 3 1=some [pv]:=bq hr.g rfl;refine Oj rfl ?_;refine ae (ak (Ji0) ?_);by_cases q1:x<0
 .have c1:decide (x<0)=true:=aH q1;refine ae (ae (bM (fB 17 (Ji1 c1) rfl (I0) ?_)));refine bI (J0) ?_;refine cZ (I0) (ae (ak (J0) ?_));refine bu ⟨.bool false,(by simp only[Am.results,jj,kZ,rf77,am,aL,↓reduceIte,Nat.reduceEqDiff,Int.reduceEq,Nat.reduceAdd,Nat.reduceLeDiff,reduceCtorEq]<;>rfl),?_,Oh⟩;have:decide (0<=x/\x<(n:Int))=false:=aw om;simp only[jy,this,eF]
 have c1:decide (x<0)=false:=aw q1;by_cases q2:((n:Nat):Int)<=x
 .have c2:decide (((n:Nat):Int)<=x)=true:=aH q2;refine ae (ae (bM (fB 17 (Ji3 c1 c2 rn) rfl (I0) ?_)));refine bI (J0) ?_;refine cZ (I0) (ae (ak (J0) ?_));refine bu ⟨.bool false,(by simp only[Am.results,jj,kZ,rf77,am,aL,↓reduceIte,Nat.reduceEqDiff,Int.reduceEq,Nat.reduceAdd,Nat.reduceLeDiff,reduceCtorEq]<;>rfl),?_,Oh⟩;have:decide (0<=x/\x<(n:Int))=false:=aw om;simp only[jy,this,eF]
 have c2:decide (((n:Nat):Int)<=x)=false:=aw q2;have c3:decide (0<=x/\x<(n:Int))=true:=aH om;refine ae (ae (bM (bj 17 (Ji4 c1 c2 rn rp) rfl (Ii4 c1 c2 rn rp) (Ji4 c1 c2 rn rp) (Af (x:=x) hr.p om) λr h1 hq=>?_)));obtain⟨rfl,rfl⟩:=hq;refine bI (J0) ?_;refine cF (t:=decide (x∈pl)) (I0) (λq=>?_) λq=>?_
 .refine ae (ak (J0) ?_);refine bu ⟨.bool false,(by simp only[Am.results,jj,kZ,rf77,am,aL,↓reduceIte,Nat.reduceEqDiff,Int.reduceEq,Nat.reduceAdd,Nat.reduceLeDiff,reduceCtorEq]<;>rfl),?_,Oh⟩;simp only[jy,q,dp,kI,eF]
 refine bz ?_;have hred:jy n es row pl x=(decide ((dr es x).length=0)||mC x (dr es x).length row 0):=by
  simp only[jy,c3,q,fI,oB]
 rw[hred];have rg:ai h1 fb 0 2=some [.int .i64 (n:Nat),ev]:=by rw[aR hr.g];rfl
 refine ae (bM (bj 5 (Ji1 rg) rfl (Ii1 rg) (Ji1 rg) (uG (x:=x) (fr:=false) hr.e om) λr h2 hq=>?_));obtain⟨i2,x2⟩:=hq;have s2:SlI h2 r (dr es x):=Ob om (λ_=>rfl) i2;have l2:=s2.len;rw[ah]at l2;refine bI (J1 l2) ?_;have hr2:=hr.ext x2;refine ae (ae (ak (J0) ?_));refine cF (t:=decide ((dr es x).length=0)) (by simp only[am,aL,↓reduceIte,Nat.reduceEqDiff,Int.reduceEq,Nat.reduceAdd,Nat.reduceLeDiff,reduceCtorEq];exact congrArg AV.bool (by simp only[decide_eq_decide];omega)) (λq3=>?_) λq3=>?_
 .refine ae (ak (J0) ?_);exact bu ⟨.bool true,(by simp only[Am.results,jj,kZ,rf77,am,aL,↓reduceIte,Nat.reduceEqDiff,Int.reduceEq,Nat.reduceAdd,Nat.reduceLeDiff,reduceCtorEq]<;>rfl),by rw[q3];rfl,x2⟩
 rw[q3,BN];refine bz ?_;have hil:(dr es x).length<=128:=cu (fG _ _ _) m3;generalize (dr es x).length=need at *
 have rr:ai h2 fb 2 1=some [rv]:=bq hr2.g rfl;have lr:=hr2.r.len;rw[ah]at lr;refine ae (ak (J0) ?_);refine ae (ae (ak (J0) ?_));refine dX (α:=Nat) (N:=row.length) (λk a=>[(0,.ptr fb 0),(1,.int .i64 x),(5,.int .i64 (need:Nat)),(6,.int .i64 (a:Nat)),(7,.int .i64 (k:Nat))]) (λk a h'=>h'=h2/\a<=k/\mC x need (row.drop k) a=mC x need row 0) 0 (Oi1 @bh) ⟨rfl,ab _,rfl⟩ ?_ ?_ ?_
 .rintro k a ts h3 hk ⟨rfl,ja,j1⟩ ⟨e0,e1,e5,e6,e7,-⟩;simp only at e0 e1 e5 e6 e7;exact⟨_,(J5 e0 e7 rr lr @bE),I0,O5 e0 e1 e5 e6 e7⟩
 .rintro k a ts h3 hk ⟨rfl,ja,j1⟩ ⟨e0,e1,e5,e6,e7,-⟩;simp only at e0 e1 e5 e6 e7;obtain⟨b1,p1,a1,_,rs,_⟩:=hr2.r.at (cm (f:=eT) hk);have ra:ai h3 b1 p1 1=some [.int .i64 row[k].1]:=rs 0 _ rfl;have rc:ai h3 b1 (p1+2) 1=some [.int .i64 row[k].2.2]:=rs 2 _ rfl;have w1:=dW (k:=k) om;have w2:=dW (k:=a) om;rw[cj hk,mC]at j1;refine ae (ak (J6 e0 e1 e7 rr a1 rc) ?_);refine cF (t:=decide (row[k].2.2=x)) (I0) (λp=>?_) λp=>?_
  .have p:row[k].2.2=x:=aY p;rw[if_pos p]at j1;refine ak (J2 e6 w2) ?_;exact⟨a+1,⟨rfl,om,j1⟩,_,(J2 e7 w1),O3 e0 e1 e5⟩
  .have p:¬row[k].2.2=x:=bo p;rw[if_neg p]at j1;have next:¬(0<=row[k].1/\0<a/\a<need)->mC x need (row.drop (k+1)) a=mC x need row 0:=λhne=>by rw[if_neg hne]at j1;exact j1
   by_cases t1:0<=row[k].1
   .have d1:decide (0<=row[k].1)=true:=aH t1;by_cases t2:0<a
    .have d2:decide ((0:Int)<((a:Nat):Int))=true:=aH om;refine ae (ak (J10 e0 e5 e6 e7 rr a1 ra d1 d2 d2) ?_);refine cF (t:=decide (a<need)) (I1 @bE) (λt3=>?_) λt3=>?_
     .have t3:a<need:=aY t3;rw[if_pos ⟨t1,t2,t3⟩]at j1;refine ae (ak (J0) ?_);exact bu ⟨.bool false,(by simp only[Am.results,jj,kZ,rf77,am,aL,↓reduceIte,Nat.reduceEqDiff,Int.reduceEq,Nat.reduceAdd,Nat.reduceLeDiff,reduceCtorEq]<;>rfl),by rw[j1],x2⟩
     .have t3:¬a<need:=bo t3;exact bz ⟨a,⟨rfl,om,next (λhh=>t3 hh.2.2)⟩,_,(J2 e7 w1),O4 e0 e1 e5 e6⟩
    .have d2:decide ((0:Int)<((a:Nat):Int))=false:=aw om;refine ae (ak (J10 e0 e5 e6 e7 rr a1 ra d1 d2 d2) ?_);refine dC (I0) (bz ⟨a,⟨rfl,om,next (λhh=>t2 hh.2.1)⟩,_,(J2 e7 w1),O4 e0 e1 e5 e6⟩)
   .have d1:decide (0<=row[k].1)=false:=aw t1;refine ae (ak (J8 e0 e5 e6 e7 rr a1 ra d1) ?_);refine dC (I0) (bz ⟨a,⟨rfl,om,next (λhh=>t1 hh.1)⟩,_,(J2 e7 w1),O4 e0 e1 e5 e6⟩)
 .rintro a ts h3 ⟨rfl,ja,j1⟩ ⟨e0,e1,e5,e6,e7,-⟩;simp only at e5 e6;rw[ou]at j1;refine ae (ak (J2 e5 e6) ?_);refine bu ⟨_,(by simp only[Am.results,jj,kZ,rf77,am,aL,↓reduceIte,Nat.reduceEqDiff,Int.reduceEq,Nat.reduceAdd,Nat.reduceLeDiff,reduceCtorEq]<;>rfl),?_,x2⟩;rw[<-j1];exact congrArg AV.bool (by simp only[mC,decide_eq_decide];omega)
end Go.Proofs.YtklpoimdclflmaaGreatDoor
