/- block.begin, other. -/
import Derived.Test.YtcfncejilmimpaaGreatVTAI
set_option linter.all false
namespace Go.Proofs.YtcfncejilmimpaaGreat
open Go.Am
open Go.Blk (Gr DS upd)
variable {E:List (Int×Int)}{eb k lb n sp x:Nat}{ev:AV}{h h0:AH}{s:DS}
def mr(E:List (Int×Int))(k x:Nat):List Nat:=(List.range k).filter λi=>decide (tlE E i=x)||decide (hdE E i=x)
theorem BK:mr E (k+1) x=mr E k x++if tlE E k=x\/hdE E k=x then [k]else []:=by
 unfold mr;rw[dl,iM];congr 1;by_cases q:tlE E k=x\/hdE E k=x
 .rw[if_pos q,List.filter_cons_of_pos (by simpa using q)];rfl
 .rw[if_neg q,List.filter_cons_of_neg (by simpa using q)];rfl
theorem wL:(mr E k x).length<=k:=by
 unfold mr;have:=cS (λi=>decide (tlE E i=x)||decide (hdE E i=x)) (List.range k);rwa [bH]at this
theorem Nq(l m:List Nat):nI (l++m)=nI l++nI m:=by simp[nI]
def lH(n:Nat)(E:List (Int×Int))(k:Nat):List (List Int):=(List.range n).map λx=>nI (mr E k x)
theorem mf(hx:x<n):(lH n E k)[x]?=some (nI (mr E k x)):=by
 unfold lH;rw[aF,ew hx];rfl
theorem Ej{k:Nat}(ha:tlE E k<n)(hb:hdE E k<n)(hab:tlE E k≠hdE E k) :
 ((lH n E k).set (tlE E k) (nI (mr E k (tlE E k))++[((k:Nat):Int)])).set (hdE E k) (nI (mr E k (hdE E k))++[((k:Nat):Int)])=lH n E (k+1):=by
 refine cY λj=>?_;have hl:(lH n E k).length=n:=by simp[lH]
 have hl2:(lH n E (k+1)).length=n:=by simp[lH]
 rw[dA,dA,cB,hl];by_cases hj:j<n
 .rw[mf hj,mf hj,BK,Nq];by_cases e1:hdE E k=j
  .rw[if_pos e1,if_pos hb,if_pos (.inr e1),e1];rfl
  .rw[if_neg e1];by_cases e2:tlE E k=j
   .rw[if_pos e2,if_pos ha,if_pos (.inl e2),e2];rfl
   .rw[if_neg e2,if_neg (by rintro (q|q);exact e2 q;exact e1 q)];simp[nI]
 .rw[if_neg om,if_neg om,bA (by rw[hl];omega),bA (by rw[hl2];omega)]
theorem Ek(h:AH)(n:Nat)(E:List (Int×Int)):Rw h h.next (df [.nils] n) (lH n E 0):=by
 rw[iX];refine⟨by simp[lH],λi v xs h1 h2=>?_,λi j b n' b' n'' _ h1=>?_⟩
 .rw[eF]at h1;split at h1
  .rename_i hi
   rw[mf hi]at h2;simp only[aa]at h1 h2;subst h1 h2;exact .inl ⟨rfl,by simp[mr,nI]⟩
  .cases h1
 .rw[eF]at h1;split at h1<;>cases h1
theorem FF{nb:Nat}{stv blv:AV}{bs:List AV}(t:Sta h0 sp eb nb lb n ev E)(r:Ser h0 h sp eb nb lb n ev s stv blv bs)(hE:InG n E)(hL:∀i,i<E.length->tlE E i≠hdE E i)(hn:n<2^40){i x:Nat}(hi:(grE n E hE hL).inc i x) :
 C prg 56 [.ptr sp 0,.int .i64 (i:Nat),.int .i64 (x:Nat)] h λv h'=>v=.int .i64 ((grE n E hE hL).oth i x:Nat)/\Ext h.next h h':=by
 refine Oj pf56 ?_;obtain⟨h1,h2⟩:=id hi;have him:i<E.length:=h1;have hx2:tlE E i=x\/hdE E i=x:=h2;have hLi:=hL i him;obtain⟨q1,q2,q3⟩:=hE i him;have he:=t.edges r.kp;obtain⟨b,p,a,rr,_,_⟩:=he.at (fX (f:=eE) him);rw[q1]at rr;have rse:ar h sp 1 1=some [ev]:=bF r.cell rfl;have ho:((tlE E i:Nat):Int)+((hdE E i:Nat):Int)-((x:Nat):Int)=(((grE n E hE hL).oth i x:Nat):Int):=by
  show _=((tlE E i+hdE E i-x:Nat):Int)
  omega
 have hol:(grE n E hE hL).oth i x<n:=by
  show tlE E i+hdE E i-x<n;omega
 have w1:IntKind.i64.wrap (((tlE E i:Nat):Int)+((hdE E i:Nat):Int))=((tlE E i:Nat):Int)+((hdE E i:Nat):Int):=ft om om;have w2:IntKind.i64.wrap (((tlE E i:Nat):Int)+((hdE E i:Nat):Int)-((x:Nat):Int))=(((grE n E hE hL).oth i x:Nat):Int):=by rw[ho];exact ft om om
 obtain⟨h3,w3,x3,g3,n3⟩:=ip (h:=h) (z:=[.int .i64 0,.int .i64 0]) (cs:=[.int .i64 (tlE E i:Nat),.int .i64 (hdE E i:Nat)]) (e:=2) rfl;clear hi;generalize (grE n E hE hL).oth i x=y at *
 refine ai (aE (Mi0) ?_);refine ai (aE (by simp only[am,aJ,simprocAttr,bL,rse,a,rr,eE,w3]<;>rfl) ?_);have ra:ar h3 h.next 0 1=some [.int .i64 (tlE E i:Nat)]:=bF g3 rfl;have rb:ar h3 h.next 1 1=some [.int .i64 (hdE E i:Nat)]:=bF g3 rfl;refine ai (bW (λts h'=>h'=h3/\bt ts 6=.int .i64 (y:Nat)) (by simp only[am,aJ,simprocAttr,bL,ra,rb,w1,w2]) ?_);rintro ts h4 ⟨rfl,e6⟩;exact bP ⟨.int .i64 (y:Nat),(by simp only[rs,rf56,am,aJ,simprocAttr,e6]<;>rfl),rfl,x3⟩
set_option maxHeartbeats 1000000 in
theorem FJ(he:SlE h ev E)(hE:InG n E)(hL:∀i,i<E.length->tlE E i≠hdE E i)(hxl:E.length<2^30)(hnl:n<2^30) :
 C prg 40 [.agg (gW n ev)] h λr h'=>∃sp eb nb lb,r=.ptr sp 0/\Ext h.next h h'/\(h.next<=sp/\h.next<=nb/\h.next<=lb)/\Sta h' sp eb nb lb n ev E/\Ser h' h' sp eb nb lb n ev Go.Blk.start .nils .nils []:=by
 obtain⟨ec,eo⟩:=he.cells;have hlen:=he.len;rw[ah]at hlen;unfold gW;refine Oj pf40 ?_;refine ai (aE (Mi0) ?_);have x0:Ext h.next h (h.new (.cells [.int .i64 (n:Nat),ev] 2 false)):=Og (ab _);have g0:(h.new (.cells [.int .i64 (n:Nat),ev] 2 false)).get h.next=some (.cells [.int .i64 (n:Nat),ev] 2 false):=by rw[AH.get_new,if_pos rfl]
 have n0:(h.new (.cells [.int .i64 (n:Nat),ev] 2 false)).next=h.next+1:=rfl;generalize h.new (.cells [.int .i64 (n:Nat),ev] 2 false)=h1 at *
 have kn:(h1.keep 4).next=h1.next+4:=AH.keep_next 4 h1;have kg:∀c,(h1.keep 4).get c=if h1.next<=c/\c<h1.next+4 then some .resv else h1.get c:=λc=>AH.keep_get 4 h1
 have k1:(h1.keep 4).get h.next=some (.cells [.int .i64 (n:Nat),ev] 2 false):=by rw[kg,if_neg om];exact g0
 have ra:ar (h1.keep 4) h.next 0 2=some [.int .i64 (n:Nat),ev]:=by rw[bC k1];rfl
 have rb:ar (h1.keep 4) h.next 0 1=some [.int .i64 (n:Nat)]:=by rw[bC k1];rfl
 have mva:=pR (z:=[.nils]) (bytes:=24) (n:=n) (by unfold bd;omega) (by unfold bd;omega);have mvb:=pR (z:=[.int .i64 0]) (bytes:=8) (n:=n) (by unfold bd;omega) (by unfold bd;omega);have q0:(h1.keep 4).get h1.next=some .resv:=by rw[kg,if_pos ⟨om,om⟩]
 obtain⟨m1,hm1⟩:∃m,m=(h1.keep 4).put h1.next (.cells (df [.nils] n) 1 false):=⟨_,rfl⟩
 have v1:Upd (h1.keep 4) m1 h1.next (.cells (df [.nils] n) 1 false):=by rw[hm1];exact Oi q0
 have q1:m1.get (h1.next+1)=some .resv:=by rw[v1.ne om,kg,if_pos ⟨om,om⟩]
 obtain⟨m2,hm2⟩:∃m,m=m1.put (h1.next+1) (.cells (df [.int .i64 0] n) 1 false):=⟨_,rfl⟩
 have v2:Upd m1 m2 (h1.next+1) (.cells (df [.int .i64 0] n) 1 false):=by rw[hm2];exact Oi q1
 have q2:m2.get (h1.next+2)=some .resv:=by rw[v2.ne om,v1.ne om,kg,if_pos ⟨om,om⟩]
 obtain⟨m3,hm3⟩:∃m,m=m2.put (h1.next+2) (.cells (df [.int .i64 0] n) 1 false):=⟨_,rfl⟩
 have v3:Upd m2 m3 (h1.next+2) (.cells (df [.int .i64 0] n) 1 false):=by rw[hm3];exact Oi q2
 have q3:m3.get (h1.next+3)=some .resv:=by rw[v3.ne om,v2.ne om,v1.ne om,kg,if_pos ⟨om,om⟩]
 obtain⟨m4,hm4⟩:∃m,m=m3.put (h1.next+3) (.cells [.int .i64 (n:Nat),ev,.sl h1.next 0 n n,.sl (h1.next+1) 0 n n,.sl (h1.next+2) 0 n n,.int .i64 0,.nils,.nils] 8 false):=⟨_,rfl⟩
 have v4:Upd m3 m4 (h1.next+3) (.cells [.int .i64 (n:Nat),ev,.sl h1.next 0 n n,.sl (h1.next+1) 0 n n,.sl (h1.next+2) 0 n n,.int .i64 0,.nils,.nils] 8 false):=by rw[hm4];exact Oi q3
 have bx:=uz (k:=8) (cs:=[.int .i64 (n:Nat),ev,.sl h1.next 0 n n,.sl (h1.next+1) 0 n n,.sl (h1.next+2) 0 n n,.int .i64 0,.nils,.nils]) rfl
 refine ai (Dt (λts h2=>h2=m4/\bt ts 1=.ptr h.next 0/\bt ts 3=.ptr (h1.next+3) 0)
  (by simp only[am,aJ,simprocAttr,bL,ra,rb,eO,mq q0,<-hm1,mq q1,<-hm2,mq q2,<-hm3,wJ q3,mva,mvb,bx,ec,eo,oJ,<-hm4]) ?_)
 rintro ts h2 ⟨hh2,t1,t3⟩;subst hh2;clear hm1 hm2 hm3 hm4;have n2:h2.next=h1.next+4:=by rw[v4.nx,v3.nx,v2.nx,v1.nx,kn]
 have gk:∀c,c<h1.next->h2.get c=h1.get c:=λc hc=>by rw[v4.ne om,v3.ne om,v2.ne om,v1.ne om,kg,if_neg om]
 have x2:Ext h1.next h1 h2:=⟨om,gk,λc hc=>by rw[v4.ty,v3.ty,v2.ty,v1.ty];exact Oe 4 h1⟩
 have gE:h2.get h1.next=some (.cells (df [.nils] n) 1 false):=by rw[v4.ne om,v3.ne om,v2.ne om];exact v1.get
 have gN:h2.get (h1.next+1)=some (.cells (il n λ_=>0) 1 false):=by rw[v4.ne om,v3.ne om,v2.get,CZ]
 have gL:h2.get (h1.next+2)=some (.cells (il n λ_=>0) 1 false):=by rw[v4.ne om,v3.get,CZ]
 have gS:=v4.get;have g1:h2.get h.next=some (.cells [.int .i64 (n:Nat),ev] 2 false):=by rw[gk _ om];exact g0
 clear v1 v2 v3 v4 q0 q1 q2 q3 kg kn k1 ra rb bx mva mvb;have X2:Ext h.next h h2:=x0.trans (x2.mono om);have rE:ar h2 h.next 1 1=some [ev]:=bF g1 rfl;have rl:(df [AV.nils] n).length=n:=by rw[iX,List.length_replicate]
 refine ai (ai (aE (M4 t1 t3 rE hlen) ?_))
 refine iI (α:=List AV) (N:=E.length) (λ_ _=>[(3,.ptr (h1.next+3) 0),(19,ev)])
  (λk a h'=>h'.get (h1.next+3)=some (.cells [.int .i64 (n:Nat),ev,.sl h1.next 0 n n,.sl (h1.next+1) 0 n n,.sl (h1.next+2) 0 n n,.int .i64 0,.nils,.nils] 8 false)/\h'.get h1.next=some (.cells a 1 false)/\h'.get (h1.next+1)=some (.cells (il n λ_=>0) 1 false)/\h'.get (h1.next+2)=some (.cells (il n λ_=>0) 1 false)/\a.length=n/\Rw h' h2.next a (lH n E k)/\Ext h1.next h1 h'/\h2.next<=h'.next)
  (df [.nils] n) (λ_ _=>rfl) om (H1 t3) ⟨gS,gE,gN,gL,rl,Ek h2 n E,x2,ab _⟩ ?_ ?_
 .clear gS gE gN gL;rintro k es ts h5 hk ⟨j1,j2,j3,j4,j5,j6,j7,j8⟩ ⟨ei,en,e3,e19,-⟩;simp only at ei en e3 e19 j2 j5 j6;obtain⟨q1,q2,q3⟩:=hE k hk;have hLk:=hL k hk;have X5:Ext h.next h h5:=x0.trans (j7.mono om);obtain⟨b1,p1,a1,r1,_⟩:=(he.ext X5 (ab _)).at (fX (f:=eE) hk);rw[q1]at r1;generalize ha:tlE E k=a at *
  generalize hb:hdE E k=b at *
  obtain⟨h6,w6,x6,g6,n6⟩:=ip (h:=h5) (z:=[.int .i64 0,.int .i64 0]) (cs:=[.int .i64 (a:Nat),.int .i64 (b:Nat)]) (e:=2) rfl;refine ai (aE (by simp only[am,aJ,simprocAttr,e3,e19,ei,a1,r1,eE,w6]<;>rfl) ?_);obtain⟨x7,p7,n7,y7⟩:=qN (h:=h6) (o:=.cells [.int .i64 (k:Nat)] 1 false);have kg:∀c,c<h6.next->(h6.keep 1).get c=h6.get c:=λc hc=>by rw[AH.keep_get,if_neg om]
  have q7:(h6.keep 1).get h6.next=some .resv:=jE;have j1':h6.get (h1.next+3)=some (.cells [.int .i64 (n:Nat),ev,.sl h1.next 0 n n,.sl (h1.next+1) 0 n n,.sl (h1.next+2) 0 n n,.int .i64 0,.nils,.nils] 8 false):=by rw[x6.gt _ om];exact j1
  have j2':h6.get h1.next=some (.cells es 1 false):=by rw[x6.gt _ om];exact j2
  have s1':ar (h6.keep 1) (h1.next+3) 2 1=some [.sl h1.next 0 n n]:=by rw[bC (by rw[kg _ om];exact j1')];rfl
  have s2':ar (h6.keep 1) h5.next 0 1=some [.int .i64 (a:Nat)]:=by rw[bC (by rw[kg _ om];exact g6)];rfl
  have hR:Rw ((h6.keep 1).put h6.next (.cells [.int .i64 (k:Nat)] 1 false)) h2.next es (lH n E k):=j6.cong λc hc hcn=>by rw[y7 _ om,x6.gt _ om]
  obtain⟨va,va',h8,s1,s2,s3,s4,s5,s6,s7,s8⟩:=hR.push (i:=a) (x:=h6.next) (k:=(k:Nat)) (mf q2) om p7 om (λj b n q=>by have:=j6.lt q;omega)
   (by rw[jY];have:=wL (E:=E) (k:=k) (x:=a);omega)
  have v3:ar (h6.keep 1) h1.next a 1=some [va]:=bF (by rw[kg _ om];exact j2') s1;have ia:gz ((a:Nat):Int) n=some a:=dW q2;have d1:h8.get (h1.next+3)=some (.cells [.int .i64 (n:Nat),ev,.sl h1.next 0 n n,.sl (h1.next+1) 0 n n,.sl (h1.next+2) 0 n n,.int .i64 0,.nils,.nils] 8 false):=by rw[s6.gt _ om,y7 _ om];exact j1'
  have d2:h8.get h1.next=some (.cells es 1 false):=by rw[s6.gt _ om,y7 _ om];exact j2'
  have d5:h8.get h5.next=some (.cells [.int .i64 (a:Nat),.int .i64 (b:Nat)] 2 false):=by rw[(s8 _ om (λj b n q=>by have:=j6.lt q;omega)).1,y7 _ om];exact g6
  have f1:ar h8 (h1.next+3) 2 1=some [.sl h1.next 0 n n]:=by rw[bC d1];rfl
  have f2:ar h8 h5.next 0 1=some [.int .i64 (a:Nat)]:=by rw[bC d5];rfl
  have f3:=iE (v:=va') d2 (show a<es.length by omega);have u9:=Oi (o:=.cells (es.set a va') 1 false) d2;refine ai (Cp (by simp only[am,aJ,simprocAttr,e3,s1',s2',v3,eO,ez q7,ia,aU,s2,s3,s4,f1,f2,f3]<;>rfl) ?_);generalize h8.put h1.next (.cells (es.set a va') 1 false)=h9 at *
  have n9:=u9.nx;have hR9:Rw h9 h2.next (es.set a va') ((lH n E k).set a (nI (mr E k a)++[((k:Nat):Int)])):=s5.cong λc hc _=>u9.ne om;have l9:∀(j b n:Nat),(es.set a va')[j]?=some (AV.sl b 0 n n)->b≠h5.next:=λj b n' q=>(s8 _ om (λj b n q=>by have:=j6.lt q;omega)).2 j b n' q;have l6:∀(j b n:Nat),(es.set a va')[j]?=some (AV.sl b 0 n n)->b<h9.next:=λj b n' q=>(hR9.lt q).1;obtain⟨X7,P7,N7,Y7⟩:=qN (h:=h9) (o:=.cells [.int .i64 (k:Nat)] 1 false);have kg2:∀c,c<h9.next->(h9.keep 1).get c=h9.get c:=λc hc=>by rw[AH.keep_get,if_neg om]
  have Q7:(h9.keep 1).get h9.next=some .resv:=jE;have J1:h9.get (h1.next+3)=some (.cells [.int .i64 (n:Nat),ev,.sl h1.next 0 n n,.sl (h1.next+1) 0 n n,.sl (h1.next+2) 0 n n,.int .i64 0,.nils,.nils] 8 false):=by rw[u9.ne om];exact d1
  have J2:=u9.get;have J5:h9.get h5.next=some (.cells [.int .i64 (a:Nat),.int .i64 (b:Nat)] 2 false):=by rw[u9.ne om];exact d5
  have V1:ar (h9.keep 1) (h1.next+3) 2 1=some [.sl h1.next 0 n n]:=by rw[bC (by rw[kg2 _ om];exact J1)];rfl
  have V2:ar (h9.keep 1) h5.next 1 1=some [.int .i64 (b:Nat)]:=by rw[bC (by rw[kg2 _ om];exact J5)];rfl
  have HR:Rw ((h9.keep 1).put h9.next (.cells [.int .i64 (k:Nat)] 1 false)) h2.next (es.set a va') ((lH n E k).set a (nI (mr E k a)++[((k:Nat):Int)])):=hR9.cong λc hc hcn=>Y7 _ om
  obtain⟨vb,vb',H8,S1,S2,S3,S4,S5,S6,S7,S8⟩:=HR.push (i:=b) (x:=h9.next) (k:=(k:Nat)) (xs:=nI (mr E k b)) (by rw[cM hLk];exact mf q3) om P7 om (λj b n q=>by have:=l6 j b n q;omega)
   (by rw[jY];have:=wL (E:=E) (k:=k) (x:=b);omega)
  have hst:=Ej (n:=n) (E:=E) (k:=k) om om om;rw[ha,hb]at hst;rw[hst]at S5;have hol:(es.set a va').length=n:=by rw[cB,j5]
  have V3:ar (h9.keep 1) h1.next b 1=some [vb]:=bF (by rw[kg2 _ om];exact J2) S1;have ib:gz ((b:Nat):Int) n=some b:=dW q3;have D1:H8.get (h1.next+3)=some (.cells [.int .i64 (n:Nat),ev,.sl h1.next 0 n n,.sl (h1.next+1) 0 n n,.sl (h1.next+2) 0 n n,.int .i64 0,.nils,.nils] 8 false):=by rw[S6.gt _ om,Y7 _ om];exact J1
  have D2:H8.get h1.next=some (.cells (es.set a va') 1 false):=by rw[S6.gt _ om,Y7 _ om];exact J2
  have D5:H8.get h5.next=some (.cells [.int .i64 (a:Nat),.int .i64 (b:Nat)] 2 false):=by rw[(S8 _ om l9).1,Y7 _ om];exact J5
  have F1:ar H8 (h1.next+3) 2 1=some [.sl h1.next 0 n n]:=by rw[bC D1];rfl
  have F2:ar H8 h5.next 1 1=some [.int .i64 (b:Nat)]:=by rw[bC D5];rfl
  have F3:=iE (v:=vb') D2 (show b<(es.set a va').length by omega);have U9:=Oi (o:=.cells ((es.set a va').set b vb') 1 false) D2;refine Cp (by simp only[am,aJ,simprocAttr,e3,V1,V2,V3,eO,ez Q7,ib,aU,S2,S3,S4,F1,F2,F3]<;>rfl) ?_;generalize H8.put h1.next (.cells ((es.set a va').set b vb') 1 false)=H9 at *
  have N9:=U9.nx;refine⟨(es.set a va').set b vb',⟨by rw[U9.ne om];exact D1,U9.get,?_,?_,by rw[cB,hol],S5.cong λc hc _=>U9.ne om,?_,om⟩,H4 ei en e3 e19⟩
  .rw[U9.ne om,S6.gt _ om,Y7 _ om,u9.ne om,s6.gt _ om,y7 _ om,x6.gt _ om];exact j3
  .rw[U9.ne om,S6.gt _ om,Y7 _ om,u9.ne om,s6.gt _ om,y7 _ om,x6.gt _ om];exact j4
  .exact j7.trans ((x6.mono om).trans ((x7.mono om).trans ((s6.mono om).trans ((u9.ext (ab _)).trans ((X7.mono om).trans ((S6.mono om).trans (U9.ext om)))))))
 .rintro es ts h5 ⟨j1,j2,j3,j4,j5,j6,j7,j8⟩ ⟨e3,e19,-⟩;simp only at e3 j2 j5 j6;refine ai (aE (M1 e3) ?_);have X5:Ext h.next h h5:=x0.trans (j7.mono om);have he5:=he.ext X5 (ab _);refine bP ⟨.ptr (h1.next+3) 0,(by simp only[rs,rf40,am,aJ,simprocAttr]<;>rfl),h1.next+3,h1.next,h1.next+1,h1.next+2,rfl,X5,⟨om,om,om⟩,{ he:=he5,oe:=?_,ge:=⟨es,j2,j5,λx v q=>?_⟩,ne:=⟨om,om,om,om,om,om⟩,lt:=⟨om,om,om⟩},{ kp:=Kp.refl,cell:=j1,gn:=j3,gl:=j4,st:=.inl ⟨rfl,rfl⟩,bl:=.inl ⟨rfl,rfl⟩,rl:=rfl,rw:=λj v l q=>by simp at q,sb:=Sep.nill}⟩
  .have key:∀v:AV,(∀b o m c,v=.sl b o m c->b<h.next)->Off (SS (h1.next+3) (h1.next+1) (h1.next+2)) v:=λv hv=>by
    cases v<;>try exact trivial
    rename_i b o m c
    have:=hv b o m c rfl;rintro (e|e|e)<;>omega
   exact key ev λb o m c e=>he.lt e
  .have hxn:x<n:=by rw[<-j5];exact(aM.1 q).1
   have i1:=j6.2.1 x v _ q (mf hxn);refine⟨IsSl.sl om (λ_=>rfl) i1,?_⟩;rcases i1 with⟨rfl,_⟩|⟨b,m,hb,rfl,_⟩
   .exact trivial
   .rintro (e|e|e)<;>omega
open Go.Am
open Go.Blk (Gr DS upd)
def dU(l:List Nat):List Nat:=l.mergeSort λa b=>decide (a<=b)
theorem kQ(l:List Nat):(dU l).Perm l:=AB l _
theorem yN(l:List Nat):rW (nI l)=nI (dU l):=by
 unfold rW nI dU;exact(List.map_mergeSort λa _ b _=>by rw[decide_eq_decide];omega).symm
theorem Ge(l:List Nat):(dU l).Pairwise (·<=·):=by
 have:=sx (le:=λa b:Nat=>decide (a<=b)) (λa b c h1 h2=>by simp only[aN]at *;omega) (λa b=>by simp only[dn,aN];omega) l;exact this.imp λh=>dg h
theorem Lz{l:List Nat}{i:Nat}(h:i∈l):∀k:Nat,jH (((i:Nat):Int)==·) (nI l) k=((k+l.idxOf i:Nat):Int):=by
 induction l with
 |nil=>cases h
 |cons a l ih =>
   intro k;show(if (((i:Nat):Int)==((a:Nat):Int))=true then((k:Nat):Int)else jH _ (nI l) (k+1))=_;by_cases e:a=i
   .subst e;rw[if_pos (by simp),List.idxOf_cons_self,ep]
   .have hm:i∈l:=by
     rcases aw.1 h with q|q
     .exact absurd q.symm e
     .exact q
    have hne:¬((((i:Nat):Int)==((a:Nat):Int))=true):=by
     rw[beq_iff_eq];omega
    have hb:(a==i)=false:=by rw[beq_eq_false_iff_ne];exact e
    rw[if_neg hne,ih hm (k+1),List.idxOf_cons,hb,cond_false];congr 1;omega
set_option maxHeartbeats 1000000 in
theorem FI{nb:Nat}{stv blv:AV}{bs:List AV}(t:Sta h0 sp eb nb lb n ev E)(r:Ser h0 h sp eb nb lb n ev s stv blv bs){i:Nat}(hi:i∈s.stk)(hl1:s.stk.length<2^32)(hl2:s.blk.length<2^32) :
 C prg 57 [.ptr sp 0,.int .i64 (i:Nat)] h λ_ h'=>∃stv' blv' bs',Ser h0 h' sp eb nb lb n ev (s.close dU i) stv' blv' bs':=by
 obtain⟨n1,n2,n3,n4,n5,n6⟩:=t.ne;obtain⟨l1,l2,l3⟩:=t.lt;have hnx:=r.kp.nx;have hs:=r.st.sl;refine Oj pf57 ?_;have r6:ar h sp 6 1=some [stv]:=bF r.cell rfl;refine ai (cJ (bK 5 (Mi1 r6) rfl (Zi1 r6) (Mi1 r6) (sI (y:=((i:Nat):Int)) hs (by rw[jY];omega)) λv h1 hq=>?_));obtain⟨rfl,x1⟩:=hq;rw[Lz hi 0,bX];have hat:s.stk.idxOf i<s.stk.length:=List.idxOf_lt_length_iff.2 hi;have hclose:s.close dU i={ s with blk:=s.blk++[dU (s.stk.drop (s.stk.idxOf i))],stk:=s.stk.take (s.stk.idxOf i)}:=rfl;rw[hclose];generalize s.stk.idxOf i=k at *
 refine bU (M0) ?_;have y1:=x1.nx;have kg:∀c,c<h1.next->(h1.keep 1).get c=h1.get c:=λc hc=>by rw[AH.keep_get,if_neg om]
 have kn:(h1.keep 1).next=h1.next+1:=AH.keep_next 1 h1;have kq:(h1.keep 1).get h1.next=some .resv:=jE;have xk:Ext h1.next h1 (h1.keep 1):=⟨om,kg,λc hc=>Oe 1 h1⟩
 have X1:Ext h.next h (h1.keep 1):=x1.trans (xk.mono y1);have hsp:sp<h.next:=om;have c1:(h1.keep 1).get sp=some (.cells [.int .i64 (n:Nat),ev,.sl eb 0 n n,.sl nb 0 n n,.sl lb 0 n n,.int .i64 (s.cnt:Nat),stv,blv] 8 false):=by rw[X1.gt _ hsp];exact r.cell
 have r61:ar (h1.keep 1) sp 6 1=some [stv]:=bF c1 rfl;have r71:ar (h1.keep 1) sp 7 1=some [blv]:=bF c1 rfl;have hs1:=hs.ext X1 (ab _);obtain⟨w,s1,s2,_⟩:=hs1.from (lo:=k) (by rw[ah,jY];omega);rw[<-fz]at s2;refine ai (nZ (od 11 (by simp only[am,aJ,simprocAttr,r61,r71,eB,bO,s1]<;>rfl) rfl (by simp only[am,aJ,simprocAttr,r61,r71,eB,bO,s1]) (by simp only[am,aJ,simprocAttr,r61,r71,eB,bO,s1]<;>rfl) (DB s2.cells.1) λrv h2 hq=>?_));obtain⟨rfl,hh2⟩:=hq;have x2:Ext (h1.next+1) (h1.keep 1) h2:=by rw[hh2];exact Og om
 have g2:h2.get (h1.next+1)=some (.cells [w] 1 false):=by rw[hh2,AH.get_new,kn,if_pos rfl]
 have n2:h2.next=h1.next+2:=by rw[hh2,AH.next_new,kn]
 rw[kn];have X2:Ext h.next h h2:=X1.trans (x2.mono om);have c2:h2.get sp=some (.cells [.int .i64 (n:Nat),ev,.sl eb 0 n n,.sl nb 0 n n,.sl lb 0 n n,.int .i64 (s.cnt:Nat),stv,blv] 8 false):=by rw[X2.gt _ hsp];exact r.cell
 have r72:ar h2 sp 7 1=some [blv]:=bF c2 rfl;have bc:=r.bl.cells;have sb:blv.same blv=true:=by rcases r.bl with⟨rfl,_⟩|⟨_,_,_,rfl,_⟩<;>first|rfl|exact xn
 refine⟨Z2 r72 sb,?_⟩;have s22:=s2.ext x2 om;refine od 0 (M0) rfl (Z0) (M0) (DJ (bF g2 rfl) s22 om (by rw[dh,jY];omega)) λrv h3 hq=>?_;obtain⟨i3,x3⟩:=hq;have X3:Ext h.next h h3:=X2.trans (x3.mono om);have n3':=x3.nx;have c3:h3.get sp=some (.cells [.int .i64 (n:Nat),ev,.sl eb 0 n n,.sl nb 0 n n,.sl lb 0 n n,.int .i64 (s.cnt:Nat),stv,blv] 8 false):=by rw[X3.gt _ hsp];exact r.cell
 have r73:ar h3 sp 7 1=some [blv]:=bF c3 rfl;refine⟨Z2 r73 sb,?_⟩;have q3:h3.get h1.next=some .resv:=by rw[x3.gt _ om,x2.gt _ om];exact kq
 have hrow:IsSl h3 1 h2.next rv (nL (dU (s.stk.drop k))):=by
  have e:nI (s.stk.drop k)=(nI s.stk).drop k:=by unfold nI;rw[fz]
  rw[<-e,yN,Mw]at i3;exact i3
 have u4:=Oi (o:=.cells [rv] 1 false) q3;obtain⟨rc,ro⟩:=i3.cells;have bl4:IsSl (h3.put h1.next (.cells [rv] 1 false)) 1 h0.next blv bs:=r.bl.cong λb m e hb=>by
  have:=r.bl.lt e;rw[u4.ne om,X3.gt _ this]
 have n4':=u4.nx
 obtain⟨blv',h5,a5,i5,x5,e5,n5',k5,t5⟩:=bl4.app (bytes:=24) (x:=h1.next) (new:=[rv]) om om u4.get om (λb m e=>by have:=r.bl.lt e;omega) rfl (by simp[ro])
  (by rw[lz,r.rl];unfold bd;omega) (by rw[lz,r.rl];unfold bd;omega)
 obtain⟨bc',bo'⟩:=i5.cells;have hb5:∀c,c<h.next->(∀b m,blv=.sl b 0 m m->c≠b)->h5.get c=h.get c:=λc hc hne=>by
  rw[k5 c om hne,u4.ne om,X3.gt _ hc]
 have hbl0:∀c,c<h0.next->h5.get c=h.get c:=λc hc=>hb5 c om λb m e q=>by
  rcases r.bl with⟨rfl,_⟩|⟨b',m',z1,rfl,_⟩
  .cases e
  .cases e;omega
 have c5:h5.get sp=some (.cells [.int .i64 (n:Nat),ev,.sl eb 0 n n,.sl nb 0 n n,.sl lb 0 n n,.int .i64 (s.cnt:Nat),stv,blv] 8 false):=by rw[hbl0 sp l1];exact r.cell
 have w6:=iE (v:=blv') c5 (i:=7) (by simp);have u6:=Oi (o:=.cells [.int .i64 (n:Nat),ev,.sl eb 0 n n,.sl nb 0 n n,.sl lb 0 n n,.int .i64 (s.cnt:Nat),stv,blv'] 8 false) c5;change bV h5 sp 7 [blv']=some (h5.put sp (.cells [.int .i64 (n:Nat),ev,.sl eb 0 n n,.sl nb 0 n n,.sl lb 0 n n,.int .i64 (s.cnt:Nat),stv,blv'] 8 false))at w6;have rp:df [AV.nils] 1=[.nils]:=rfl;refine bU (by simp only[am,aJ,simprocAttr,eO,ez q3,rp,rc,ro,a5,bo',bc',w6]<;>rfl) ?_;generalize h5.put sp (.cells [.int .i64 (n:Nat),ev,.sl eb 0 n n,.sl nb 0 n n,.sl lb 0 n n,.int .i64 (s.cnt:Nat),stv,blv'] 8 false)=h6 at *
 have n6':=u6.nx;have ty6:∀c,c<h.next->h6.tyOf c=h.tyOf c:=λc hc=>by rw[u6.ty,t5,u4.ty,X3.ty _ hc]
 have hlow:∀c,c<h0.next->c≠sp->h6.get c=h.get c:=λc hc hne=>by rw[u6.ne hne,hbl0 c hc]
 have keepS:∀c,h0.next<=c->c<h.next->(∀b m,blv=.sl b 0 m m->c≠b)->h6.get c=h.get c:=λc hc hc2 hne=>by rw[u6.ne om,hb5 c hc2 hne]
 have st6:Stk h6 h0.next stv s.stk:=r.st.cong λc hc ⟨o,m,kk,e⟩=>keepS c hc (r.st.lt e).1 λb m' e' q=>r.sb b 0 m' m' o m kk e' (by rw[e,q]);have R6:Ser h0 h6 sp eb nb lb n ev { s with blk:=s.blk++[dU (s.stk.drop k)]} stv blv' (bs++[rv]):=by
  refine { kp:=⟨om,λc hc hn'=>?_,λc hc=>?_⟩,cell:=u6.get,gn:=by rw[hlow nb l2 n4];exact r.gn,gl:=by rw[hlow lb l3 n6];exact r.gl,st:=st6,bl:=i5.upd u6 om,rl:=by rw[aG,aG,r.rl];rfl,rw:=λj v l a b=>?_,sb:=?_}
  .rw[hlow c hc λe=>hn' (.inl e)];exact r.kp.gt c hc hn'
  .rw[ty6 c om];exact r.kp.ty c hc
  .by_cases hj:j<bs.length
   .rw[bE hj]at a;rw[bE (by rw[<-r.rl];exact hj)]at b;obtain⟨z1,z2,z3⟩:=r.rw j v l a b;refine⟨z1.cong λb m e hb=>keepS b hb (z1.lt e) λb' m' e' q=>z3 b 0 m m 0 m' m' e (by rw[e',q]),z2,λb o m c o' m' c' e e'=>?_⟩;rw[e5]at e';cases e';have:=z1.lt e;omega
   .rw[bp om]at a;rw[bp (by rw[<-r.rl];omega),<-r.rl]at b;have hj0:j-bs.length=0:=by
     have:=(aM.1 a).1;simp only[aA,aQ]at this;omega
    rw[hj0]at a b;simp only[br,aa]at a b;subst a b;refine⟨(hrow.cong λb m e hb=>?_).mono om,λb o m c o' m' c' e e'=>?_,λb o m c o' m' c' e e'=>?_⟩
    .have:=hrow.lt e;rw[u6.ne om,k5 b om (λb' m' e'=>by have:=r.bl.lt e';omega),u4.ne om]
    .have:=(r.st.lt e').1;rcases hrow with⟨rfl,_⟩|⟨b',m'',z1,rfl,_⟩
     .cases e
     .cases e;omega
    .rw[e5]at e';cases e';have:=hrow.lt e;omega
  .intro b o m c o' m' c' e e';rw[e5]at e;cases e;have:=(r.st.lt e').1;omega
 have r66:ar h6 sp 6 1=some [stv]:=bF R6.cell rfl;obtain⟨v',cv,cs,csep,cin⟩:=R6.st.cut (k:=k) (by show k<=s.stk.length;omega);obtain⟨h7,w7,R7⟩:=R6.setStk t (ab _) (λ_ _ _=>rfl) (λ_=>rfl) cs (λw _ q=>csep w q);have co:=cs.cells;refine aE (by simp only[am,aJ,simprocAttr,bL,r66,eB,bO,cv,co.1,co.2,w7]<;>rfl) ?_;exact⟨.tup [],rfl,v',blv',_,R7⟩
open Go.Am
open Go.Blk (Gr DS upd visit edgeS enter Pre Mid pot unm)
theorem mnn{k:IntKind}{a b:Nat}:jR mnA [.int k (a:Nat),.int k (b:Nat)]=some (.int k ((min a b:Nat):Int)):=by
 have:jR mnA [.int k ((a:Nat):Int),.int k ((b:Nat):Int)]=some (.int k (if ((b:Nat):Int)<((a:Nat):Int)then((b:Nat):Int)else((a:Nat):Int))):=by simp[jR,mnA]
 rw[this];congr 2;split<;>omega
def xI(s:DS)(x y:Nat):DS:={ s with low:=upd s.low x (min (s.low x) (s.low y))}
def byI:Option Nat->Int
 |none=>-1
 |some b=>(b:Nat)
set_option maxHeartbeats 4000000 in
theorem FD{nb:Nat}(t:Sta h0 sp eb nb lb n ev E)(hE:InG n E)(hL:∀i,i<E.length->tlE E i≠hdE E i)(hn:n<2^30)(hxl:E.length<2^30) :
 ∀(f:Nat) {h:AH}{an:List Nat}{x:Nat}{by_:Option Nat}{s:DS}{stv blv:AV}{bs:List AV},Pre (grE n E hE hL) an x by_ s->unm (grE n E hE hL) s<=f->pot (grE n E hE hL) (dH E) s<=2^30->Ser h0 h sp eb nb lb n ev s stv blv bs ->
   C prg 41 [.ptr sp 0,.int .i64 (x:Nat),.int .i64 (byI by_)] h λ_ h'=>∃stv' blv' bs',Ser h0 h' sp eb nb lb n ev (visit (grE n E hE hL) (dH E) dU f x by_ s) stv' blv' bs':=by
 intro f;induction f with
 |zero =>
   intro h an x by_ s stv blv bs p hf _ _;have:=Go.Blk.unm_pos p.hx p.x0;omega
 |succ f ih =>
 intro h an x by_ s stv blv bs p hf hpot r;have hends:=Af hE hL;have hx:x<n:=p.hx;obtain⟨l1,l2,l3⟩:=t.lt;have hcnt:s.cnt<=2^30:=by unfold pot at hpot;omega
 refine Oj pf41 ?_;have r5:ar h sp 5 1=some [.int .i64 (s.cnt:Nat)]:=bF r.cell rfl;have w1:=Cu (k:=s.cnt) om;obtain⟨h1,a1,R1⟩:=r.setCnt t (s.cnt+1);refine ai (aE (Mi3 r5 w1 a1) ?_);have r3:ar h1 sp 3 1=some [.sl nb 0 n n]:=bF R1.cell rfl;have r4:ar h1 sp 4 1=some [.sl lb 0 n n]:=bF R1.cell rfl;have r51:ar h1 sp 5 1=some [.int .i64 (s.cnt+1:Nat)]:=bF R1.cell rfl;have ix:gz ((x:Nat):Int) n=some x:=dW hx;obtain⟨h2,a2,R2⟩:=R1.setNum t hx (s.cnt+1);obtain⟨h3,a3,R3⟩:=R2.setLow t hx (s.cnt+1);refine ai (aE (Mi7 r3 r4 r51 ix @aU a2 a3) ?_);have R3:Ser h0 h3 sp eb nb lb n ev (enter x s) stv blv bs:=R3;clear a1 a2 a3 R1 R2 r3 r4 r5 r51;obtain⟨rv,e1,e2,e3o,e4⟩:=t.row R3.kp hx;have r2:ar h3 sp 2 1=some [.sl eb 0 n n]:=bF R3.cell rfl;have el:=e2.len;rw[ah,jY]at el;refine ai (aE (Mi5 r2 ix @aU e1 el) ?_);have hm0:=Go.Blk.mid0 p;have hpe:=Go.Blk.pot_enter (ends:=dH E) p.hx p.x0;have hin:∀i∈dH E x,(grE n E hE hL).inc i x:=λi hi=>(hends x p.hx).2 i |>.1 hi;have hnd:=(hends x p.hx).1
 have hvis:∀(y i:Nat) (s:DS),y<(grE n E hE hL).n->s.num y=0->(∀v,s.num v≠0->(visit (grE n E hE hL) (dH E) dU f y (some i) s).num v≠0)/\pot (grE n E hE hL) (dH E) (visit (grE n E hE hL) (dH E) dU f y (some i) s)<=pot (grE n E hE hL) (dH E) s :=
  λy i s hy hs=>Go.Blk.pot_visit (λx hx i hi=>(hends x hx).2 i |>.1 hi) f y (some i) s hy hs
 have hel:(dH E x).length<2^40:=by unfold pot at hpe hpot;omega
 show W prg _ _ _ _ (λts h=>∃v,_/\∃stv' blv' bs',Ser h0 h sp eb nb lb n ev ((dH E x).foldl (edgeS (grE n E hE hL) dU (λy i s=>visit (grE n E hE hL) (dH E) dU f y (some i) s) x by_) (enter x s)) stv' blv' bs') _;generalize hL':dH E x=l at *
 refine iI (α:=Unit) (N:=l.length) (λ_ _=>[(0,.ptr sp 0),(1,.int .i64 (x:Nat)),(2,.int .i64 (byI by_)),(42,rv)])
  (λk _ h'=>∃(stv:AV) (blv:AV) (bs:List AV) (new:List Nat) (cs:List (List Nat)),Ser h0 h' sp eb nb lb n ev ((l.take k).foldl (edgeS (grE n E hE hL) dU (λy i s=>visit (grE n E hE hL) (dH E) dU f y (some i) s) x by_) (enter x s)) stv blv bs /\
   Mid (grE n E hE hL) x by_ s (l.take k) ((l.take k).foldl (edgeS (grE n E hE hL) dU (λy i s=>visit (grE n E hE hL) (dH E) dU f y (some i) s) x by_) (enter x s)) new cs) () (λ_ _=>rfl) om (Hi0)
  ⟨stv,blv,bs,[],[],R3,hm0⟩ ?_ ?_
 .clear R3 r2 e1 e2 el;rintro k _ ts h4 hk ⟨stv,blv,bs,new,cs,R,m⟩ ⟨ei,en,e0,ex,eb',e42,-⟩;simp only at ei en e0 ex eb' e42;have hii:(grE n E hE hL).inc l[k] x:=hin _ (aR hk);have hiL:l[k]∉l.take k:=λhm=>by
   have hnd':=hnd;rw[<-cQ k l,aS]at hnd';exact hnd'.2.2 _ hm _ (by rw[cr hk];exact bD ..) rfl
  obtain⟨new',cs',m'⟩:=Go.Blk.mid_step hends kQ p hf m hii hiL;have hpk:=(Go.Blk.pot_fold (sort:=dU) (by_:=by_) hvis (l.take k) (enter x s) λi hi=>hin i (nA hi)).2;have hsucc:(l.take (k+1)).foldl (edgeS (grE n E hE hL) dU (λy i s=>visit (grE n E hE hL) (dH E) dU f y (some i) s) x by_) (enter x s)=edgeS (grE n E hE hL) dU (λy i s=>visit (grE n E hE hL) (dH E) dU f y (some i) s) x by_ ((l.take k).foldl (edgeS (grE n E hE hL) dU (λy i s=>visit (grE n E hE hL) (dH E) dU f y (some i) s) x by_) (enter x s)) l[k]:=by
   rw[cj hk,fC];rfl
  rw[bG,dK om]at hpk;rw[cj hk];rw[cj hk]at hsucc;rw[hsucc];clear hsucc;obtain⟨sN,hsN⟩:∃sN,sN=edgeS (grE n E hE hL) dU (λy i s=>visit (grE n E hE hL) (dH E) dU f y (some i) s) x by_ ((l.take k).foldl (edgeS (grE n E hE hL) dU (λy i s=>visit (grE n E hE hL) (dH E) dU f y (some i) s) x by_) (enter x s)) l[k]:=⟨_,rfl⟩
  rw[<-hsN]at m' |-;generalize (l.take k).foldl (edgeS (grE n E hE hL) dU (λy i s=>visit (grE n E hE hL) (dH E) dU f y (some i) s) x by_) (enter x s)=s1 at *
  have hpot1:pot (grE n E hE hL) (dH E) s1+2<=2^30:=om;have hstk1:s1.stk.length<=2^30:=by unfold pot at hpot1;omega
  obtain⟨rv',e1,e2,_,_⟩:=t.row R.kp hx;have e2:SlI h4 rv (nI l):=e4.kp R.kp e3o;obtain⟨b1,p1,ia1,ir1,_⟩:=e2.at1 (fX (f:=eI) (i:=k) (by rw[jY];exact hk));rw[show(nI l)[k]'(by rw[jY];exact hk)=((l[k]:Nat):Int) by simp[nI]]at ir1;refine ai (aE (M4 ei e42 ia1 ir1) ?_);obtain⟨oi,one,oo⟩:=Go.Blk.inc_oth hii;have hother:=FF t R hE hL om hii;generalize hi:l[k]=i at *
  refine ai (cJ (bK 3 (by simp only[am,aJ,simprocAttr,e0,ex]<;>rfl) rfl (by simp only[am,aJ,simprocAttr,e0,ex]) (by simp only[am,aJ,simprocAttr,e0,ex]<;>rfl) (hother) λv h5 hq=>?_));obtain⟨rfl,x5⟩:=hq;refine bU (M0) ?_;have hy:(grE n E hE hL).oth i x<n:=Go.Blk.inc_lt oi;have R5:Ser h0 h5 sp eb nb lb n ev s1 stv blv bs:=by
   have hnx:=R.kp.nx;refine { kp:=R.kp.trans (x5.kp (ab _)) λ_ _ q=>q,cell:=by rw[x5.gt _ om];exact R.cell,gn:=by rw[x5.gt _ om];exact R.gn,gl:=by rw[x5.gt _ om];exact R.gl,st:=R.st.cong λc _ ⟨o,m,kk,e⟩=>x5.gt _ (R.st.lt e).1,bl:=R.bl.ext x5 (ab _),rl:=R.rl,rw:=λj v l a b=>⟨(R.rw j v l a b).1.ext x5 (ab _),(R.rw j v l a b).2⟩,sb:=R.sb}
  clear hother e1 e2 ia1 ir1 R;have hsp:Pre (grE n E hE hL) (x::an) ((grE n E hE hL).oth i x) (some i) { s1 with stk:=s1.stk++[i]}\/s1.num ((grE n E hE hL).oth i x)≠0:=by
   by_cases q:s1.num ((grE n E hE hL).oth i x)=0
   .exact .inl (Go.Blk.sub_pre p m hii q)
   .exact .inr q
  have hsu:=Go.Blk.sub_unm (i:=i) p m;have hvg:=Go.Blk.visit_good hends kQ f (x::an) ((grE n E hE hL).oth i x) (some i) { s1 with stk:=s1.stk++[i]};generalize hyd:(grE n E hE hL).oth i x=y at *
  have iy:gz ((y:Nat):Int) n=some y:=dW hy
  have goal:∀{h':AH}{stv blv:AV}{bs:List AV}{s':DS},sN=s'->Ser h0 h' sp eb nb lb n ev s' stv blv bs ->
   ∃(stv:AV) (blv:AV) (bs:List AV) (new:List Nat) (cs:List (List Nat)),Ser h0 h' sp eb nb lb n ev sN stv blv bs/\Mid (grE n E hE hL) x by_ s (l.take k++[i]) sN new cs :=
   fun {h' stv blv bs s'} e q=>⟨stv,blv,bs,new',cs',by rw[e];exact q,m'⟩
  have rn5:ar h5 sp 3 1=some [.sl nb 0 n n]:=bF R5.cell rfl;have ry5:ar h5 nb y 1=some [.int .i64 (s1.num y:Nat)]:=bF R5.gn (nR hy);have rx5:ar h5 nb x 1=some [.int .i64 (s1.num x:Nat)]:=bF R5.gn (nR hx);have rst5:ar h5 sp 6 1=some [stv]:=bF R5.cell rfl;refine cZ ?_;by_cases hb:by_=some i
  .have c1:decide (((i:Nat):Int)=byI by_)=true:=aP (by rw[hb];rfl);refine ai (aE (M2 eb' c1) ?_);refine cI (Z0) (bM ?_);refine⟨(),goal ?_ R5,by simp only[hl,am,aJ,simprocAttr,ei,en,e0,ex,eb',e42]⟩;rw[hsN];unfold edgeS;rw[if_pos hb]
  have c1:decide (((i:Nat):Int)=byI by_)=false:=aL λe=>hb (by
   cases by_ with
   |none=>change ((i:Nat):Int)=-1 at e;omega
   |some b=>change ((i:Nat):Int)=((b:Nat):Int)at e;congr 1;omega)
  refine ai (aE (M2 eb' c1) ?_);refine dJ (Z0) ?_;by_cases hy0:s1.num y=0
  .have c2:decide (((s1.num y:Nat):Int)=0)=true:=aP om;refine ai (aE (M6 e0 rn5 iy @aU ry5 c2) ?_);refine cI (Z0) ?_;obtain⟨v',h6,h7,q1,q2,q3,q4,R7⟩:=R5.push t i om;refine ai (aE (M6 e0 rst5 q1 q2 q3 q4) ?_);have hpre:Pre (grE n E hE hL) (x::an) y (some i) { s1 with stk:=s1.stk++[i]}:=hsp.resolve_right (λq=>q hy0);have hpp:pot (grE n E hE hL) (dH E) { s1 with stk:=s1.stk++[i]}<=2^30:=by rw[Go.Blk.pot_push];omega
   have hcall:=ih hpre om hpp R7;obtain⟨new2,bs2,post⟩:=hvg hpre om;have hp2:=(hvis y i { s1 with stk:=s1.stk++[i]} hy hy0).2;have ed:sN=if (xI (visit (grE n E hE hL) (dH E) dU f y (some i) { s1 with stk:=s1.stk++[i]}) x y).num x<=(xI (visit (grE n E hE hL) (dH E) dU f y (some i) { s1 with stk:=s1.stk++[i]}) x y).low y then(xI (visit (grE n E hE hL) (dH E) dU f y (some i) { s1 with stk:=s1.stk++[i]}) x y).close dU i else xI (visit (grE n E hE hL) (dH E) dU f y (some i) { s1 with stk:=s1.stk++[i]}) x y:=by
    rw[hsN];unfold edgeS;rw[if_neg hb,hyd,if_pos hy0];rfl
   clear hsN hsp hvg;refine ai (cJ (bK 3 (by simp only[am,aJ,simprocAttr,e0,byI]<;>rfl) rfl (by simp only[am,aJ,simprocAttr,e0,byI]) (by simp only[am,aJ,simprocAttr,e0,byI]<;>rfl) (hcall) λv h8 hq=>?_));obtain⟨stv2,blv2,bs2',R8⟩:=hq;have hist:i∈(visit (grE n E hE hL) (dH E) dU f y (some i) { s1 with stk:=s1.stk++[i]}).stk:=by rw[post.stk];simp
   generalize visit (grE n E hE hL) (dH E) dU f y (some i) { s1 with stk:=s1.stk++[i]}=s2 at *
   refine bU (M0) ?_;have rl8:ar h8 sp 4 1=some [.sl lb 0 n n]:=bF R8.cell rfl;have rx8:ar h8 lb x 1=some [.int .i64 (s2.low x:Nat)]:=bF R8.gl (nR hx);have ry8:ar h8 lb y 1=some [.int .i64 (s2.low y:Nat)]:=bF R8.gl (nR hy);obtain⟨h9,w9,R9⟩:=R8.setLow t hx (min (s2.low x) (s2.low y));refine ai (aE (by simp only[am,aJ,simprocAttr,e0,ex,rl8,ix,iy,aU,rx8,ry8,mnn,w9]<;>rfl) ?_);have hp3:pot (grE n E hE hL) (dH E) (xI s2 x y)<=2^30:=by
    have e:pot (grE n E hE hL) (dH E) (xI s2 x y)=pot (grE n E hE hL) (dH E) s2:=rfl;rw[e];omega
   have hist3:i∈(xI s2 x y).stk:=hist;have R9:Ser h0 h9 sp eb nb lb n ev (xI s2 x y) stv2 blv2 bs2':=R9;generalize xI s2 x y=s3 at *
   have rl9:ar h9 sp 4 1=some [.sl lb 0 n n]:=bF R9.cell rfl;have rn9:ar h9 sp 3 1=some [.sl nb 0 n n]:=bF R9.cell rfl;have ry9:ar h9 lb y 1=some [.int .i64 (s3.low y:Nat)]:=bF R9.gl (nR hy);have rx9:ar h9 nb x 1=some [.int .i64 (s3.num x:Nat)]:=bF R9.gn (nR hx);by_cases hc:s3.num x<=s3.low y
   .have c3:decide (((s3.num x:Nat):Int)<=((s3.low y:Nat):Int))=true:=aP om;refine ai (aE (by simp only[am,aJ,simprocAttr,e0,ex,rl9,rn9,ix,iy,aU,rx9,ry9,c3]<;>rfl) ?_);refine cI (Z0) ?_;have hcl:=FI t R9 hist3 (by unfold pot at hp3;omega) (by unfold pot at hp3;omega);refine cJ (bK 2 (M1 e0) rfl (Z1 e0) (M1 e0) (hcl) λv h10 hq=>?_);obtain⟨stv3,blv3,bs3,R10⟩:=hq;refine bU (M0) ?_;refine⟨(),goal (by rw[ed,if_pos hc]) R10,by simp only[hl,am,aJ,simprocAttr,ei,en,e0,ex,eb',e42]⟩
   .have c3:decide (((s3.num x:Nat):Int)<=((s3.low y:Nat):Int))=false:=aL om;refine ai (aE (by simp only[am,aJ,simprocAttr,e0,ex,rl9,rn9,ix,iy,aU,rx9,ry9,c3]<;>rfl) ?_);refine dJ (Z0) (bM ?_);refine⟨(),goal (by rw[ed,if_neg hc]) R9,by simp only[hl,am,aJ,simprocAttr,ei,en,e0,ex,eb',e42]⟩
  have c2:decide (((s1.num y:Nat):Int)=0)=false:=aL om;refine ai (aE (M6 e0 rn5 iy @aU ry5 c2) ?_);refine dJ (Z0) ?_;by_cases hlt:s1.num y<s1.num x
  .have c3:decide (((s1.num y:Nat):Int)<((s1.num x:Nat):Int))=true:=aP om;refine ai (aE (by simp only[am,aJ,simprocAttr,e0,ex,rn5,ix,iy,aU,ry5,rx5,c3]<;>rfl) ?_);refine cI (Z0) ?_;obtain⟨v',h6,h7,q1,q2,q3,q4,R7⟩:=R5.push t i om;refine ai (aE (M6 e0 rst5 q1 q2 q3 q4) ?_);have rl7:ar h7 sp 4 1=some [.sl lb 0 n n]:=bF R7.cell rfl;have rn7:ar h7 sp 3 1=some [.sl nb 0 n n]:=bF R7.cell rfl;have rx7:ar h7 lb x 1=some [.int .i64 (s1.low x:Nat)]:=bF R7.gl (nR hx);have ry7:ar h7 nb y 1=some [.int .i64 (s1.num y:Nat)]:=bF R7.gn (nR hy);obtain⟨h8,w8,R8⟩:=R7.setLow t hx (min (s1.low x) (s1.num y));refine aE (by simp only[am,aJ,simprocAttr,e0,ex,rl7,rn7,ix,iy,aU,rx7,ry7,mnn,w8]<;>rfl) ?_;refine⟨(),goal (s':={ s1 with stk:=s1.stk++[i],low:=upd s1.low x (min (s1.low x) (s1.num y))}) ?_ R8,by simp only[hl,am,aJ,simprocAttr,ei,en,e0,ex,eb',e42]⟩;rw[hsN];unfold edgeS;rw[if_neg hb,hyd,if_neg hy0,if_pos hlt]
  .have c3:decide (((s1.num y:Nat):Int)<((s1.num x:Nat):Int))=false:=aL om;refine ai (aE (by simp only[am,aJ,simprocAttr,e0,ex,rn5,ix,iy,aU,ry5,rx5,c3]<;>rfl) ?_);refine dJ (Z0) (bM ?_);refine⟨(),goal ?_ R5,by simp only[hl,am,aJ,simprocAttr,ei,en,e0,ex,eb',e42]⟩;rw[hsN];unfold edgeS;rw[if_neg hb,hyd,if_neg hy0,if_neg hlt]
 .rintro _ ts h4 ⟨stv,blv,bs,new,cs,R,m⟩ _;rw[dL]at R;refine⟨.tup [],rfl,stv,blv,bs,?_⟩;show Ser h0 h4 sp eb nb lb n ev ((dH E x).foldl (edgeS (grE n E hE hL) dU (λy i s=>visit (grE n E hE hL) (dH E) dU f y (some i) s) x by_) (enter x s)) stv blv bs;rw[hL'];exact R
end Go.Proofs.YtcfncejilmimpaaGreat
namespace Go.Blk
variable {g:Gr}
theorem tj:∀{l m:List Nat},l.Pairwise (·<·)->m.Pairwise (·<·)->(∀x,x∈l↔x∈m)->l=m
 |[],[],_,_,_=>rfl
 |[],y::m,_,_,h=>by have:=(h y).2 (bD ..);cases this
 |x::l,[],_,_,h=>by have:=(h x).1 (bD ..);cases this
 |x::l,y::m,h1,h2,h=>by
   obtain⟨a1,a2⟩:=dE.1 h1;obtain⟨b1,b2⟩:=dE.1 h2;have e:x=y:=by
    have hx:=(h x).1 (bD ..);have hy:=(h y).2 (bD ..);rcases aw.1 hx with q|q
    .exact q
    .rcases aw.1 hy with p|p
     .exact p.symm
     .have:=a1 y p;have:=b1 x q;omega
   subst e;rw[tj a2 b2 λz=>?_];have hz:=h z;rw[aw,aw]at hz;constructor
   .intro q;rcases hz.1 (.inr q)with p|p
    .have:=a1 z q;omega
    .exact p
   .intro q;rcases hz.2 (.inr q)with p|p
    .have:=b1 z q;omega
    .exact p
theorem tn(n:Nat)(p:Nat->Bool):((List.range n).filter p).Pairwise (·<·):=List.pairwise_lt_range.filter _
theorem yq{bs cs:List (List Nat)}(nd:bs.flatten.Nodup)(hb:∀b∈bs,IsBlock g b)(part:∀i,i<g.m↔∃b∈bs,i∈b)(hs:∀b∈bs,b.Pairwise (·<·)){l:Nat->Nat}(hl:Lst g l)(hp:cs.Perm bs)
 (ho:cs.Pairwise λa b=>a.headD 0<=b.headD 0):cs=canon g.m l:=by
 have nd':cs.flatten.Nodup:=(hp.flatten.nodup_iff).2 nd;have hm:∀b,b∈cs↔b∈bs:=λb=>hp.mem_iff;have one:∀b∈cs,b.headD 0∈b/\b.headD 0<g.m/\l (b.headD 0)=b.headD 0/\b=(List.range g.m).filter λk=>l k==b.headD 0:=by
  intro b hbc;have hbk:=hb b ((hm b).1 hbc);have hsr:=hs b ((hm b).1 hbc);obtain⟨a,r,rfl⟩:∃a r,b=a::r:=by
   cases b with
   |nil=>exact absurd rfl hbk.1
   |cons a r=>exact⟨a,r,rfl⟩
  have hlt:∀k∈a::r,k<g.m:=λk hk=>(part k).2 ⟨_,(hm _).1 hbc,hk⟩;have ha:=bD (a:=a) (l:=r);have hle:∀k∈a::r,a<=k:=λk hk=>by
   rcases aw.1 hk with rfl|hk
   .exact ab _
   .exact Nat.le_of_lt ((dE.1 hsr).1 k hk)
  have hla:l a=a:=by
   have h1:=hl.le a (hlt a ha);have h2:=hle _ (hbk.cls ha (hl.cls a (hlt a ha)));omega
  refine⟨ha,hlt a ha,hla,?_⟩;refine tj hsr (tn _ _) λk=>?_;rw[aO,aB,beq_iff_eq];show k∈a::r↔k<g.m/\l k=a;constructor
  .intro hk;refine⟨hlt k hk,?_⟩;rw[<-hla];exact((hl.iff (hlt k hk) (hlt a ha)).2 (hbk.2.1 k hk a ha))
  .rintro⟨h1,h2⟩;have:Cls g a k:=(hl.iff (hlt a ha) h1).1 (by rw[hla,h2]);exact hbk.cls ha this
 have heads:(cs.map (·.headD 0))=(List.range g.m).filter λi=>l i==i:=by
  refine tj ?_ (tn _ _) λx=>?_
  .rw[dR];have hd:cs.Pairwise λa b=>a.headD 0≠b.headD 0:=by
    have key:∀(cs:List (List Nat)),cs.flatten.Nodup->(∀b∈cs,b.headD 0∈b)->cs.Pairwise λa b=>a.headD 0≠b.headD 0:=by
     intro cs;induction cs with
     |nil=>intro _ _;exact List.Pairwise.nil
     |cons b cs ih =>
       intro hn hh;rw[jv,aS]at hn;refine dE.2 ⟨λc hc e=>?_,ih hn.2.1 λb hb=>hh b (aV _ hb)⟩;exact hn.2.2 _ (hh b (bD ..)) _ (fk.2 ⟨c,hc,hh c (aV _ hc)⟩) e
    exact key cs nd' λb hb=>(one b hb).1
   exact(ho.and hd).imp λh=>by omega
  .rw[bh,aO,aB,beq_iff_eq];constructor
   .rintro⟨b,hb1,rfl⟩;exact⟨(one b hb1).2.1,(one b hb1).2.2.1⟩
   .rintro⟨h1,h2⟩;obtain⟨b,q1,q2⟩:=(part x).1 h1;have hbc:=(hm b).2 q1;obtain⟨a1,a2,a3,a4⟩:=one b hbc;rw[a4,aO,beq_iff_eq]at q2;exact⟨b,hbc,by rw[<-q2.2,h2]⟩
 unfold canon;rw[<-heads,lZ]
 conv=>lhs;rw[<-List.map_id cs]
 exact dI λb hb=>(one b hb).2.2.2
variable {g:Gr}{ends:Nat->List Nat}{sort:List Nat->List Nat}
def Srd(sort:List Nat->List Nat)(s:DS):Prop:=∀b∈s.blk,∃l,b=sort l
theorem Gc{vis:Nat->Nat->DS->DS}{x:Nat}{by_:Option Nat}{i:Nat}(hv:∀(y i:Nat) (s:DS),Srd sort s->Srd sort (vis y i s))(s:DS)(hs:Srd sort s):Srd sort (edgeS g sort vis x by_ s i):=by
 unfold edgeS;split
 .exact hs
 .split
  .have h2:=hv (g.oth i x) i { s with stk:=s.stk++[i]} hs;generalize vis (g.oth i x) i { s with stk:=s.stk++[i]}=s2 at *
   simp only;split
   .intro b hb;have hb:b∈s2.blk++[sort (s2.stk.drop (s2.stk.idxOf i))]:=hb;rcases aC.1 hb with hb|hb
    .exact h2 b hb
    .exact⟨_,by simpa using hb⟩
   .exact h2
  .split
   .exact hs
   .exact hs
theorem vq:∀(f x:Nat) (by_:Option Nat) (s:DS),Srd sort s->Srd sort (visit g ends sort f x by_ s)
 |0,_,_,_,h=>h
 |f+1,x,by_,s,h=>by
   have key:∀(l:List Nat) (s:DS),Srd sort s->Srd sort (l.foldl (edgeS g sort (λy i s=>visit g ends sort f y (some i) s) x by_) s):=by
    intro l;induction l with
    |nil=>exact λs h=>h
    |cons i l ih=>exact λs h=>ih _ (Gc (λy i s h=>vq f y (some i) s h) s h)
   exact key (ends x) (enter x s) h
theorem Cy{f:Nat}:∀k,Srd sort ((List.range k).foldl (from1 g ends sort f) start)
 |0=>λb hb=>by cases hb
 |k+1=>by
   rw[dl,fC];have h:=Cy (f:=f) k;show Srd sort (from1 g ends sort f ((List.range k).foldl (from1 g ends sort f) start) k);unfold from1;split
   .exact vq f k none _ h
   .exact h
theorem Btw.pre{s:DS}(b:Btw g s){x:Nat}(hx:x<g.n)(h:s.num x=0):Pre g [] x none s :=
 ⟨hx,h,λa ha=>(by cases ha),λv hv _=>b.black v hv,b.le,b.inj,λz _ a ha=>(by cases ha),λc hc=>(by cases hc),λ_=>rfl,λj hj=>by rw[b.stk]at hj;cases hj⟩
theorem pot_start{m:Nat}(h:∀x,x<g.n->(ends x).length<=m):pot g ends start<=g.n*(1+2*m):=by
 have key:∀(l:List Nat),(∀v∈l,v<g.n)->(l.map λv=>if start.num v=0 then 1+2*(ends v).length else 0).sum<=l.length*(1+2*m):=by
  intro l;induction l with
  |nil=>intro _;simp
  |cons a l ih =>
    intro hl;have h1:=ih λv hv=>hl v (aV _ hv);have h2:=h a (hl a (bD ..));have h3:start.num a=0:=rfl;rw[bm,kB,if_pos h3,aA,dr,qr];omega
 have:=key (List.range g.n) λv hv=>aB.1 hv;rw[bH]at this;unfold pot wt;show 0+0+0+_<=_;omega
theorem btw_all(hends:∀x,x<g.n->(ends x).Nodup/\∀i,i∈ends x↔g.inc i x)(hsort:∀l,(sort l).Perm l):∀k,k<=g.n->Btw g ((List.range k).foldl (from1 g ends sort g.n) start)/\unm g ((List.range k).foldl (from1 g ends sort g.n) start)<=g.n /\
 pot g ends ((List.range k).foldl (from1 g ends sort g.n) start)<=pot g ends start
 |0,_=>⟨wY,yJ,ab _⟩
 |k+1,hk=>by
   obtain⟨h1,h2,h3⟩:=btw_all hends hsort k om;rw[dl,fC];obtain⟨a,_,_,d⟩:=Av hends hsort h1 (show k<g.n by omega) h2;refine⟨a,d,?_⟩;show pot g ends (from1 g ends sort g.n ((List.range k).foldl (from1 g ends sort g.n) start) k)<=_;unfold from1;split
   .rename_i h0
    exact bZ (pot_visit (λx hx i hi=>((hends x hx).2 i).1 hi) g.n k none _ om h0).2 h3
   .exact h3
theorem run_canon(hends:∀x,x<g.n->(ends x).Nodup/\∀i,i∈ends x↔g.inc i x)(hsort:∀l,(sort l).Perm l)(hle:∀l,(sort l).Pairwise (·<=·)){l:Nat->Nat}(hl:Lst g l){cs:List (List Nat)}(hp:cs.Perm (runB g ends sort g.n).blk)(ho:cs.Pairwise λa b=>a.headD 0<=b.headD 0):cs=canon g.m l:=by
 obtain⟨nd,hb,part⟩:=runB_ok hends hsort (ab g.n);refine yq nd hb part (λb hbm=>?_) hl hp ho;obtain⟨l',e⟩:=Cy (g:=g) (ends:=ends) (sort:=sort) (f:=g.n) g.n b hbm;have h1:b.Pairwise (·<=·):=by rw[e];exact hle l'
 have h2:b.Nodup:=nd.sublist (List.sublist_flatten_of_mem hbm);exact(h1.and h2).imp λh=>by omega
theorem HS{P:Nat->Prop}:∀n,P n->∃k,P k/\∀j,P j->k<=j:=by
 intro n;induction n using Nat.strongRecOn with
 |_ n ih =>
   intro hn;by_cases h:∃j,j<n/\P j
   .obtain⟨j,h1,h2⟩:=h;exact ih j h1 h2
   .exact⟨n,hn,λj hj=>Decidable.byContradiction λhc=>h ⟨j,om,hj⟩⟩
theorem lst_ex(g:Gr):∃l,Lst g l:=by
 have h:∀i,∃k,Cls g i k/\∀j,Cls g i j->k<=j:=λi=>HS i .refl;obtain⟨l,hl⟩:=Classical.axiomOfChoice h;refine⟨l,λi _=>(hl i).1,λi _=>(hl i).2 i .refl,λi k _ _ r=>?_⟩;have hc:=Cls.one r;have h1:=(hl i).2 (l k) (hc.trans (hl k).1);have h2:=(hl k).2 (l i) (hc.symm.trans (hl i).1);omega
end Go.Blk
namespace Go.Proofs.YtcfncejilmimpaaGreat
open Go.Am
theorem IP{h:AH}{b n c:Nat}{vs:List AV}{kf:Nat->Int}(hg:h.get b=some (.cells vs 1 false))(hl:vs.length=n)(h0:0<n)(hn:n<2^62)(hr:∀i v,vs[i]?=some v->rj h b (kf i) v) :
 C prg 42 [.sl b 0 n c,.fn 43 []] h λ_ h'=>∃is:List Nat,is.Perm (List.range n)/\is.Pairwise (λi j=>kf i<=kf j)/\Mod h.next h h' b (.cells (is.map λi=>vs.getD i .un) 1 false):=by
 have hrd:ar h b 0 n=some vs:=by
  rw[bC hg,if_pos om,bN,de om]
 refine BS.srf ps42 hrd h0 hn hr λis hp hs=>?_;have hil:(is.map λi=>vs.getD i .un).length=n:=by rw[ah,hp.length_eq,bH]
 refine⟨_,?_,_,_,rfl,is,hp,hs,(Oi hg).mod⟩;rw[fI hg,if_pos om];simp only[dQ,eT,bz,bX];rw[dS om,cH]
theorem Bc{α:Type}{d:α}(l:List α):((List.range l.length).map λi=>l.getD i d)=l:=by
 refine cY λj=>?_;rw[aF];by_cases hj:j<l.length
 .rw[ew hj,ae hj];simp only[aI];rw[aj,ae hj];rfl
 .rw[bA (by rw[bH];omega),bA om];rfl
end Go.Proofs.YtcfncejilmimpaaGreat
