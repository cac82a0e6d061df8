/- block.begin, other. -/
import Derived.Test.YtpeemonpdlifbaaGreatVTAS
import Derived.Test.YtpeemonpdlifbaaGreatVTAC
import Derived.Test.YtpeemonpdlifbaaGreatVTAE
set_option linter.all false
namespace Go.Proofs.YtpeemonpdlifbaaGreat
open Go.Am
open Go.Blk (Gr DS upd)
def kY (E:List (Int×Int)) (k x:Nat):List Nat:=(List.range k).filter λi=>decide (tlE E i=x)||decide (hdE E i=x)
theorem zM {E:List (Int×Int)}{k x:Nat}:kY E (k+1) x=kY E k x++if tlE E k=x∨hdE E k=x then [k] else []:=by
 unfold kY
 rw[bD,Av]
 congr 1
 by_cases q:tlE E k=x∨hdE E k=x
 ·rw[if_pos q,List.filter_cons_of_pos (by simpa using q)]; rfl
 ·rw[if_neg q,List.filter_cons_of_neg (by simpa using q)]; rfl
theorem uG {E:List (Int×Int)}{k x:Nat}:(kY E k x).length≤k:=by
 unfold kY
 have:=ep (λi=>decide (tlE E i=x)||decide (hdE E i=x)) (List.range k)
 rwa [bF] at this
theorem KT (l m:List Nat):nI (l++m)=nI l++nI m:=by simp [nI]
def ko (n:Nat) (E:List (Int×Int)) (k:Nat):List (List Int):=(List.range n).map λx=>nI (kY E k x)
theorem kL {n k x:Nat}{E:List (Int×Int)} (hx:x<n):(ko n E k)[x]?=some (nI (kY E k x)):=by
 unfold ko
 rw[aG,fk hx]
 rfl
theorem Cr {n k:Nat}{E:List (Int×Int)} (ha:tlE E k<n) (hb:hdE E k<n) (hab:tlE E k≠hdE E k) :
 ((ko n E k).set (tlE E k) (nI (kY E k (tlE E k))++[((k:Nat):Int)])).set (hdE E k) (nI (kY E k (hdE E k))++[((k:Nat):Int)])=ko n E (k+1):=by
 refine et λj=>?_
 have hl:(ko n E k).length=n:=by simp [ko]
 have hl2:(ko n E (k+1)).length=n:=by simp [ko]
 rw[cZ,cZ,bE,hl]
 by_cases hj:j<n
 ·rw[kL hj,kL hj,zM,KT]
  by_cases e1:hdE E k=j
  ·rw[if_pos e1,if_pos hb,if_pos (.inr e1),e1]; rfl
  ·rw[if_neg e1]
   by_cases e2:tlE E k=j
   ·rw[if_pos e2,if_pos ha,if_pos (.inl e2),e2]; rfl
   ·rw[if_neg e2,if_neg (by rintro (q|q); exact e2 q; exact e1 q)]; simp [nI]
 ·rw[if_neg om,if_neg om,cx (by rw[hl]; omega),cx (by rw[hl2]; omega)]
theorem Cs (h:AH) (n:Nat) (E:List (Int×Int)):Rw h h.next (dg [.nils] n) (ko n E 0):=by
 rw[jf]
 refine⟨by simp [ko],λi v xs h1 h2=>?_,λi j b n' b' n'' _ h1=>?_⟩
 ·rw[dS] at h1
  split at h1
  ·rename_i hi
   rw[kL hi] at h2
   simp only[aa] at h1 h2
   subst h1 h2
   exact .inl ⟨rfl,by simp [kY,nI]⟩
  ·cases h1
 ·rw[dS] at h1
  split at h1<;>cases h1
theorem DE {h0 h:AH}{sp eb nb lb n:Nat}{ev:AV}{E:List (Int×Int)}{s:DS}{stv blv:AV}{bs:List AV} (t:Sta h0 sp eb nb lb n ev E) (r:Ser h0 h sp eb nb lb n ev s stv blv bs) (hE:InG n E) (hL:∀ i,i<E.length→tlE E i≠hdE E i) (hn:n<2 ^ 40) {i x:Nat} (hi:(grE n E hE hL).inc i x) :
 C prg 42 [.ptr sp 0,.int .i64 (i:Nat),.int .i64 (x:Nat)] h λv h'=>v=.int .i64 ((grE n E hE hL).oth i x:Nat)∧Ext h.next h h':=by
 refine LB pf42 ?_
 obtain⟨h1,h2⟩:=id hi
 have him:i<E.length:=h1
 have hx2:tlE E i=x∨hdE E i=x:=h2
 have hLi:=hL i him
 obtain⟨q1,q2,q3⟩:=hE i him
 have he:=t.edges r.kp
 obtain⟨b,p,a,rr,_,_⟩:=he.at (fE (f:=eE) him)
 rw[q1] at rr
 have rse:ar h sp 1 1=some [ev]:=bq r.cell rfl
 have ho:((tlE E i:Nat):Int)+((hdE E i:Nat):Int)-((x:Nat):Int)=(((grE n E hE hL).oth i x:Nat):Int):=by
  show _=((tlE E i+hdE E i-x:Nat):Int)
  omega
 have hol:(grE n E hE hL).oth i x<n:=by
  show tlE E i+hdE E i-x<n
  omega
 have w1:IntKind.i64.wrap (((tlE E i:Nat):Int)+((hdE E i:Nat):Int))=((tlE E i:Nat):Int)+((hdE E i:Nat):Int):=fz om om
 have w2:IntKind.i64.wrap (((tlE E i:Nat):Int)+((hdE E i:Nat):Int)-((x:Nat):Int))=(((grE n E hE hL).oth i x:Nat):Int):=by rw[ho]; exact fz om om
 obtain⟨h3,w3,x3,g3,n3⟩:=gm (h:=h) (z:=[.int .i64 0,.int .i64 0]) (cs:=[.int .i64 (tlE E i:Nat),.int .i64 (hdE E i:Nat)]) (e:=2) rfl
 clear hi
 generalize (grE n E hE hL).oth i x=y at *
 refine aj (aB (Mi0) ?_)
 refine aj (aB (by simp only[am,aF,simprocAttr,bH,rse,a,rr,eE,w3]<;>rfl) ?_)
 have ra:ar h3 h.next 0 1=some [.int .i64 (tlE E i:Nat)]:=bq g3 rfl
 have rb:ar h3 h.next 1 1=some [.int .i64 (hdE E i:Nat)]:=bq g3 rfl
 refine aj (bT (λts h'=>h'=h3∧aY ts 6=.int .i64 (y:Nat)) (by simp only[am,aF,simprocAttr,bH,ra,rb,w1,w2]) ?_)
 rintro ts h4 ⟨rfl,e6⟩
 exact bG ⟨.int .i64 (y:Nat),(by simp only[rs,rf42,am,aF,simprocAttr,e6]<;>rfl),rfl,x3⟩
set_option maxHeartbeats 1000000 in
theorem DI {h:AH}{n:Nat}{ev:AV}{E:List (Int×Int)} (he:SlE h ev E) (hE:InG n E) (hL:∀ i,i<E.length→tlE E i≠hdE E i) (hxl:E.length<2 ^ 30) (hnl:n<2 ^ 30) :
 C prg 23 [.agg (gW n ev)] h λr h'=>∃ sp eb nb lb,r=.ptr sp 0∧Ext h.next h h'∧(h.next≤sp∧h.next≤nb∧h.next≤lb)∧Sta h' sp eb nb lb n ev E∧Ser h' h' sp eb nb lb n ev Go.Blk.start .nils .nils []:=by
 obtain⟨ec,eo⟩:=he.cells
 have hlen:=he.len
 rw[ak] at hlen
 unfold gW
 refine LB pf23 ?_
 refine aj (aB (Mi0) ?_)
 have x0:Ext h.next h (h.new (.cells [.int .i64 (n:Nat),ev] 2 false)):=Ly (ae _)
 have g0:(h.new (.cells [.int .i64 (n:Nat),ev] 2 false)).get h.next=some (.cells [.int .i64 (n:Nat),ev] 2 false):=by rw[AH.get_new,if_pos rfl]
 have n0:(h.new (.cells [.int .i64 (n:Nat),ev] 2 false)).next=h.next+1:=rfl
 generalize h.new (.cells [.int .i64 (n:Nat),ev] 2 false)=h1 at *
 have kn:(h1.keep 4).next=h1.next+4:=AH.keep_next 4 h1
 have kg:∀ c,(h1.keep 4).get c=if h1.next≤c∧c<h1.next+4 then some .resv else h1.get c:=λc=>AH.keep_get 4 h1
 have k1:(h1.keep 4).get h.next=some (.cells [.int .i64 (n:Nat),ev] 2 false):=by rw[kg,if_neg om]; exact g0
 have ra:ar (h1.keep 4) h.next 0 2=some [.int .i64 (n:Nat),ev]:=by rw[bg k1]; rfl
 have rb:ar (h1.keep 4) h.next 0 1=some [.int .i64 (n:Nat)]:=by rw[bg k1]; rfl
 have mva:=oK (z:=[.nils]) (bytes:=24) (n:=n) (by unfold be; omega) (by unfold be; omega)
 have mvb:=oK (z:=[.int .i64 0]) (bytes:=8) (n:=n) (by unfold be; omega) (by unfold be; omega)
 have q0:(h1.keep 4).get h1.next=some .resv:=by rw[kg,if_pos ⟨om,om⟩]
 obtain⟨m1,hm1⟩:∃ m,m=(h1.keep 4).put h1.next (.cells (dg [.nils] n) 1 false):=⟨_,rfl⟩
 have v1:Upd (h1.keep 4) m1 h1.next (.cells (dg [.nils] n) 1 false):=by rw[hm1]; exact LA q0
 have q1:m1.get (h1.next+1)=some .resv:=by rw[v1.ne om,kg,if_pos ⟨om,om⟩]
 obtain⟨m2,hm2⟩:∃ m,m=m1.put (h1.next+1) (.cells (dg [.int .i64 0] n) 1 false):=⟨_,rfl⟩
 have v2:Upd m1 m2 (h1.next+1) (.cells (dg [.int .i64 0] n) 1 false):=by rw[hm2]; exact LA q1
 have q2:m2.get (h1.next+2)=some .resv:=by rw[v2.ne om,v1.ne om,kg,if_pos ⟨om,om⟩]
 obtain⟨m3,hm3⟩:∃ m,m=m2.put (h1.next+2) (.cells (dg [.int .i64 0] n) 1 false):=⟨_,rfl⟩
 have v3:Upd m2 m3 (h1.next+2) (.cells (dg [.int .i64 0] n) 1 false):=by rw[hm3]; exact LA q2
 have q3:m3.get (h1.next+3)=some .resv:=by rw[v3.ne om,v2.ne om,v1.ne om,kg,if_pos ⟨om,om⟩]
 obtain⟨m4,hm4⟩:∃ m,m=m3.put (h1.next+3) (.cells [.int .i64 (n:Nat),ev,.sl h1.next 0 n n,.sl (h1.next+1) 0 n n,.sl (h1.next+2) 0 n n,.int .i64 0,.nils,.nils] 8 false):=⟨_,rfl⟩
 have v4:Upd m3 m4 (h1.next+3) (.cells [.int .i64 (n:Nat),ev,.sl h1.next 0 n n,.sl (h1.next+1) 0 n n,.sl (h1.next+2) 0 n n,.int .i64 0,.nils,.nils] 8 false):=by rw[hm4]; exact LA q3
 have bx:=sP (k:=8) (cs:=[.int .i64 (n:Nat),ev,.sl h1.next 0 n n,.sl (h1.next+1) 0 n n,.sl (h1.next+2) 0 n n,.int .i64 0,.nils,.nils]) rfl
 refine aj (BM (λts h2=>h2=m4∧aY ts 1=.ptr h.next 0∧aY ts 3=.ptr (h1.next+3) 0)
  (by simp only[am,aF,simprocAttr,bH,ra,rb,fA,kX q0,← hm1,kX q1,← hm2,kX q2,← hm3,uD q3,mva,mvb,bx,ec,eo,mZ,← hm4]) ?_)
 rintro ts h2 ⟨hh2,t1,t3⟩
 subst hh2
 clear hm1 hm2 hm3 hm4
 have n2:h2.next=h1.next+4:=by rw[v4.nx,v3.nx,v2.nx,v1.nx,kn]
 have gk:∀ c,c<h1.next→h2.get c=h1.get c:=λc hc=>by rw[v4.ne om,v3.ne om,v2.ne om,v1.ne om,kg,if_neg om]
 have x2:Ext h1.next h1 h2:=⟨om,gk,λc hc=>by rw[v4.ty,v3.ty,v2.ty,v1.ty]; exact Lx 4 h1⟩
 have gE:h2.get h1.next=some (.cells (dg [.nils] n) 1 false):=by rw[v4.ne om,v3.ne om,v2.ne om]; exact v1.get
 have gN:h2.get (h1.next+1)=some (.cells (il n λ_=>0) 1 false):=by rw[v4.ne om,v3.ne om,v2.get,Bm]
 have gL:h2.get (h1.next+2)=some (.cells (il n λ_=>0) 1 false):=by rw[v4.ne om,v3.get,Bm]
 have gS:=v4.get
 have g1:h2.get h.next=some (.cells [.int .i64 (n:Nat),ev] 2 false):=by rw[gk _ om]; exact g0
 clear v1 v2 v3 v4 q0 q1 q2 q3 kg kn k1 ra rb bx mva mvb
 have X2:Ext h.next h h2:=x0.trans (x2.mono om)
 have rE:ar h2 h.next 1 1=some [ev]:=bq g1 rfl
 have rl:(dg [AV.nils] n).length=n:=by rw[jf,tE]
 refine aj (aj (aB (M4 t1 t3 rE hlen) ?_))
 refine fB (α:=List AV) (N:=E.length) (λ_ _=>[(3,.ptr (h1.next+3) 0),(19,ev)])
  (λk a h'=>h'.get (h1.next+3)=some (.cells [.int .i64 (n:Nat),ev,.sl h1.next 0 n n,.sl (h1.next+1) 0 n n,.sl (h1.next+2) 0 n n,.int .i64 0,.nils,.nils] 8 false)∧h'.get h1.next=some (.cells a 1 false)∧h'.get (h1.next+1)=some (.cells (il n λ_=>0) 1 false)∧h'.get (h1.next+2)=some (.cells (il n λ_=>0) 1 false)∧a.length=n∧Rw h' h2.next a (ko n E k)∧Ext h1.next h1 h'∧h2.next≤h'.next)
  (dg [.nils] n) (λ_ _=>rfl) om (H1 t3) ⟨gS,gE,gN,gL,rl,Cs h2 n E,x2,ae _⟩ ?_ ?_
 ·clear gS gE gN gL
  rintro k es ts h5 hk ⟨j1,j2,j3,j4,j5,j6,j7,j8⟩ ⟨ei,en,e3,e19,-⟩
  simp only at ei en e3 e19 j2 j5 j6
  obtain⟨q1,q2,q3⟩:=hE k hk
  have hLk:=hL k hk
  have X5:Ext h.next h h5:=x0.trans (j7.mono om)
  obtain⟨b1,p1,a1,r1,_⟩:=(he.ext X5 (ae _)).at (fE (f:=eE) hk)
  rw[q1] at r1
  generalize ha:tlE E k=a at *
  generalize hb:hdE E k=b at *
  obtain⟨h6,w6,x6,g6,n6⟩:=gm (h:=h5) (z:=[.int .i64 0,.int .i64 0]) (cs:=[.int .i64 (a:Nat),.int .i64 (b:Nat)]) (e:=2) rfl
  refine aj (aB (by simp only[am,aF,simprocAttr,e3,e19,ei,a1,r1,eE,w6]<;>rfl) ?_)
  obtain⟨x7,p7,n7,y7⟩:=pw (h:=h6) (o:=.cells [.int .i64 (k:Nat)] 1 false)
  have kg:∀ c,c<h6.next→(h6.keep 1).get c=h6.get c:=λc hc=>by rw[AH.keep_get,if_neg om]
  have q7:(h6.keep 1).get h6.next=some .resv:=iR
  have j1':h6.get (h1.next+3)=some (.cells [.int .i64 (n:Nat),ev,.sl h1.next 0 n n,.sl (h1.next+1) 0 n n,.sl (h1.next+2) 0 n n,.int .i64 0,.nils,.nils] 8 false):=by rw[x6.gt _ om]; exact j1
  have j2':h6.get h1.next=some (.cells es 1 false):=by rw[x6.gt _ om]; exact j2
  have s1':ar (h6.keep 1) (h1.next+3) 2 1=some [.sl h1.next 0 n n]:=by rw[bg (by rw[kg _ om]; exact j1')]; rfl
  have s2':ar (h6.keep 1) h5.next 0 1=some [.int .i64 (a:Nat)]:=by rw[bg (by rw[kg _ om]; exact g6)]; rfl
  have hR:Rw ((h6.keep 1).put h6.next (.cells [.int .i64 (k:Nat)] 1 false)) h2.next es (ko n E k):=j6.cong λc hc hcn=>by rw[y7 _ om,x6.gt _ om]
  obtain⟨va,va',h8,s1,s2,s3,s4,s5,s6,s7,s8⟩:=hR.push (i:=a) (x:=h6.next) (k:=(k:Nat)) (kL q2) om p7 om (λj b n q=>by have:=j6.lt q; omega)
   (by rw[jm]; have:=uG (E:=E) (k:=k) (x:=a); omega)
  have v3:ar (h6.keep 1) h1.next a 1=some [va]:=bq (by rw[kg _ om]; exact j2') s1
  have ia:fU ((a:Nat):Int) n=some a:=dU q2
  have d1:h8.get (h1.next+3)=some (.cells [.int .i64 (n:Nat),ev,.sl h1.next 0 n n,.sl (h1.next+1) 0 n n,.sl (h1.next+2) 0 n n,.int .i64 0,.nils,.nils] 8 false):=by rw[s6.gt _ om,y7 _ om]; exact j1'
  have d2:h8.get h1.next=some (.cells es 1 false):=by rw[s6.gt _ om,y7 _ om]; exact j2'
  have d5:h8.get h5.next=some (.cells [.int .i64 (a:Nat),.int .i64 (b:Nat)] 2 false):=by rw[(s8 _ om (λj b n q=>by have:=j6.lt q; omega)).1,y7 _ om]; exact g6
  have f1:ar h8 (h1.next+3) 2 1=some [.sl h1.next 0 n n]:=by rw[bg d1]; rfl
  have f2:ar h8 h5.next 0 1=some [.int .i64 (a:Nat)]:=by rw[bg d5]; rfl
  have f3:=gv (v:=va') d2 (show a<es.length by omega)
  have u9:=LA (o:=.cells (es.set a va') 1 false) d2
  refine aj (Ha (by simp only[am,aF,simprocAttr,e3,s1',s2',v3,fA,eZ q7,ia,aO,s2,s3,s4,f1,f2,f3]<;>rfl) ?_)
  generalize h8.put h1.next (.cells (es.set a va') 1 false)=h9 at *
  have n9:=u9.nx
  have hR9:Rw h9 h2.next (es.set a va') ((ko n E k).set a (nI (kY E k a)++[((k:Nat):Int)])):=s5.cong λc hc _=>u9.ne om
  have l9:∀ (j b n:Nat),(es.set a va')[j]?=some (AV.sl b 0 n n)→b≠h5.next:=λj b n' q=>(s8 _ om (λj b n q=>by have:=j6.lt q; omega)).2 j b n' q
  have l6:∀ (j b n:Nat),(es.set a va')[j]?=some (AV.sl b 0 n n)→b<h9.next:=λj b n' q=>(hR9.lt q).1
  obtain⟨X7,P7,N7,Y7⟩:=pw (h:=h9) (o:=.cells [.int .i64 (k:Nat)] 1 false)
  have kg2:∀ c,c<h9.next→(h9.keep 1).get c=h9.get c:=λc hc=>by rw[AH.keep_get,if_neg om]
  have Q7:(h9.keep 1).get h9.next=some .resv:=iR
  have J1:h9.get (h1.next+3)=some (.cells [.int .i64 (n:Nat),ev,.sl h1.next 0 n n,.sl (h1.next+1) 0 n n,.sl (h1.next+2) 0 n n,.int .i64 0,.nils,.nils] 8 false):=by rw[u9.ne om]; exact d1
  have J2:=u9.get
  have J5:h9.get h5.next=some (.cells [.int .i64 (a:Nat),.int .i64 (b:Nat)] 2 false):=by rw[u9.ne om]; exact d5
  have V1:ar (h9.keep 1) (h1.next+3) 2 1=some [.sl h1.next 0 n n]:=by rw[bg (by rw[kg2 _ om]; exact J1)]; rfl
  have V2:ar (h9.keep 1) h5.next 1 1=some [.int .i64 (b:Nat)]:=by rw[bg (by rw[kg2 _ om]; exact J5)]; rfl
  have HR:Rw ((h9.keep 1).put h9.next (.cells [.int .i64 (k:Nat)] 1 false)) h2.next (es.set a va') ((ko n E k).set a (nI (kY E k a)++[((k:Nat):Int)])):=hR9.cong λc hc hcn=>Y7 _ om
  obtain⟨vb,vb',H8,S1,S2,S3,S4,S5,S6,S7,S8⟩:=HR.push (i:=b) (x:=h9.next) (k:=(k:Nat)) (xs:=nI (kY E k b)) (by rw[cV hLk]; exact kL q3) om P7 om (λj b n q=>by have:=l6 j b n q; omega)
   (by rw[jm]; have:=uG (E:=E) (k:=k) (x:=b); omega)
  have hst:=Cr (n:=n) (E:=E) (k:=k) om om om
  rw[ha,hb] at hst
  rw[hst] at S5
  have hol:(es.set a va').length=n:=by rw[bE,j5]
  have V3:ar (h9.keep 1) h1.next b 1=some [vb]:=bq (by rw[kg2 _ om]; exact J2) S1
  have ib:fU ((b:Nat):Int) n=some b:=dU q3
  have D1:H8.get (h1.next+3)=some (.cells [.int .i64 (n:Nat),ev,.sl h1.next 0 n n,.sl (h1.next+1) 0 n n,.sl (h1.next+2) 0 n n,.int .i64 0,.nils,.nils] 8 false):=by rw[S6.gt _ om,Y7 _ om]; exact J1
  have D2:H8.get h1.next=some (.cells (es.set a va') 1 false):=by rw[S6.gt _ om,Y7 _ om]; exact J2
  have D5:H8.get h5.next=some (.cells [.int .i64 (a:Nat),.int .i64 (b:Nat)] 2 false):=by rw[(S8 _ om l9).1,Y7 _ om]; exact J5
  have F1:ar H8 (h1.next+3) 2 1=some [.sl h1.next 0 n n]:=by rw[bg D1]; rfl
  have F2:ar H8 h5.next 1 1=some [.int .i64 (b:Nat)]:=by rw[bg D5]; rfl
  have F3:=gv (v:=vb') D2 (show b<(es.set a va').length by omega)
  have U9:=LA (o:=.cells ((es.set a va').set b vb') 1 false) D2
  refine Ha (by simp only[am,aF,simprocAttr,e3,V1,V2,V3,fA,eZ Q7,ib,aO,S2,S3,S4,F1,F2,F3]<;>rfl) ?_
  generalize H8.put h1.next (.cells ((es.set a va').set b vb') 1 false)=H9 at *
  have N9:=U9.nx
  refine⟨(es.set a va').set b vb',⟨by rw[U9.ne om]; exact D1,U9.get,?_,?_,by rw[bE,hol],S5.cong λc hc _=>U9.ne om,?_,om⟩,by simp only[hl,am,aF,simprocAttr,ei,en,e3,e19]⟩
  ·rw[U9.ne om,S6.gt _ om,Y7 _ om,u9.ne om,s6.gt _ om,y7 _ om,x6.gt _ om]; exact j3
  ·rw[U9.ne om,S6.gt _ om,Y7 _ om,u9.ne om,s6.gt _ om,y7 _ om,x6.gt _ om]; exact j4
  ·exact j7.trans ((x6.mono om).trans ((x7.mono om).trans ((s6.mono om).trans ((u9.ext (ae _)).trans ((X7.mono om).trans ((S6.mono om).trans (U9.ext om)))))))
 ·rintro es ts h5 ⟨j1,j2,j3,j4,j5,j6,j7,j8⟩ ⟨e3,e19,-⟩
  simp only at e3 j2 j5 j6
  refine aj (aB (M1 e3) ?_)
  have X5:Ext h.next h h5:=x0.trans (j7.mono om)
  have he5:=he.ext X5 (ae _)
  refine bG ⟨.ptr (h1.next+3) 0,(by simp only[rs,rf23,am,aF,simprocAttr]<;>rfl),h1.next+3,h1.next,h1.next+1,h1.next+2,rfl,X5,⟨om,om,om⟩,{ he:=he5,oe:=?_,ge:=⟨es,j2,j5,λx v q=>?_⟩,ne:=⟨om,om,om,om,om,om⟩,lt:=⟨om,om,om⟩},{ kp:=Kp.refl,cell:=j1,gn:=j3,gl:=j4,st:=.inl ⟨rfl,rfl⟩,bl:=.inl ⟨rfl,rfl⟩,rl:=rfl,rw:=λj v l q=>by simp at q,sb:=Sep.nill}⟩
  ·have key:∀ v:AV,(∀ b o m c,v=.sl b o m c→b<h.next)→Off (SS (h1.next+3) (h1.next+1) (h1.next+2)) v:=λv hv=>by
    cases v<;>try exact trivial
    rename_i b o m c
    have:=hv b o m c rfl
    rintro (e|e|e)<;>omega
   exact key ev λb o m c e=>he.lt e
  ·have hxn:x<n:=by rw[← j5]; exact (aK.1 q).1
   have i1:=j6.2.1 x v _ q (kL hxn)
   refine⟨IsSl.sl om (λ_=>rfl) i1,?_⟩
   rcases i1 with ⟨rfl,_⟩|⟨b,m,hb,rfl,_⟩
   ·exact trivial
   ·rintro (e|e|e)<;>omega
open Go.Am
open Go.Blk (Gr DS upd)
def dM (l:List Nat):List Nat:=l.mergeSort λa b=>decide (a≤b)
theorem jL (l:List Nat):(dM l).Perm l:=yJ l _
theorem xf (l:List Nat):qh (nI l)=nI (dM l):=by
 unfold qh nI dM
 exact (List.map_mergeSort λa _ b _=>by rw[decide_eq_decide]; omega).symm
theorem El (l:List Nat):(dM l).Pairwise (·≤·):=by
 have:=qy (le:=λa b:Nat=>decide (a≤b)) (λa b c h1 h2=>by simp only[aA] at *; omega) (λa b=>by simp only[bN,aA]; omega) l
 exact this.imp λh=>dV h
theorem Jm {l:List Nat}{i:Nat} (h:i∈l):∀ k:Nat,gU (((i:Nat):Int)==·) (nI l) k=((k+l.idxOf i:Nat):Int):=by
 induction l with
 | nil=>cases h
 | cons a l ih =>
   intro k
   show (if (((i:Nat):Int)==((a:Nat):Int))=true then ((k:Nat):Int) else gU _ (nI l) (k+1))=_
   by_cases e:a=i
   ·subst e
    rw[if_pos (by simp),List.idxOf_cons_self,dh]
   ·have hm:i∈l:=by
     rcases au.1 h with q|q
     ·exact absurd q.symm e
     ·exact q
    have hne:¬ ((((i:Nat):Int)==((a:Nat):Int))=true):=by
     rw[beq_iff_eq]; omega
    have hb:(a==i)=false:=by rw[beq_eq_false_iff_ne]; exact e
    rw[if_neg hne,ih hm (k+1),List.idxOf_cons,hb,cond_false]
    congr 1
    omega
set_option maxHeartbeats 1000000 in
theorem DH {h0 h:AH}{sp eb nb lb n:Nat}{ev:AV}{E:List (Int×Int)}{s:DS}{stv blv:AV}{bs:List AV} (t:Sta h0 sp eb nb lb n ev E) (r:Ser h0 h sp eb nb lb n ev s stv blv bs) {i:Nat} (hi:i∈s.stk) (hl1:s.stk.length<2 ^ 32) (hl2:s.blk.length<2 ^ 32) :
 C prg 43 [.ptr sp 0,.int .i64 (i:Nat)] h λ_ h'=>∃ stv' blv' bs',Ser h0 h' sp eb nb lb n ev (s.close dM i) stv' blv' bs':=by
 obtain⟨n1,n2,n3,n4,n5,n6⟩:=t.ne
 obtain⟨l1,l2,l3⟩:=t.lt
 have hnx:=r.kp.nx
 have hs:=r.st.sl
 refine LB pf43 ?_
 have r6:ar h sp 6 1=some [stv]:=bq r.cell rfl
 refine aj (bO (bt 5 (Mi1 r6) rfl (Zi1 r6) (Mi1 r6) (qG (y:=((i:Nat):Int)) hs (by rw[jm]; omega)) λv h1 hq=>?_))
 obtain⟨rfl,x1⟩:=hq
 rw[Jm hi 0,bM]
 have hat:s.stk.idxOf i<s.stk.length:=List.idxOf_lt_length_iff.2 hi
 have hclose:s.close dM i={ s with blk:=s.blk++[dM (s.stk.drop (s.stk.idxOf i))],stk:=s.stk.take (s.stk.idxOf i)}:=rfl
 rw[hclose]
 generalize s.stk.idxOf i=k at *
 refine bI (M0) ?_
 have y1:=x1.nx
 have kg:∀ c,c<h1.next→(h1.keep 1).get c=h1.get c:=λc hc=>by rw[AH.keep_get,if_neg om]
 have kn:(h1.keep 1).next=h1.next+1:=AH.keep_next 1 h1
 have kq:(h1.keep 1).get h1.next=some .resv:=iR
 have xk:Ext h1.next h1 (h1.keep 1):=⟨om,kg,λc hc=>Lx 1 h1⟩
 have X1:Ext h.next h (h1.keep 1):=x1.trans (xk.mono y1)
 have hsp:sp<h.next:=om
 have c1:(h1.keep 1).get sp=some (.cells [.int .i64 (n:Nat),ev,.sl eb 0 n n,.sl nb 0 n n,.sl lb 0 n n,.int .i64 (s.cnt:Nat),stv,blv] 8 false):=by rw[X1.gt _ hsp]; exact r.cell
 have r61:ar (h1.keep 1) sp 6 1=some [stv]:=bq c1 rfl
 have r71:ar (h1.keep 1) sp 7 1=some [blv]:=bq c1 rfl
 have hs1:=hs.ext X1 (ae _)
 obtain⟨w,s1,s2,_⟩:=hs1.from (lo:=k) (by rw[ak,jm]; omega)
 rw[← fQ] at s2
 refine aj (nY (lh 11 (by simp only[am,aF,simprocAttr,r61,r71,eF,bW,s1]<;>rfl) rfl (by simp only[am,aF,simprocAttr,r61,r71,eF,bW,s1]) (by simp only[am,aF,simprocAttr,r61,r71,eF,bW,s1]<;>rfl) (BV s2.cells.1) λrv h2 hq=>?_))
 obtain⟨rfl,hh2⟩:=hq
 have x2:Ext (h1.next+1) (h1.keep 1) h2:=by rw[hh2]; exact Ly om
 have g2:h2.get (h1.next+1)=some (.cells [w] 1 false):=by rw[hh2,AH.get_new,kn,if_pos rfl]
 have n2:h2.next=h1.next+2:=by rw[hh2,AH.next_new,kn]
 rw[kn]
 have X2:Ext h.next h h2:=X1.trans (x2.mono om)
 have c2:h2.get sp=some (.cells [.int .i64 (n:Nat),ev,.sl eb 0 n n,.sl nb 0 n n,.sl lb 0 n n,.int .i64 (s.cnt:Nat),stv,blv] 8 false):=by rw[X2.gt _ hsp]; exact r.cell
 have r72:ar h2 sp 7 1=some [blv]:=bq c2 rfl
 have bc:=r.bl.cells
 have sb:blv.same blv=true:=by rcases r.bl with ⟨rfl,_⟩|⟨_,_,_,rfl,_⟩<;>first|rfl|exact AE
 refine⟨Z2 r72 sb,?_⟩
 have s22:=s2.ext x2 om
 refine lh 0 (M0) rfl (Z0) (M0) (Ca (bq g2 rfl) s22 om (by rw[dR,jm]; omega)) λrv h3 hq=>?_
 obtain⟨i3,x3⟩:=hq
 have X3:Ext h.next h h3:=X2.trans (x3.mono om)
 have n3':=x3.nx
 have c3:h3.get sp=some (.cells [.int .i64 (n:Nat),ev,.sl eb 0 n n,.sl nb 0 n n,.sl lb 0 n n,.int .i64 (s.cnt:Nat),stv,blv] 8 false):=by rw[X3.gt _ hsp]; exact r.cell
 have r73:ar h3 sp 7 1=some [blv]:=bq c3 rfl
 refine⟨Z2 r73 sb,?_⟩
 have q3:h3.get h1.next=some .resv:=by rw[x3.gt _ om,x2.gt _ om]; exact kq
 have hrow:IsSl h3 1 h2.next rv (nL (dM (s.stk.drop k))):=by
  have e:nI (s.stk.drop k)=(nI s.stk).drop k:=by unfold nI; rw[fQ]
  rw[← e,xf,Kg] at i3
  exact i3
 have u4:=LA (o:=.cells [rv] 1 false) q3
 obtain⟨rc,ro⟩:=i3.cells
 have bl4:IsSl (h3.put h1.next (.cells [rv] 1 false)) 1 h0.next blv bs:=r.bl.cong λb m e hb=>by
  have:=r.bl.lt e
  rw[u4.ne om,X3.gt _ this]
 have n4':=u4.nx
 obtain⟨blv',h5,a5,i5,x5,e5,n5',k5,t5⟩:=bl4.app (bytes:=24) (x:=h1.next) (new:=[rv]) om om u4.get om (λb m e=>by have:=r.bl.lt e; omega) rfl (by simp [ro])
  (by rw[kb,r.rl]; unfold be; omega) (by rw[kb,r.rl]; unfold be; omega)
 obtain⟨bc',bo'⟩:=i5.cells
 have hb5:∀ c,c<h.next→(∀ b m,blv=.sl b 0 m m→c≠b)→h5.get c=h.get c:=λc hc hne=>by
  rw[k5 c om hne,u4.ne om,X3.gt _ hc]
 have hbl0:∀ c,c<h0.next→h5.get c=h.get c:=λc hc=>hb5 c om λb m e q=>by
  rcases r.bl with ⟨rfl,_⟩|⟨b',m',z1,rfl,_⟩
  ·cases e
  ·cases e; omega
 have c5:h5.get sp=some (.cells [.int .i64 (n:Nat),ev,.sl eb 0 n n,.sl nb 0 n n,.sl lb 0 n n,.int .i64 (s.cnt:Nat),stv,blv] 8 false):=by rw[hbl0 sp l1]; exact r.cell
 have w6:=gv (v:=blv') c5 (i:=7) (by simp)
 have u6:=LA (o:=.cells [.int .i64 (n:Nat),ev,.sl eb 0 n n,.sl nb 0 n n,.sl lb 0 n n,.int .i64 (s.cnt:Nat),stv,blv'] 8 false) c5
 change bZ h5 sp 7 [blv']=some (h5.put sp (.cells [.int .i64 (n:Nat),ev,.sl eb 0 n n,.sl nb 0 n n,.sl lb 0 n n,.int .i64 (s.cnt:Nat),stv,blv'] 8 false)) at w6
 have rp:dg [AV.nils] 1=[.nils]:=rfl
 refine bI (by simp only[am,aF,simprocAttr,fA,eZ q3,rp,rc,ro,a5,bo',bc',w6]<;>rfl) ?_
 generalize h5.put sp (.cells [.int .i64 (n:Nat),ev,.sl eb 0 n n,.sl nb 0 n n,.sl lb 0 n n,.int .i64 (s.cnt:Nat),stv,blv'] 8 false)=h6 at *
 have n6':=u6.nx
 have ty6:∀ c,c<h.next→h6.tyOf c=h.tyOf c:=λc hc=>by rw[u6.ty,t5,u4.ty,X3.ty _ hc]
 have hlow:∀ c,c<h0.next→c≠sp→h6.get c=h.get c:=λc hc hne=>by rw[u6.ne hne,hbl0 c hc]
 have keepS:∀ c,h0.next≤c→c<h.next→(∀ b m,blv=.sl b 0 m m→c≠b)→h6.get c=h.get c:=λc hc hc2 hne=>by rw[u6.ne om,hb5 c hc2 hne]
 have st6:Stk h6 h0.next stv s.stk:=r.st.cong λc hc ⟨o,m,kk,e⟩=>keepS c hc (r.st.lt e).1 λb m' e' q=>r.sb b 0 m' m' o m kk e' (by rw[e,q])
 have R6:Ser h0 h6 sp eb nb lb n ev { s with blk:=s.blk++[dM (s.stk.drop k)]} stv blv' (bs++[rv]):=by
  refine { kp:=⟨om,λc hc hn'=>?_,λc hc=>?_⟩,cell:=u6.get,gn:=by rw[hlow nb l2 n4]; exact r.gn,gl:=by rw[hlow lb l3 n6]; exact r.gl,st:=st6,bl:=i5.upd u6 om,rl:=by rw[aI,aI,r.rl]; rfl,rw:=λj v l a b=>?_,sb:=?_}
  ·rw[hlow c hc λe=>hn' (.inl e)]; exact r.kp.gt c hc hn'
  ·rw[ty6 c om]; exact r.kp.ty c hc
  ·by_cases hj:j<bs.length
   ·rw[bC hj] at a
    rw[bC (by rw[← r.rl]; exact hj)] at b
    obtain⟨z1,z2,z3⟩:=r.rw j v l a b
    refine⟨z1.cong λb m e hb=>keepS b hb (z1.lt e) λb' m' e' q=>z3 b 0 m m 0 m' m' e (by rw[e',q]),z2,λb o m c o' m' c' e e'=>?_⟩
    rw[e5] at e'
    cases e'
    have:=z1.lt e
    omega
   ·rw[aU om] at a
    rw[aU (by rw[← r.rl]; omega),← r.rl] at b
    have hj0:j-bs.length=0:=by
     have:=(aK.1 a).1
     simp only[aw,aP] at this
     omega
    rw[hj0] at a b
    simp only[bd,aa] at a b
    subst a b
    refine⟨(hrow.cong λb m e hb=>?_).mono om,λb o m c o' m' c' e e'=>?_,λb o m c o' m' c' e e'=>?_⟩
    ·have:=hrow.lt e
     rw[u6.ne om,k5 b om (λb' m' e'=>by have:=r.bl.lt e'; omega),u4.ne om]
    ·have:=(r.st.lt e').1
     rcases hrow with ⟨rfl,_⟩|⟨b',m'',z1,rfl,_⟩
     ·cases e
     ·cases e; omega
    ·rw[e5] at e'
     cases e'
     have:=hrow.lt e
     omega
  ·intro b o m c o' m' c' e e'
   rw[e5] at e
   cases e
   have:=(r.st.lt e').1
   omega
 have r66:ar h6 sp 6 1=some [stv]:=bq R6.cell rfl
 obtain⟨v',cv,cs,csep,cin⟩:=R6.st.cut (k:=k) (by show k≤s.stk.length; omega)
 obtain⟨h7,w7,R7⟩:=R6.setStk t (ae _) (λ_ _ _=>rfl) (λ_=>rfl) cs (λw _ q=>csep w q)
 have co:=cs.cells
 refine aB (by simp only[am,aF,simprocAttr,bH,r66,eF,bW,cv,co.1,co.2,w7]<;>rfl) ?_
 exact⟨.tup [],rfl,v',blv',_,R7⟩
end Go.Proofs.YtpeemonpdlifbaaGreat
