/-
  block.begin, other. block's search: a block is closed.
-/
import Derived.Test.YtpeemonpdlifbaaQTAM
import Derived.Test.YtpeemonpdlifbaaQTAC
import Derived.Test.YtpeemonpdlifbaaQTAD
set_option linter.all false
namespace Go.Proofs.Ytpeemonpdlifbaa
open Go.Am
open Go.Blk (Gr DS upd)
def endsK (E:List (Int×Int)) (k x:Nat):List Nat:=(List.range k).filter fun i=>decide (tlE E i=x)||decide (hdE E i=x)
theorem endsK_succ {E:List (Int×Int)}{k x:Nat}:endsK E (k+1) x=endsK E k x++if tlE E k=x∨hdE E k=x then [k] else []:=by
 unfold endsK
 rw[List.range_succ,List.filter_append]
 congr 1
 by_cases q:tlE E k=x∨hdE E k=x
 ·rw[if_pos q,List.filter_cons_of_pos (by simpa using q)]; rfl
 ·rw[if_neg q,List.filter_cons_of_neg (by simpa using q)]; rfl
theorem endsK_len {E:List (Int×Int)}{k x:Nat}:(endsK E k x).length≤k:=by
 unfold endsK
 have:=List.length_filter_le (fun i=>decide (tlE E i=x)||decide (hdE E i=x)) (List.range k)
 rwa [List.length_range] at this
theorem nI_app (l m:List Nat):nI (l++m)=nI l++nI m:=by simp [nI]
def rowsK (n:Nat) (E:List (Int×Int)) (k:Nat):List (List Int):=(List.range n).map fun x=>nI (endsK E k x)
theorem rowsK_at {n k x:Nat}{E:List (Int×Int)} (hx:x<n):(rowsK n E k)[x]?=some (nI (endsK E k x)):=by
 unfold rowsK
 rw[List.getElem?_map,List.getElem?_range hx]
 rfl
theorem rowsK_set {n k:Nat}{E:List (Int×Int)} (ha:tlE E k<n) (hb:hdE E k<n) (hab:tlE E k≠hdE E k) :
 ((rowsK n E k).set (tlE E k) (nI (endsK E k (tlE E k))++[((k:Nat):Int)])).set (hdE E k) (nI (endsK E k (hdE E k))++[((k:Nat):Int)])=rowsK n E (k+1):=by
 refine List.ext_getElem? fun j=>?_
 have hl:(rowsK n E k).length=n:=by simp [rowsK]
 have hl2:(rowsK n E (k+1)).length=n:=by simp [rowsK]
 rw[List.getElem?_set,List.getElem?_set,List.length_set,hl]
 by_cases hj:j<n
 ·rw[rowsK_at hj,rowsK_at hj,endsK_succ,nI_app]
  by_cases e1:hdE E k=j
  ·rw[if_pos e1,if_pos hb,if_pos (.inr e1),e1]; rfl
  ·rw[if_neg e1]
   by_cases e2:tlE E k=j
   ·rw[if_pos e2,if_pos ha,if_pos (.inl e2),e2]; rfl
   ·rw[if_neg e2,if_neg (by rintro (q|q); exact e2 q; exact e1 q)]; simp [nI]
 ·rw[if_neg (by omega),if_neg (by omega),List.getElem?_eq_none (by rw[hl]; omega),List.getElem?_eq_none (by rw[hl2]; omega)]
theorem rowsK_nil (h:AH) (n:Nat) (E:List (Int×Int)):Rw h h.next (repl [.nils] n) (rowsK n E 0):=by
 rw[repl_rep]
 refine⟨by simp [rowsK],fun i v xs h1 h2=>?_,fun i j b n' b' n'' _ h1=>?_⟩
 ·rw[List.getElem?_replicate] at h1
  split at h1
  ·rename_i hi
   rw[rowsK_at hi] at h2
   simp only[Option.some.injEq] at h1 h2
   subst h1 h2
   exact .inl ⟨rfl,by simp [endsK,nI]⟩
  ·cases h1
 ·rw[List.getElem?_replicate] at h1
  split at h1<;>cases h1
theorem bother_ok {h0 h:AH}{sp eb nb lb n:Nat}{ev:AV}{E:List (Int×Int)}{s:DS}{stv blv:AV}{bs:List AV} (t:Sta h0 sp eb nb lb n ev E) (r:Ser h0 h sp eb nb lb n ev s stv blv bs) (hE:InG n E) (hL:∀ i,i<E.length→tlE E i≠hdE E i) (hn:n<2 ^ 40) {i x:Nat} (hi:(grE n E hE hL).inc i x) :
 C prg 48 [.ptr sp 0,.int .i64 (i:Nat),.int .i64 (x:Nat)] h fun v h'=>v=.int .i64 ((grE n E hE hL).oth i x:Nat)∧Ext h.next h h':=by
 refine C.func pf48 ?_
 obtain⟨h1,h2⟩:=id hi
 have him:i<E.length:=h1
 have hx2:tlE E i=x∨hdE E i=x:=h2
 have hLi:=hL i him
 obtain⟨q1,q2,q3⟩:=hE i him
 have he:=t.edges r.kp
 obtain⟨b,p,a,rr,_,_⟩:=he.at (map_at (f:=eE) him)
 rw[q1] at rr
 have rse:rdCells h sp 1 1=some [ev]:=rd_at r.cell rfl
 have ho:((tlE E i:Nat):Int)+((hdE E i:Nat):Int)-((x:Nat):Int)=(((grE n E hE hL).oth i x:Nat):Int):=by
  show _=((tlE E i+hdE E i-x:Nat):Int)
  omega
 have hol:(grE n E hE hL).oth i x<n:=by
  show tlE E i+hdE E i-x<n
  omega
 have w1:IntKind.i64.wrap (((tlE E i:Nat):Int)+((hdE E i:Nat):Int))=((tlE E i:Nat):Int)+((hdE E i:Nat):Int):=wr64 (by omega) (by omega)
 have w2:IntKind.i64.wrap (((tlE E i:Nat):Int)+((hdE E i:Nat):Int)-((x:Nat):Int))=(((grE n E hE hL).oth i x:Nat):Int):=by rw[ho]; exact wr64 (by omega) (by omega)
 obtain⟨h3,w3,x3,g3,n3⟩:=mk_loc (h:=h) (z:=[.int .i64 0,.int .i64 0]) (cs:=[.int .i64 (tlE E i:Nat),.int .i64 (hdE E i:Nat)]) (e:=2) rfl
 clear hi
 generalize (grE n E hE hL).oth i x=y at *
 refine W.seq (W.run (by simp only[am,evOp,simprocAttr,initTm]<;>rfl) ?_)
 refine W.seq (W.run (by simp only[am,evOp,simprocAttr,initTm,rse,a,rr,eE,w3]<;>rfl) ?_)
 have ra:rdCells h3 h.next 0 1=some [.int .i64 (tlE E i:Nat)]:=rd_at g3 rfl
 have rb:rdCells h3 h.next 1 1=some [.int .i64 (hdE E i:Nat)]:=rd_at g3 rfl
 refine W.seq (W.runs (fun ts h'=>h'=h3∧tget ts 6=.int .i64 (y:Nat)) (by simp only[am,evOp,simprocAttr,initTm,ra,rb,w1,w2]) ?_)
 rintro ts h4 ⟨rfl,e6⟩
 exact W.ret ⟨.int .i64 (y:Nat),(by simp only[rs,rf48,am,evOp,simprocAttr,e6]<;>rfl),rfl,x3⟩
set_option maxHeartbeats 1000000 in
theorem bbegin_ok {h:AH}{n:Nat}{ev:AV}{E:List (Int×Int)} (he:SlE h ev E) (hE:InG n E) (hL:∀ i,i<E.length→tlE E i≠hdE E i) (hxl:E.length<2 ^ 30) (hnl:n<2 ^ 30) :
 C prg 32 [.agg (gW n ev)] h fun r h'=>∃ sp eb nb lb,r=.ptr sp 0∧Ext h.next h h'∧(h.next≤sp∧h.next≤nb∧h.next≤lb)∧Sta h' sp eb nb lb n ev E∧Ser h' h' sp eb nb lb n ev Go.Blk.start .nils .nils []:=by
 obtain⟨ec,eo⟩:=he.cells
 have hlen:=he.len
 rw[List.length_map] at hlen
 unfold gW
 refine C.func pf32 ?_
 refine W.seq (W.run (by simp only[am,evOp,simprocAttr,initTm]<;>rfl) ?_)
 have x0:Ext h.next h (h.new (.cells [.int .i64 (n:Nat),ev] 2 false)):=Ext.new (Nat.le_refl _)
 have g0:(h.new (.cells [.int .i64 (n:Nat),ev] 2 false)).get h.next=some (.cells [.int .i64 (n:Nat),ev] 2 false):=by rw[AH.get_new,if_pos rfl]
 have n0:(h.new (.cells [.int .i64 (n:Nat),ev] 2 false)).next=h.next+1:=rfl
 generalize h.new (.cells [.int .i64 (n:Nat),ev] 2 false)=h1 at *
 have kn:(h1.keep 4).next=h1.next+4:=AH.keep_next 4 h1
 have kg:∀ c,(h1.keep 4).get c=if h1.next≤c∧c<h1.next+4 then some .resv else h1.get c:=fun c=>AH.keep_get 4 h1
 have k1:(h1.keep 4).get h.next=some (.cells [.int .i64 (n:Nat),ev] 2 false):=by rw[kg,if_neg (by omega)]; exact g0
 have ra:rdCells (h1.keep 4) h.next 0 2=some [.int .i64 (n:Nat),ev]:=by rw[rdCells_of k1]; rfl
 have rb:rdCells (h1.keep 4) h.next 0 1=some [.int .i64 (n:Nat)]:=by rw[rdCells_of k1]; rfl
 have mva:=mksV_nat (z:=[.nils]) (bytes:=24) (n:=n) (by unfold tooMany; omega) (by unfold tooMany; omega)
 have mvb:=mksV_nat (z:=[.int .i64 0]) (bytes:=8) (n:=n) (by unfold tooMany; omega) (by unfold tooMany; omega)
 have q0:(h1.keep 4).get h1.next=some .resv:=by rw[kg,if_pos ⟨by omega,by omega⟩]
 obtain⟨m1,hm1⟩:∃ m,m=(h1.keep 4).put h1.next (.cells (repl [.nils] n) 1 false):=⟨_,rfl⟩
 have v1:Upd (h1.keep 4) m1 h1.next (.cells (repl [.nils] n) 1 false):=by rw[hm1]; exact Upd.put q0
 have q1:m1.get (h1.next+1)=some .resv:=by rw[v1.ne (by omega),kg,if_pos ⟨by omega,by omega⟩]
 obtain⟨m2,hm2⟩:∃ m,m=m1.put (h1.next+1) (.cells (repl [.int .i64 0] n) 1 false):=⟨_,rfl⟩
 have v2:Upd m1 m2 (h1.next+1) (.cells (repl [.int .i64 0] n) 1 false):=by rw[hm2]; exact Upd.put q1
 have q2:m2.get (h1.next+2)=some .resv:=by rw[v2.ne (by omega),v1.ne (by omega),kg,if_pos ⟨by omega,by omega⟩]
 obtain⟨m3,hm3⟩:∃ m,m=m2.put (h1.next+2) (.cells (repl [.int .i64 0] n) 1 false):=⟨_,rfl⟩
 have v3:Upd m2 m3 (h1.next+2) (.cells (repl [.int .i64 0] n) 1 false):=by rw[hm3]; exact Upd.put q2
 have q3:m3.get (h1.next+3)=some .resv:=by rw[v3.ne (by omega),v2.ne (by omega),v1.ne (by omega),kg,if_pos ⟨by omega,by omega⟩]
 obtain⟨m4,hm4⟩:∃ m,m=m3.put (h1.next+3) (.cells [.int .i64 (n:Nat),ev,.sl h1.next 0 n n,.sl (h1.next+1) 0 n n,.sl (h1.next+2) 0 n n,.int .i64 0,.nils,.nils] 8 false):=⟨_,rfl⟩
 have v4:Upd m3 m4 (h1.next+3) (.cells [.int .i64 (n:Nat),ev,.sl h1.next 0 n n,.sl (h1.next+1) 0 n n,.sl (h1.next+2) 0 n n,.int .i64 0,.nils,.nils] 8 false):=by rw[hm4]; exact Upd.put q3
 have bx:=boxV_agg (k:=8) (cs:=[.int .i64 (n:Nat),ev,.sl h1.next 0 n n,.sl (h1.next+1) 0 n n,.sl (h1.next+2) 0 n n,.int .i64 0,.nils,.nils]) rfl
 refine W.seq (W.runsK (fun ts h2=>h2=m4∧tget ts 1=.ptr h.next 0∧tget ts 3=.ptr (h1.next+3) 0)
  (by simp only[am,evOp,simprocAttr,initTm,ra,rb,evN_some,evNew_mks q0,← hm1,evNew_mks q1,← hm2,evNew_mks q2,← hm3,evNew_box q3,mva,mvb,bx,ec,eo,List.take_succ_cons,← hm4]) ?_)
 rintro ts h2 ⟨hh2,t1,t3⟩
 subst hh2
 clear hm1 hm2 hm3 hm4
 have n2:h2.next=h1.next+4:=by rw[v4.nx,v3.nx,v2.nx,v1.nx,kn]
 have gk:∀ c,c<h1.next→h2.get c=h1.get c:=fun c hc=>by rw[v4.ne (by omega),v3.ne (by omega),v2.ne (by omega),v1.ne (by omega),kg,if_neg (by omega)]
 have x2:Ext h1.next h1 h2:=⟨by omega,gk,fun c hc=>by rw[v4.ty,v3.ty,v2.ty,v1.ty]; exact AH.keep_tyOf 4 h1⟩
 have gE:h2.get h1.next=some (.cells (repl [.nils] n) 1 false):=by rw[v4.ne (by omega),v3.ne (by omega),v2.ne (by omega)]; exact v1.get
 have gN:h2.get (h1.next+1)=some (.cells (il n fun _=>0) 1 false):=by rw[v4.ne (by omega),v3.ne (by omega),v2.get,il_repl]
 have gL:h2.get (h1.next+2)=some (.cells (il n fun _=>0) 1 false):=by rw[v4.ne (by omega),v3.get,il_repl]
 have gS:=v4.get
 have g1:h2.get h.next=some (.cells [.int .i64 (n:Nat),ev] 2 false):=by rw[gk _ (by omega)]; exact g0
 clear v1 v2 v3 v4 q0 q1 q2 q3 kg kn k1 ra rb bx mva mvb
 have X2:Ext h.next h h2:=x0.trans (x2.mono (by omega))
 have rE:rdCells h2 h.next 1 1=some [ev]:=rd_at g1 rfl
 have rl:(repl [AV.nils] n).length=n:=by rw[repl_rep,List.length_replicate]
 refine W.seq (W.seq (W.run (by simp only[am,evOp,simprocAttr,t1,t3,rE,hlen]<;>rfl) ?_))
 refine W.rng (α:=List AV) (N:=E.length) (fun _ _=>[(3,.ptr (h1.next+3) 0),(19,ev)])
  (fun k a h'=>h'.get (h1.next+3)=some (.cells [.int .i64 (n:Nat),ev,.sl h1.next 0 n n,.sl (h1.next+1) 0 n n,.sl (h1.next+2) 0 n n,.int .i64 0,.nils,.nils] 8 false)∧h'.get h1.next=some (.cells a 1 false)∧h'.get (h1.next+1)=some (.cells (il n fun _=>0) 1 false)∧h'.get (h1.next+2)=some (.cells (il n fun _=>0) 1 false)∧a.length=n∧Rw h' h2.next a (rowsK n E k)∧Ext h1.next h1 h'∧h2.next≤h'.next)
  (repl [.nils] n) (fun _ _=>rfl) (by omega) (by simp only[hl,am,evOp,simprocAttr,t3]) ⟨gS,gE,gN,gL,rl,rowsK_nil h2 n E,x2,Nat.le_refl _⟩ ?_ ?_
 ·clear gS gE gN gL
  rintro k es ts h5 hk ⟨j1,j2,j3,j4,j5,j6,j7,j8⟩ ⟨ei,en,e3,e19,-⟩
  simp only at ei en e3 e19 j2 j5 j6
  obtain⟨q1,q2,q3⟩:=hE k hk
  have hLk:=hL k hk
  have X5:Ext h.next h h5:=x0.trans (j7.mono (by omega))
  obtain⟨b1,p1,a1,r1,_⟩:=(he.ext X5 (Nat.le_refl _)).at (map_at (f:=eE) hk)
  rw[q1] at r1
  generalize ha:tlE E k=a at *
  generalize hb:hdE E k=b at *
  obtain⟨h6,w6,x6,g6,n6⟩:=mk_loc (h:=h5) (z:=[.int .i64 0,.int .i64 0]) (cs:=[.int .i64 (a:Nat),.int .i64 (b:Nat)]) (e:=2) rfl
  refine W.seq (W.run (by simp only[am,evOp,simprocAttr,e3,e19,ei,a1,r1,eE,w6]<;>rfl) ?_)
  obtain⟨x7,p7,n7,y7⟩:=keep1_put (h:=h6) (o:=.cells [.int .i64 (k:Nat)] 1 false)
  have kg:∀ c,c<h6.next→(h6.keep 1).get c=h6.get c:=fun c hc=>by rw[AH.keep_get,if_neg (by omega)]
  have q7:(h6.keep 1).get h6.next=some .resv:=keep1_get
  have j1':h6.get (h1.next+3)=some (.cells [.int .i64 (n:Nat),ev,.sl h1.next 0 n n,.sl (h1.next+1) 0 n n,.sl (h1.next+2) 0 n n,.int .i64 0,.nils,.nils] 8 false):=by rw[x6.gt _ (by omega)]; exact j1
  have j2':h6.get h1.next=some (.cells es 1 false):=by rw[x6.gt _ (by omega)]; exact j2
  have s1':rdCells (h6.keep 1) (h1.next+3) 2 1=some [.sl h1.next 0 n n]:=by rw[rdCells_of (by rw[kg _ (by omega)]; exact j1')]; rfl
  have s2':rdCells (h6.keep 1) h5.next 0 1=some [.int .i64 (a:Nat)]:=by rw[rdCells_of (by rw[kg _ (by omega)]; exact g6)]; rfl
  have hR:Rw ((h6.keep 1).put h6.next (.cells [.int .i64 (k:Nat)] 1 false)) h2.next es (rowsK n E k):=j6.cong fun c hc hcn=>by rw[y7 _ (by omega),x6.gt _ (by omega)]
  obtain⟨va,va',h8,s1,s2,s3,s4,s5,s6,s7,s8⟩:=hR.push (i:=a) (x:=h6.next) (k:=(k:Nat)) (rowsK_at q2) (by omega) p7 (by omega) (fun j b n q=>by have:=j6.lt q; omega)
   (by rw[nI_len]; have:=endsK_len (E:=E) (k:=k) (x:=a); omega)
  have v3:rdCells (h6.keep 1) h1.next a 1=some [va]:=rd_at (by rw[kg _ (by omega)]; exact j2') s1
  have ia:idx? ((a:Nat):Int) n=some a:=idx_nat q2
  have d1:h8.get (h1.next+3)=some (.cells [.int .i64 (n:Nat),ev,.sl h1.next 0 n n,.sl (h1.next+1) 0 n n,.sl (h1.next+2) 0 n n,.int .i64 0,.nils,.nils] 8 false):=by rw[s6.gt _ (by omega),y7 _ (by omega)]; exact j1'
  have d2:h8.get h1.next=some (.cells es 1 false):=by rw[s6.gt _ (by omega),y7 _ (by omega)]; exact j2'
  have d5:h8.get h5.next=some (.cells [.int .i64 (a:Nat),.int .i64 (b:Nat)] 2 false):=by rw[(s8 _ (by omega) (fun j b n q=>by have:=j6.lt q; omega)).1,y7 _ (by omega)]; exact g6
  have f1:rdCells h8 (h1.next+3) 2 1=some [.sl h1.next 0 n n]:=by rw[rdCells_of d1]; rfl
  have f2:rdCells h8 h5.next 0 1=some [.int .i64 (a:Nat)]:=by rw[rdCells_of d5]; rfl
  have f3:=wr_at (v:=va') d2 (show a<es.length by omega)
  have u9:=Upd.put (o:=.cells (es.set a va') 1 false) d2
  refine W.seq (W.runK (by simp only[am,evOp,simprocAttr,e3,s1',s2',v3,evN_some,evNew_mksl q7,ia,Nat.mul_one,s2,s3,s4,f1,f2,f3]<;>rfl) ?_)
  generalize h8.put h1.next (.cells (es.set a va') 1 false)=h9 at *
  have n9:=u9.nx
  have hR9:Rw h9 h2.next (es.set a va') ((rowsK n E k).set a (nI (endsK E k a)++[((k:Nat):Int)])):=s5.cong fun c hc _=>u9.ne (by omega)
  have l9:∀ (j b n:Nat),(es.set a va')[j]?=some (AV.sl b 0 n n)→b≠h5.next:=fun j b n' q=>(s8 _ (by omega) (fun j b n q=>by have:=j6.lt q; omega)).2 j b n' q
  have l6:∀ (j b n:Nat),(es.set a va')[j]?=some (AV.sl b 0 n n)→b<h9.next:=fun j b n' q=>(hR9.lt q).1
  obtain⟨X7,P7,N7,Y7⟩:=keep1_put (h:=h9) (o:=.cells [.int .i64 (k:Nat)] 1 false)
  have kg2:∀ c,c<h9.next→(h9.keep 1).get c=h9.get c:=fun c hc=>by rw[AH.keep_get,if_neg (by omega)]
  have Q7:(h9.keep 1).get h9.next=some .resv:=keep1_get
  have J1:h9.get (h1.next+3)=some (.cells [.int .i64 (n:Nat),ev,.sl h1.next 0 n n,.sl (h1.next+1) 0 n n,.sl (h1.next+2) 0 n n,.int .i64 0,.nils,.nils] 8 false):=by rw[u9.ne (by omega)]; exact d1
  have J2:=u9.get
  have J5:h9.get h5.next=some (.cells [.int .i64 (a:Nat),.int .i64 (b:Nat)] 2 false):=by rw[u9.ne (by omega)]; exact d5
  have V1:rdCells (h9.keep 1) (h1.next+3) 2 1=some [.sl h1.next 0 n n]:=by rw[rdCells_of (by rw[kg2 _ (by omega)]; exact J1)]; rfl
  have V2:rdCells (h9.keep 1) h5.next 1 1=some [.int .i64 (b:Nat)]:=by rw[rdCells_of (by rw[kg2 _ (by omega)]; exact J5)]; rfl
  have HR:Rw ((h9.keep 1).put h9.next (.cells [.int .i64 (k:Nat)] 1 false)) h2.next (es.set a va') ((rowsK n E k).set a (nI (endsK E k a)++[((k:Nat):Int)])):=hR9.cong fun c hc hcn=>Y7 _ (by omega)
  obtain⟨vb,vb',H8,S1,S2,S3,S4,S5,S6,S7,S8⟩:=HR.push (i:=b) (x:=h9.next) (k:=(k:Nat)) (xs:=nI (endsK E k b)) (by rw[List.getElem?_set_ne hLk]; exact rowsK_at q3) (by omega) P7 (by omega) (fun j b n q=>by have:=l6 j b n q; omega)
   (by rw[nI_len]; have:=endsK_len (E:=E) (k:=k) (x:=b); omega)
  have hst:=rowsK_set (n:=n) (E:=E) (k:=k) (by omega) (by omega) (by omega)
  rw[ha,hb] at hst
  rw[hst] at S5
  have hol:(es.set a va').length=n:=by rw[List.length_set,j5]
  have V3:rdCells (h9.keep 1) h1.next b 1=some [vb]:=rd_at (by rw[kg2 _ (by omega)]; exact J2) S1
  have ib:idx? ((b:Nat):Int) n=some b:=idx_nat q3
  have D1:H8.get (h1.next+3)=some (.cells [.int .i64 (n:Nat),ev,.sl h1.next 0 n n,.sl (h1.next+1) 0 n n,.sl (h1.next+2) 0 n n,.int .i64 0,.nils,.nils] 8 false):=by rw[S6.gt _ (by omega),Y7 _ (by omega)]; exact J1
  have D2:H8.get h1.next=some (.cells (es.set a va') 1 false):=by rw[S6.gt _ (by omega),Y7 _ (by omega)]; exact J2
  have D5:H8.get h5.next=some (.cells [.int .i64 (a:Nat),.int .i64 (b:Nat)] 2 false):=by rw[(S8 _ (by omega) l9).1,Y7 _ (by omega)]; exact J5
  have F1:rdCells H8 (h1.next+3) 2 1=some [.sl h1.next 0 n n]:=by rw[rdCells_of D1]; rfl
  have F2:rdCells H8 h5.next 1 1=some [.int .i64 (b:Nat)]:=by rw[rdCells_of D5]; rfl
  have F3:=wr_at (v:=vb') D2 (show b<(es.set a va').length by omega)
  have U9:=Upd.put (o:=.cells ((es.set a va').set b vb') 1 false) D2
  refine W.runK (by simp only[am,evOp,simprocAttr,e3,V1,V2,V3,evN_some,evNew_mksl Q7,ib,Nat.mul_one,S2,S3,S4,F1,F2,F3]<;>rfl) ?_
  generalize H8.put h1.next (.cells ((es.set a va').set b vb') 1 false)=H9 at *
  have N9:=U9.nx
  refine⟨(es.set a va').set b vb',⟨by rw[U9.ne (by omega)]; exact D1,U9.get,?_,?_,by rw[List.length_set,hol],S5.cong fun c hc _=>U9.ne (by omega),?_,by omega⟩,by simp only[hl,am,evOp,simprocAttr,ei,en,e3,e19]⟩
  ·rw[U9.ne (by omega),S6.gt _ (by omega),Y7 _ (by omega),u9.ne (by omega),s6.gt _ (by omega),y7 _ (by omega),x6.gt _ (by omega)]; exact j3
  ·rw[U9.ne (by omega),S6.gt _ (by omega),Y7 _ (by omega),u9.ne (by omega),s6.gt _ (by omega),y7 _ (by omega),x6.gt _ (by omega)]; exact j4
  ·exact j7.trans ((x6.mono (by omega)).trans ((x7.mono (by omega)).trans ((s6.mono (by omega)).trans ((u9.ext (Nat.le_refl _)).trans ((X7.mono (by omega)).trans ((S6.mono (by omega)).trans (U9.ext (by omega))))))))
 ·rintro es ts h5 ⟨j1,j2,j3,j4,j5,j6,j7,j8⟩ ⟨e3,e19,-⟩
  simp only at e3 j2 j5 j6
  refine W.seq (W.run (by simp only[am,evOp,simprocAttr,e3]<;>rfl) ?_)
  have X5:Ext h.next h h5:=x0.trans (j7.mono (by omega))
  have he5:=he.ext X5 (Nat.le_refl _)
  refine W.ret ⟨.ptr (h1.next+3) 0,(by simp only[rs,rf32,am,evOp,simprocAttr]<;>rfl),h1.next+3,h1.next,h1.next+1,h1.next+2,rfl,X5,⟨by omega,by omega,by omega⟩,{ he:=he5,oe:=?_,ge:=⟨es,j2,j5,fun x v q=>?_⟩,ne:=⟨by omega,by omega,by omega,by omega,by omega,by omega⟩,lt:=⟨by omega,by omega,by omega⟩},{ kp:=Kp.refl,cell:=j1,gn:=j3,gl:=j4,st:=.inl ⟨rfl,rfl⟩,bl:=.inl ⟨rfl,rfl⟩,rl:=rfl,rw:=fun j v l q=>by simp at q,sb:=Sep.nill}⟩
  ·have key:∀ v:AV,(∀ b o m c,v=.sl b o m c→b<h.next)→Off (SS (h1.next+3) (h1.next+1) (h1.next+2)) v:=fun v hv=>by
    cases v<;>try exact trivial
    rename_i b o m c
    have:=hv b o m c rfl
    rintro (e|e|e)<;>omega
   exact key ev fun b o m c e=>he.lt e
  ·have hxn:x<n:=by rw[← j5]; exact (List.getElem?_eq_some_iff.1 q).1
   have i1:=j6.2.1 x v _ q (rowsK_at hxn)
   refine⟨IsSl.sl (by omega) (fun _=>rfl) i1,?_⟩
   rcases i1 with ⟨rfl,_⟩|⟨b,m,hb,rfl,_⟩
   ·exact trivial
   ·rintro (e|e|e)<;>omega
end Go.Proofs.Ytpeemonpdlifbaa
namespace Go.Proofs.Ytpeemonpdlifbaa
open Go.Am
open Go.Blk (Gr DS upd)
def sortN (l:List Nat):List Nat:=l.mergeSort fun a b=>decide (a≤b)
theorem sortN_perm (l:List Nat):(sortN l).Perm l:=List.mergeSort_perm l _
theorem sortN_isort (l:List Nat):isort (nI l)=nI (sortN l):=by
 unfold isort nI sortN
 exact (List.map_mergeSort fun a _ b _=>by rw[decide_eq_decide]; omega).symm
theorem sortN_le (l:List Nat):(sortN l).Pairwise (·≤·):=by
 have:=List.pairwise_mergeSort (le:=fun a b:Nat=>decide (a≤b)) (fun a b c h1 h2=>by simp only[decide_eq_true_eq] at *; omega) (fun a b=>by simp only[Bool.or_eq_true,decide_eq_true_eq]; omega) l
 exact this.imp fun h=>of_decide_eq_true h
theorem fidx_of {l:List Nat}{i:Nat} (h:i∈l):∀ k:Nat,fidx (((i:Nat):Int)==·) (nI l) k=((k+l.idxOf i:Nat):Int):=by
 induction l with
 | nil=>cases h
 | cons a l ih =>
   intro k
   show (if (((i:Nat):Int)==((a:Nat):Int))=true then ((k:Nat):Int) else fidx _ (nI l) (k+1))=_
   by_cases e:a=i
   ·subst e
    rw[if_pos (by simp),List.idxOf_cons_self,Nat.add_zero]
   ·have hm:i∈l:=by
     rcases List.mem_cons.1 h with q|q
     ·exact absurd q.symm e
     ·exact q
    have hne:¬ ((((i:Nat):Int)==((a:Nat):Int))=true):=by
     rw[beq_iff_eq]; omega
    have hb:(a==i)=false:=by rw[beq_eq_false_iff_ne]; exact e
    rw[if_neg hne,ih hm (k+1),List.idxOf_cons,hb,cond_false]
    congr 1
    omega
set_option maxHeartbeats 1000000 in
theorem bclose_ok {h0 h:AH}{sp eb nb lb n:Nat}{ev:AV}{E:List (Int×Int)}{s:DS}{stv blv:AV}{bs:List AV} (t:Sta h0 sp eb nb lb n ev E) (r:Ser h0 h sp eb nb lb n ev s stv blv bs) {i:Nat} (hi:i∈s.stk) (hl1:s.stk.length<2 ^ 32) (hl2:s.blk.length<2 ^ 32) :
 C prg 49 [.ptr sp 0,.int .i64 (i:Nat)] h fun _ h'=>∃ stv' blv' bs',Ser h0 h' sp eb nb lb n ev (s.close sortN i) stv' blv' bs':=by
 obtain⟨n1,n2,n3,n4,n5,n6⟩:=t.ne
 obtain⟨l1,l2,l3⟩:=t.lt
 have hnx:=r.kp.nx
 have hs:=r.st.sl
 refine C.func pf49 ?_
 have r6:rdCells h sp 6 1=some [stv]:=rd_at r.cell rfl
 refine W.seq (W.reg (G.gcall 5 (by simp only[am,evOp,simprocAttr,initTm,r6]<;>rfl) rfl (by simp only[am,evOp,simprocAttr,initTm,r6]) (by simp only[am,evOp,simprocAttr,initTm,r6]<;>rfl) (idxI_ok (y:=((i:Nat):Int)) hs (by rw[nI_len]; omega)) fun v h1 hq=>?_))
 obtain⟨rfl,x1⟩:=hq
 rw[fidx_of hi 0,Nat.zero_add]
 have hat:s.stk.idxOf i<s.stk.length:=List.idxOf_lt_length_iff.2 hi
 have hclose:s.close sortN i={ s with blk:=s.blk++[sortN (s.stk.drop (s.stk.idxOf i))],stk:=s.stk.take (s.stk.idxOf i)}:=rfl
 rw[hclose]
 generalize s.stk.idxOf i=k at *
 refine G.run (by simp only[am,evOp,simprocAttr]<;>rfl) ?_
 have y1:=x1.nx
 have kg:∀ c,c<h1.next→(h1.keep 1).get c=h1.get c:=fun c hc=>by rw[AH.keep_get,if_neg (by omega)]
 have kn:(h1.keep 1).next=h1.next+1:=AH.keep_next 1 h1
 have kq:(h1.keep 1).get h1.next=some .resv:=keep1_get
 have xk:Ext h1.next h1 (h1.keep 1):=⟨by omega,kg,fun c hc=>AH.keep_tyOf 1 h1⟩
 have X1:Ext h.next h (h1.keep 1):=x1.trans (xk.mono y1)
 have hsp:sp<h.next:=by omega
 have c1:(h1.keep 1).get sp=some (.cells [.int .i64 (n:Nat),ev,.sl eb 0 n n,.sl nb 0 n n,.sl lb 0 n n,.int .i64 (s.cnt:Nat),stv,blv] 8 false):=by rw[X1.gt _ hsp]; exact r.cell
 have r61:rdCells (h1.keep 1) sp 6 1=some [stv]:=rd_at c1 rfl
 have r71:rdCells (h1.keep 1) sp 7 1=some [blv]:=rd_at c1 rfl
 have hs1:=hs.ext X1 (Nat.le_refl _)
 obtain⟨w,s1,s2,_⟩:=hs1.from (lo:=k) (by rw[List.length_map,nI_len]; omega)
 rw[← List.map_drop] at s2
 refine W.seq (W.regK (G.gcallc 11 (by simp only[am,evOp,simprocAttr,r61,r71,slLA_eq,Option.map_none,s1]<;>rfl) rfl (by simp only[am,evOp,simprocAttr,r61,r71,slLA_eq,Option.map_none,s1]) (by simp only[am,evOp,simprocAttr,r61,r71,slLA_eq,Option.map_none,s1]<;>rfl) (values_ok s2.cells.1) fun rv h2 hq=>?_))
 obtain⟨rfl,hh2⟩:=hq
 have x2:Ext (h1.next+1) (h1.keep 1) h2:=by rw[hh2]; exact Ext.new (by omega)
 have g2:h2.get (h1.next+1)=some (.cells [w] 1 false):=by rw[hh2,AH.get_new,kn,if_pos rfl]
 have n2:h2.next=h1.next+2:=by rw[hh2,AH.next_new,kn]
 rw[kn]
 have X2:Ext h.next h h2:=X1.trans (x2.mono (by omega))
 have c2:h2.get sp=some (.cells [.int .i64 (n:Nat),ev,.sl eb 0 n n,.sl nb 0 n n,.sl lb 0 n n,.int .i64 (s.cnt:Nat),stv,blv] 8 false):=by rw[X2.gt _ hsp]; exact r.cell
 have r72:rdCells h2 sp 7 1=some [blv]:=rd_at c2 rfl
 have bc:=r.bl.cells
 have sb:blv.same blv=true:=by rcases r.bl with ⟨rfl,_⟩|⟨_,_,_,rfl,_⟩<;>first|rfl|exact same_sl
 refine⟨by simp only[am,evOp,simprocAttr,r72,sb],?_⟩
 have s22:=s2.ext x2 (by omega)
 refine G.gcallc 0 (by simp only[am,evOp,simprocAttr]<;>rfl) rfl (by simp only[am,evOp,simprocAttr]) (by simp only[am,evOp,simprocAttr]<;>rfl) (sorted_ok (rd_at g2 rfl) s22 (by omega) (by rw[List.length_drop,nI_len]; omega)) fun rv h3 hq=>?_
 obtain⟨i3,x3⟩:=hq
 have X3:Ext h.next h h3:=X2.trans (x3.mono (by omega))
 have n3':=x3.nx
 have c3:h3.get sp=some (.cells [.int .i64 (n:Nat),ev,.sl eb 0 n n,.sl nb 0 n n,.sl lb 0 n n,.int .i64 (s.cnt:Nat),stv,blv] 8 false):=by rw[X3.gt _ hsp]; exact r.cell
 have r73:rdCells h3 sp 7 1=some [blv]:=rd_at c3 rfl
 refine⟨by simp only[am,evOp,simprocAttr,r73,sb],?_⟩
 have q3:h3.get h1.next=some .resv:=by rw[x3.gt _ (by omega),x2.gt _ (by omega)]; exact kq
 have hrow:IsSl h3 1 h2.next rv (nL (sortN (s.stk.drop k))):=by
  have e:nI (s.stk.drop k)=(nI s.stk).drop k:=by unfold nI; rw[List.map_drop]
  rw[← e,sortN_isort,nL_nI] at i3
  exact i3
 have u4:=Upd.put (o:=.cells [rv] 1 false) q3
 obtain⟨rc,ro⟩:=i3.cells
 have bl4:IsSl (h3.put h1.next (.cells [rv] 1 false)) 1 h0.next blv bs:=r.bl.cong fun b m e hb=>by
  have:=r.bl.lt e
  rw[u4.ne (by omega),X3.gt _ this]
 have n4':=u4.nx
 obtain⟨blv',h5,a5,i5,x5,e5,n5',k5,t5⟩:=bl4.app (bytes:=24) (x:=h1.next) (new:=[rv]) (by omega) (by omega) u4.get (by omega) (fun b m e=>by have:=r.bl.lt e; omega) rfl (by simp [ro])
  (by rw[Nat.div_one,r.rl]; unfold tooMany; omega) (by rw[Nat.div_one,r.rl]; unfold tooMany; omega)
 obtain⟨bc',bo'⟩:=i5.cells
 have hb5:∀ c,c<h.next→(∀ b m,blv=.sl b 0 m m→c≠b)→h5.get c=h.get c:=fun c hc hne=>by
  rw[k5 c (by omega) hne,u4.ne (by omega),X3.gt _ hc]
 have hbl0:∀ c,c<h0.next→h5.get c=h.get c:=fun c hc=>hb5 c (by omega) fun b m e q=>by
  rcases r.bl with ⟨rfl,_⟩|⟨b',m',z1,rfl,_⟩
  ·cases e
  ·cases e; omega
 have c5:h5.get sp=some (.cells [.int .i64 (n:Nat),ev,.sl eb 0 n n,.sl nb 0 n n,.sl lb 0 n n,.int .i64 (s.cnt:Nat),stv,blv] 8 false):=by rw[hbl0 sp l1]; exact r.cell
 have w6:=wr_at (v:=blv') c5 (i:=7) (by simp)
 have u6:=Upd.put (o:=.cells [.int .i64 (n:Nat),ev,.sl eb 0 n n,.sl nb 0 n n,.sl lb 0 n n,.int .i64 (s.cnt:Nat),stv,blv'] 8 false) c5
 change wrCells h5 sp 7 [blv']=some (h5.put sp (.cells [.int .i64 (n:Nat),ev,.sl eb 0 n n,.sl nb 0 n n,.sl lb 0 n n,.int .i64 (s.cnt:Nat),stv,blv'] 8 false)) at w6
 have rp:repl [AV.nils] 1=[.nils]:=rfl
 refine G.run (by simp only[am,evOp,simprocAttr,evN_some,evNew_mksl q3,rp,rc,ro,a5,bo',bc',w6]<;>rfl) ?_
 generalize h5.put sp (.cells [.int .i64 (n:Nat),ev,.sl eb 0 n n,.sl nb 0 n n,.sl lb 0 n n,.int .i64 (s.cnt:Nat),stv,blv'] 8 false)=h6 at *
 have n6':=u6.nx
 have ty6:∀ c,c<h.next→h6.tyOf c=h.tyOf c:=fun c hc=>by rw[u6.ty,t5,u4.ty,X3.ty _ hc]
 have hlow:∀ c,c<h0.next→c≠sp→h6.get c=h.get c:=fun c hc hne=>by rw[u6.ne hne,hbl0 c hc]
 have keepS:∀ c,h0.next≤c→c<h.next→(∀ b m,blv=.sl b 0 m m→c≠b)→h6.get c=h.get c:=fun c hc hc2 hne=>by rw[u6.ne (by omega),hb5 c hc2 hne]
 have st6:Stk h6 h0.next stv s.stk:=r.st.cong fun c hc ⟨o,m,kk,e⟩=>keepS c hc (r.st.lt e).1 fun b m' e' q=>r.sb b 0 m' m' o m kk e' (by rw[e,q])
 have R6:Ser h0 h6 sp eb nb lb n ev { s with blk:=s.blk++[sortN (s.stk.drop k)]} stv blv' (bs++[rv]):=by
  refine { kp:=⟨by omega,fun c hc hn'=>?_,fun c hc=>?_⟩,cell:=u6.get,gn:=by rw[hlow nb l2 n4]; exact r.gn,gl:=by rw[hlow lb l3 n6]; exact r.gl,st:=st6,bl:=i5.upd u6 (by omega),rl:=by rw[List.length_append,List.length_append,r.rl]; rfl,rw:=fun j v l a b=>?_,sb:=?_}
  ·rw[hlow c hc fun e=>hn' (.inl e)]; exact r.kp.gt c hc hn'
  ·rw[ty6 c (by omega)]; exact r.kp.ty c hc
  ·by_cases hj:j<bs.length
   ·rw[List.getElem?_append_left hj] at a
    rw[List.getElem?_append_left (by rw[← r.rl]; exact hj)] at b
    obtain⟨z1,z2,z3⟩:=r.rw j v l a b
    refine⟨z1.cong fun b m e hb=>keepS b hb (z1.lt e) fun b' m' e' q=>z3 b 0 m m 0 m' m' e (by rw[e',q]),z2,fun b o m c o' m' c' e e'=>?_⟩
    rw[e5] at e'
    cases e'
    have:=z1.lt e
    omega
   ·rw[List.getElem?_append_right (by omega)] at a
    rw[List.getElem?_append_right (by rw[← r.rl]; omega),← r.rl] at b
    have hj0:j-bs.length=0:=by
     have:=(List.getElem?_eq_some_iff.1 a).1
     simp only[List.length_cons,List.length_nil] at this
     omega
    rw[hj0] at a b
    simp only[List.getElem?_cons_zero,Option.some.injEq] at a b
    subst a b
    refine⟨(hrow.cong fun b m e hb=>?_).mono (by omega),fun b o m c o' m' c' e e'=>?_,fun b o m c o' m' c' e e'=>?_⟩
    ·have:=hrow.lt e
     rw[u6.ne (by omega),k5 b (by omega) (fun b' m' e'=>by have:=r.bl.lt e'; omega),u4.ne (by omega)]
    ·have:=(r.st.lt e').1
     rcases hrow with ⟨rfl,_⟩|⟨b',m'',z1,rfl,_⟩
     ·cases e
     ·cases e; omega
    ·rw[e5] at e'
     cases e'
     have:=hrow.lt e
     omega
  ·intro b o m c o' m' c' e e'
   rw[e5] at e
   cases e
   have:=(r.st.lt e').1
   omega
 have r66:rdCells h6 sp 6 1=some [stv]:=rd_at R6.cell rfl
 obtain⟨v',cv,cs,csep,cin⟩:=R6.st.cut (k:=k) (by show k≤s.stk.length; omega)
 obtain⟨h7,w7,R7⟩:=R6.setStk t (Nat.le_refl _) (fun _ _ _=>rfl) (fun _=>rfl) cs (fun w _ q=>csep w q)
 have co:=cs.cells
 refine W.run (by simp only[am,evOp,simprocAttr,initTm,r66,slLA_eq,Option.map_none,cv,co.1,co.2,w7]<;>rfl) ?_
 exact⟨.tup [],rfl,v',blv',_,R7⟩
end Go.Proofs.Ytpeemonpdlifbaa
