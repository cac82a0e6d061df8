/- arborref02.Rename. -/
import Derived.Test.YtpeemonpdlifbaaUTBB
import Derived.Test.YtpeemonpdlifbaaUTBC
import Derived.Test.YtpeemonpdlifbaaUTAE
import Derived.Test.YtpeemonpdlifbaaUTAF
import Derived.Test.YtpeemonpdlifbaaUTAD
import Derived.Test.YtpeemonpdlifbaaUTAN
set_option linter.all false
namespace Go.Proofs.Ytpeemonpdlifbaa
open Go.Am
def nmF (names:List Int) (v:Nat):Nat:=(names.getD v 0).toNat
theorem lu {n:Nat}{xs:List Int} (h:xs.Perm (oU n)) {v:Nat} (hv:v<n):xs.length=n∧∃ h:v<xs.length,xs[v]=((nmF xs v:Nat):Int)∧nmF xs v<n:=by
 have hl:xs.length=n:=by rw[h.length_eq,nX]
 refine⟨hl,om,?_⟩
 have hm:=h.mem_iff.1 (aR (show v<xs.length by omega))
 obtain⟨h1,h2⟩:=rF.1 hm
 have e:xs.getD v 0=xs[v]'om:=by rw[aG,ai om]; rfl
 unfold nmF
 rw[e]
 omega
theorem wN {n:Nat}{xs:List Int} (h:xs.Perm (oU n)):∀ u v,u<n→v<n→nmF xs u=nmF xs v→u=v:=λu v hu hv e=>by
 have nd:xs.Nodup:=h.nodup_iff.2 (qH n)
 obtain⟨hl,h1,e1,_⟩:=lu h hu
 obtain⟨_,h2,e2,_⟩:=lu h hv
 have:xs[u]=xs[v]:=by rw[e1,e2,e]
 rcases oQ u v with q|q|q
 ·exact absurd this ((dg.1 nd) u v h1 h2 q)
 ·exact q
 ·exact absurd this.symm ((dg.1 nd) v u h2 h1 q)
def oZ (m:Nat) (order:List Int):List Nat:=(List.range m).map (nmF order)
theorem Ai {m:Nat}{order:List Int} (h:order.Perm (oU m)):(oZ m order).Nodup∧∀ i∈oZ m order,i<m:=by
 refine⟨?_,λi hi=>?_⟩
 ·unfold oZ
  rw[List.Nodup,dh]
  refine List.Pairwise.imp_of_mem ?_ (bp (n:=m))
  intro a b ha hb hab he
  exact hab (wN h a b (aF.1 ha) (aF.1 hb) he)
 ·obtain⟨j,hj,rfl⟩:=bE.1 hi
  obtain⟨_,_,_,q⟩:=lu h (aF.1 hj)
  exact q
theorem BO {E:List (Int×Int)}{ν:Nat→Nat}{order:List Int}{k:Nat}:fx E ν (oZ (k+1) order)=fx E ν (oZ k order)++[(((ν (tlE E (nmF order k)):Nat):Int),((ν (hdE E (nmF order k)):Nat):Int))]:=by
 unfold fx oZ
 rw[bS,dK,dK]
 rfl
set_option maxHeartbeats 1000000 in
theorem yy {h:AH}{n:Nat}{ev nv ov:AV}{E:List (Int×Int)}{names order:List Int} (he:SlE h ev E) (hE:InG n E) (hm:E.length≤128) (hn:SlI h nv names) (ho:SlI h ov order) (pn:names.Perm (oU n)) (po:order.Perm (oU E.length)) :
 C prg 16 [.agg [.int .i64 (n:Nat),ev],nv,ov] h λr h'=>∃ ev',r=.agg [.int .i64 (n:Nat),ev']∧SlE h' ev' (fx E (nmF names) (oZ E.length order))∧Ext h.next h h':=by
 obtain⟨ec,eo⟩:=he.cells
 obtain⟨nc,no⟩:=hn.cells
 obtain⟨oc,oo⟩:=ho.cells
 have ol:=ho.len
 rw[ah] at ol
 have hol:order.length=E.length:=by rw[po.length_eq,nX]
 refine Kl pf16 ?_
 refine ae (ar (Mi0) ?_)
 have x0:Ext h.next h (h.new (.cells [.int .i64 (n:Nat),ev] 2 false)):=Ki (ab _)
 have g0:(h.new (.cells [.int .i64 (n:Nat),ev] 2 false)).get h.next=some (.cells [.int .i64 (n:Nat),ev] 2 false):=by rw[AH.get_new,if_pos rfl]
 have n0:(h.new (.cells [.int .i64 (n:Nat),ev] 2 false)).next=h.next+1:=rfl
 generalize (h.new (.cells [.int .i64 (n:Nat),ev] 2 false))=h1 at *
 have x1:Ext h1.next h1 (h1.new (.cells [.int .i64 0,.nils] 2 false)):=Ki (ab _)
 have g1:(h1.new (.cells [.int .i64 0,.nils] 2 false)).get h1.next=some (.cells [.int .i64 0,.nils] 2 false):=by rw[AH.get_new,if_pos rfl]
 have n1:(h1.new (.cells [.int .i64 0,.nils] 2 false)).next=h1.next+1:=rfl
 generalize (h1.new (.cells [.int .i64 0,.nils] 2 false))=h2 at *
 rw[n0] at g1
 have g2:h2.get h.next=some (.cells [.int .i64 (n:Nat),ev] 2 false):=by rw[x1.gt _ om]; exact g0
 have X2:Ext h.next h h2:=x0.trans (x1.mono om)
 have rN:ak h2 h.next 0 1=some [.int .i64 (n:Nat)]:=bd g2 rfl
 obtain⟨h3,w3,x3,g3,n3⟩:=fL (h:=h2) (z:=[.int .i64 0,.nils]) (cs:=[.int .i64 (n:Nat),.nils]) (e:=2) rfl
 refine ae (bL (λts h'=>h'=h3∧aL ts 1=nv∧aL ts 2=ov∧aL ts 3=.ptr h.next 0∧aL ts 6=.ptr (h.next+1) 0∧aL ts 7=.ptr h2.next 0) (by simp only[am,aC,simprocAttr,bI,rN,w3]) ?_)
 rintro ts h3' ⟨rfl,e1,e2,e3,e6,e7⟩
 have n1':h2.next=h.next+2:=om
 rw[n1'] at e7
 rw[n1'] at g3 n3
 have X3:Ext h.next h h3':=X2.trans (x3.mono om)
 have gA:h3'.get h.next=some (.cells [.int .i64 (n:Nat),ev] 2 false):=by rw[x3.gt _ om]; exact g2
 have gR:h3'.get (h.next+1)=some (.cells [.int .i64 0,.nils] 2 false):=by rw[x3.gt _ om]; exact g1
 refine ae (ku (λts h'=>∃ av,aL ts 6=.ptr (h.next+1) 0∧aL ts 7=.ptr (h.next+2) 0∧IsSl h' 2 (h.next+3) av ((fx E (nmF names) (oZ E.length order)).flatMap eE)∧h'.get (h.next+2)=some (.cells [.int .i64 (n:Nat),av] 2 false)∧h'.get (h.next+1)=some (.cells [.int .i64 0,.nils] 2 false)∧Ext h.next h h') ?_ ?_)
 ·refine ae (ar (M0) ?_)
  refine gU (α:=AV) (N:=E.length) (λk av=>[(1,nv),(2,ov),(3,.ptr h.next 0),(6,.ptr (h.next+1) 0),(7,.ptr (h.next+2) 0),(8,.int .i64 (k:Nat))])
   (λk av h'=>IsSl h' 2 (h.next+3) av ((fx E (nmF names) (oZ k order)).flatMap eE)∧h'.get (h.next+2)=some (.cells [.int .i64 (n:Nat),av] 2 false)∧h'.get (h.next+1)=some (.cells [.int .i64 0,.nils] 2 false)∧h'.get h.next=some (.cells [.int .i64 (n:Nat),ev] 2 false)∧Ext h.next h h'∧h.next+3≤h'.next) .nils (H6 e1 e2 e3 e6 e7 @bh) ⟨.inl ⟨rfl,rfl⟩,g3,gR,gA,X3,om⟩ ?_ ?_ ?_
  ·clear e1 e2 e3 e6 e7
   rintro k av ts h4 hk _ ⟨e1,e2,e3,e6,e7,e8,-⟩
   simp only at e1 e2 e3 e6 e7 e8
   exact⟨_,(M5 e2 e8 ol hol @cX),Z0,H6 e1 e2 e3 e6 e7 e8⟩
  ·clear e1 e2 e3 e6 e7
   rintro k av ts h4 hk ⟨i4,g4,r4,a4,X4,n4⟩ ⟨e1,e2,e3,e6,e7,e8,-⟩
   simp only at e1 e2 e3 e6 e7 e8
   have w1:IntKind.i64.wrap (((k:Nat):Int)+1)=((k+1:Nat):Int):=eL om om
   have rE:ak h4 h.next 1 1=some [ev]:=bd a4 rfl
   obtain⟨_,hko,eo1,hoE⟩:=lu po hk
   obtain⟨ob,op,ao,ro,_⟩:=(ho.ext X4 (ab _)).at1 (i:=k) (y:=.int .i64 order[k]) (by rw[aw,ai hko]; rfl)
   rw[eo1] at ro
   have hpk:=@BO E (nmF names) order k
   generalize nmF order k=q at *
   obtain⟨qb,qp,a5,r5,_⟩:=(he.ext X4 (ab _)).at (fy (f:=eE) hoE)
   obtain⟨q1,q2,q3⟩:=hE q hoE
   rw[q1] at r5
   have r5:ak h4 qb qp 2=some [.int .i64 (tlE E q:Nat),.int .i64 (hdE E q:Nat)]:=r5
   obtain⟨h5,w5,x5,g5,n5⟩:=fL (h:=h4) (z:=[.int .i64 0,.int .i64 0]) (cs:=[.int .i64 (tlE E q:Nat),.int .i64 (hdE E q:Nat)]) (e:=2) rfl
   refine ae (bL (λts h'=>h'=h5∧aL ts 1=nv∧aL ts 2=ov∧aL ts 3=.ptr h.next 0∧aL ts 6=.ptr (h.next+1) 0∧aL ts 7=.ptr (h.next+2) 0∧aL ts 8=.int .i64 (k:Nat)∧aL ts 9=.ptr h4.next 0) (by simp only[am,aC,simprocAttr,e1,e2,e3,e6,e7,e8,rE,ao,ro,a5,r5,w5]) ?_)
   clear e1 e2 e3 e6 e7 e8
   rintro ts h5' ⟨rfl,e1,e2,e3,e6,e7,e8,e9⟩
   have X5:Ext h.next h h5':=X4.trans (x5.mono om)
   have i5:=i4.ext x5 (ab _)
   have b5:h5'.get (h.next+2)=some (.cells [.int .i64 (n:Nat),av] 2 false):=by rw[x5.gt _ om]; exact g4
   have r5b:h5'.get (h.next+1)=some (.cells [.int .i64 0,.nils] 2 false):=by rw[x5.gt _ om]; exact r4
   have a5b:h5'.get h.next=some (.cells [.int .i64 (n:Nat),ev] 2 false):=by rw[x5.gt _ om]; exact a4
   have kn:(h5'.keep 1).next=h5'.next+1:=AH.keep_next 1 h5'
   have kg:∀ c,c<h5'.next→(h5'.keep 1).get c=h5'.get c:=λc hc=>by rw[AH.keep_get,if_neg om]
   have q8:(h5'.keep 1).get h5'.next=some .resv:=by rw[AH.keep_get,if_pos ⟨om,om⟩]
   have k2:(h5'.keep 1).get (h.next+2)=some (.cells [.int .i64 (n:Nat),av] 2 false):=by rw[kg _ om]; exact b5
   have k9:(h5'.keep 1).get h4.next=some (.cells [.int .i64 (tlE E q:Nat),.int .i64 (hdE E q:Nat)] 2 false):=by rw[kg _ om]; exact g5
   have rv:ak (h5'.keep 1) (h.next+2) 1 1=some [av]:=bd k2 rfl
   have rt:ak (h5'.keep 1) h4.next 0 1=some [.int .i64 (tlE E q:Nat)]:=bd k9 rfl
   have rh:ak (h5'.keep 1) h4.next 1 1=some [.int .i64 (hdE E q:Nat)]:=bd k9 rfl
   have hnk:SlI (h5'.keep 1) nv names:=(hn.ext X5 (ab _)).cong λb o c z e=>kg _ ((hn.ext X5 (ab _)).lt e)
   obtain⟨_,ht1,et1,_⟩:=lu pn q2
   obtain⟨_,hh1,eh1,_⟩:=lu pn q3
   obtain⟨tb,tp,at_,rt2,_⟩:=hnk.at1 (i:=tlE E q) (y:=.int .i64 names[tlE E q]) (by rw[aw,ai ht1]; rfl)
   obtain⟨yb,yp,ah_,rh2,_⟩:=hnk.at1 (i:=hdE E q) (y:=.int .i64 names[hdE E q]) (by rw[aw,ai hh1]; rfl)
   rw[et1] at rt2
   rw[eh1] at rh2
   have ik:IsSl (h5'.keep 1) 2 (h.next+3) av ((fx E (nmF names) (oZ k order)).flatMap eE):=i5.cong λb c e _=>kg _ (i5.lt e)
   have hll:(oZ k order).length=k:=by simp [oZ]
   obtain⟨m3,v9,m4,hm3,a9,i9,y9,_,t9,s9⟩:=cop1 (a:=(nmF names (tlE E q):Nat)) (b:=(nmF names (hdE E q):Nat)) ik om q8 om (by rw[fK,hll]; omega)
   have g9:m4.get (h.next+2)=some (.cells [.int .i64 (n:Nat),av] 2 false):=by rw[y9.gt _ om]; exact k2
   have w9:=fV (v:=v9) g9 (i:=1) (by simp)
   have u9:=Kk (o:=.cells ([AV.int .i64 (n:Nat),av].set 1 v9) 2 false) g9
   have rp1:cJ [AV.int .i64 0,.int .i64 0] 1=[.int .i64 0,.int .i64 0]:=rfl
   refine zO (by simp only[am,aC,simprocAttr,e1,e7,e9,rv,rt,rh,at_,rt2,ah_,rh2,eH,eR q8,rp1,← hm3,a9,i9.cells.1,i9.cells.2,bM,w9]<;>rfl) ?_
   generalize m4.put (h.next+2) (.cells ([AV.int .i64 (n:Nat),av].set 1 v9) 2 false)=m5 at *
   have yk:∀ c,c<h.next+3→m4.get c=h5'.get c:=λc hc=>by rw[y9.gt _ hc,kg _ om]
   refine⟨v9,⟨?_,u9.get,by rw[u9.ne om,yk _ om]; exact r5b,by rw[u9.ne om,yk _ om]; exact a5b,⟨?_,λc hc=>?_,λc hc=>?_⟩,by rw[u9.nx]; omega⟩,_,(M2 e8 w1),H5 e1 e2 e3 e6 e7⟩
   ·rw[hpk]
    exact i9.upd u9 om
   ·rw[u9.nx]; have:=X5.nx; omega
   ·rw[u9.ne om,yk _ om]; exact X5.gt c hc
   ·rw[u9.ty,y9.ty _ om,Kh]; exact X5.ty c hc
  ·clear e1 e2 e3 e6 e7
   rintro av ts h4 ⟨i4,g4,r4,a4,X4,n4⟩ ⟨e1,e2,e3,e6,e7,e8,-⟩
   exact⟨av,e6,e7,i4,g4,r4,X4⟩
 clear e1 e2 e3 e6 e7
 rintro ts h4 ⟨av,e6,e7,i4,g4,r4,X4⟩
 have rg:ak h4 (h.next+2) 0 2=some [.int .i64 (n:Nat),av]:=by rw[aU g4]; rfl
 have w4:bU h4 (h.next+1) 0 [.int .i64 (n:Nat),av]=some (h4.put (h.next+1) (.cells [.int .i64 (n:Nat),av] 2 false)):=by rw[eY r4]; rfl
 have u4:=Kk (o:=.cells [.int .i64 (n:Nat),av] 2 false) r4
 refine ae (ar (by simp only[am,aC,simprocAttr,e6,e7,rg,w4,i4.cells.2]<;>rfl) ?_)
 generalize h4.put (h.next+1) (.cells [.int .i64 (n:Nat),av] 2 false)=h5 at *
 have r5:ak h5 (h.next+1) 0 2=some [.int .i64 (n:Nat),av]:=by rw[aU u4.get]; rfl
 exact bH ⟨.agg [.int .i64 (n:Nat),av],(by simp only[rs,rf16,am,aC,simprocAttr,e6,r5]<;>rfl),av,rfl,Kg om vB (i4.upd u4 om),X4.trans (u4.ext om)⟩
open Go.Am
def qj (E:List (Int×Int)) (d:Nat):Int:=if d % 2=0 then (E.getD (d / 2) (0,0)).1 else (E.getD (d / 2) (0,0)).2
theorem quo2 {k:Nat} (h:k<2 ^ 60):IntKind.i64.wrap (((k:Nat):Int).tdiv 2)=((k / 2:Nat):Int):=by
 have e:((k:Nat):Int).tdiv 2=((k / 2:Nat):Int):=rfl
 rw[e]
 exact eL om om
theorem tmod2 (h:Nat):(((h:Nat):Int)).tmod 2=((h % 2:Nat):Int):=rfl
theorem li:¬ (2:Int)=0:=by decide
theorem Ad {h:AH}{n:Int}{ev:AV}{E:List (Int×Int)}{k:Nat} (he:SlE h ev E) (hk:k<2*E.length) (hl:E.length<2 ^ 30) :
 C prg 25 [.agg [.int .i64 n,ev],.int .i64 (k:Nat)] h λr h'=>r=.int .i64 (qj E k)∧Ext h.next h h':=by
 obtain⟨ec,eo⟩:=he.cells
 refine Kl pf25 ?_
 refine ae (ar (Mi0) ?_)
 have x0:Ext h.next h (h.new (.cells [.int .i64 n,ev] 2 false)):=Ki (ab _)
 have g0:(h.new (.cells [.int .i64 n,ev] 2 false)).get h.next=some (.cells [.int .i64 n,ev] 2 false):=by rw[AH.get_new,if_pos rfl]
 generalize (h.new (.cells [.int .i64 n,ev] 2 false))=h1 at *
 have rE:ak h1 h.next 1 1=some [ev]:=bd g0 rfl
 have q2:=quo2 (k:=k) om
 have hi:k / 2<E.length:=om
 obtain⟨qb,qp,a1,_,r1,_⟩:=(he.ext x0 (ab _)).at (fy (f:=eE) hi)
 have hE:E.getD (k / 2) (0,0)=E[k / 2]:=by rw[aG,ai hi]; rfl
 have r10:=r1 0 (.int .i64 E[k / 2].1) rfl
 have r11:=r1 1 (.int .i64 E[k / 2].2) rfl
 rw[cS] at r10
 by_cases q:k % 2=0
 ·have c1:decide (((k % 2:Nat):Int)=0)=true:=aN om
  refine ae (ae (ar (by simp only[am,aC,simprocAttr,bI,li,tmod2,c1]<;>rfl) ?_))
  refine cE (Z0) (ae (ar (Mi5 rE @li q2 a1 r10) ?_))
  exact bH ⟨_,(by simp only[rs,rf25,am,aC,simprocAttr]<;>rfl),by rw[qj,if_pos q,hE],x0⟩
 ·have c1:decide (((k % 2:Nat):Int)=0)=false:=aK om
  refine ae (ae (ar (by simp only[am,aC,simprocAttr,bI,li,tmod2,c1]<;>rfl) ?_))
  refine dB (Z0) (bJ (ae (ar (Mi5 rE @li q2 a1 r11) ?_)))
  exact bH ⟨_,(by simp only[rs,rf25,am,aC,simprocAttr]<;>rfl),by rw[qj,if_neg q,hE],x0⟩
def okH (E:List (Int×Int)) (x:Nat) (z:Int):Prop:=0≤z∧z<((2*E.length:Nat):Int)∧qj E z.toNat=((x:Nat):Int)
structure RwsI (n:Nat) (E:List (Int×Int)) (T:List (List Int)):Prop where
 len:T.length=n
 at_:∀ x,x<n→∀ z∈T.getD x [],okH E x z
 one:∀ i,i<2*E.length→T.flatten.count ((i:Nat):Int)=1
theorem Bf {T:List (List Int)}{k:Nat} (hk:k<T.length):(T.take (k+1)).flatten=(T.take k).flatten++T[k]:=by
 rw[dP,ai hk,gF]
 simp
theorem gT {T:List (List Int)}{k:Nat} (hk:k<T.length):T.getD k []=T[k]:=by
 rw[aG,ai hk]; rfl
theorem yq {l:List Int}{j:Nat} (hj:j<l.length):l.take (j+1)=l.take j++[l[j]]:=by
 rw[dP,ai hj]; rfl
theorem xQ {E:List (Int×Int)}{T:List (List Int)}{k:Nat} (hk:k≤T.length) (h:∀ x,x<k→∀ z∈T.getD x [],okH E x z) {i:Nat} (hi:qj E i=((k:Nat):Int)):(T.take k).flatten.count ((i:Nat):Int)=0:=by
 rw[List.count_eq_zero]
 intro hm
 obtain⟨l,hl,hm⟩:=eA.1 hm
 obtain⟨x,hx,rfl⟩:=eT.1 hl
 rw[bF] at hx
 rw[List.getElem_take] at hm
 have:=h x om ((i:Nat):Int) (by rw[gT om]; exact hm)
 have e:=this.2.2
 rw[di,hi] at e
 omega
set_option maxHeartbeats 2000000 in
theorem yG {h:AH}{n:Nat}{ev tv:AV}{E:List (Int×Int)}{T:List (List Int)} (he:SlE h ev E) (hm:iP (n:Nat) E=true) (hT:SlL h tv T) (hT1:T.length<2 ^ 40) (hT2:∀ l∈T,l.length≤2 ^ 63-1) :
 C prg 11 [.agg [.int .i64 (n:Nat),ev],tv] h λr h'=>∃ b,r=.bool b∧(b=true↔RwsI n E T)∧Ext h.next h h':=by
 obtain⟨ec,eo⟩:=he.cells
 obtain⟨tc,to⟩:=hT.cells
 obtain⟨m1,m2,m3,m4⟩:=pi hm
 have el:=he.len
 rw[ah] at el
 have tl:=hT.len
 refine Kl pf11 ?_
 refine ae (ar (Mi0) ?_)
 have x0:Ext h.next h (h.new (.cells [.int .i64 (n:Nat),ev] 2 false)):=Ki (ab _)
 have g0:(h.new (.cells [.int .i64 (n:Nat),ev] 2 false)).get h.next=some (.cells [.int .i64 (n:Nat),ev] 2 false):=by rw[AH.get_new,if_pos rfl]
 have n0:(h.new (.cells [.int .i64 (n:Nat),ev] 2 false)).next=h.next+1:=rfl
 generalize (h.new (.cells [.int .i64 (n:Nat),ev] 2 false))=h1 at *
 have rA:ak h1 h.next 0 2=some [.int .i64 (n:Nat),ev]:=by rw[aU g0]; rfl
 refine ae (ae (bW (bt 1 (Mi1 rA) rfl (Zi1 rA) (Mi1 rA) (wD (n:=((n:Nat):Int)) (he.ext x0 (ab _))) λr h2 hq=>?_)))
 obtain⟨rfl,x2⟩:=hq
 rw[hm]
 have n2:=x2.nx
 have X2:Ext h.next h h2:=x0.trans (x2.mono om)
 have g2:h2.get h.next=some (.cells [.int .i64 (n:Nat),ev] 2 false):=by rw[x2.gt _ om]; exact g0
 have rN:ak h2 h.next 0 1=some [.int .i64 (n:Nat)]:=bd g2 rfl
 have rE:ak h2 h.next 1 1=some [ev]:=bd g2 rfl
 have e1:decide (((T.length:Nat):Int)=((n:Nat):Int))=decide (T.length=n):=by rw[decide_eq_decide]; omega
 refine bK (Mi3 tl rN e1) ?_
 by_cases q0:¬ T.length=n
 ·have c1:decide (T.length=n)=false:=aK q0
  refine cE (Z1 c1) (ae (ar (M0) ?_))
  exact bH ⟨.bool false,(by simp only[rs,rf11,am,aC,simprocAttr]<;>rfl),false,rfl,⟨(λq=>by cases q),λq=>absurd q.len q0⟩,X2⟩
 have q0:=Classical.not_not.1 q0
 have c1:decide (T.length=n)=true:=aN q0
 refine dB (Z1 c1) (bJ ?_)
 have wd:IntKind.i64.wrap (2*((E.length:Nat):Int))=((2*E.length:Nat):Int):=by rw[eL om om]; omega
 obtain⟨m,hm2⟩:∃ m,m=2*E.length:=⟨_,rfl⟩
 rw[← hm2] at wd
 have hok:∀ {x:Nat}{z:Int},okH E x z↔0≤z∧z<((m:Nat):Int)∧qj E z.toNat=((x:Nat):Int):=fun {x z}=>by rw[hm2]; exact Iff.rfl
 have mk:=mw (h:=h2) (z:=[.int .i64 0]) (e:=1) (bytes:=8) (n:=m) (by unfold aX; omega) (by unfold aX; omega)
 have x3:Ext h2.next h2 (h2.new (.cells (cJ [.int .i64 0] m) 1 false)):=Ki (ab _)
 have g3:(h2.new (.cells (cJ [.int .i64 0] m) 1 false)).get h2.next=some (.cells (il m λ_=>0) 1 false):=by rw[AH.get_new,if_pos rfl,vj]
 have n3:(h2.new (.cells (cJ [.int .i64 0] m) 1 false)).next=h2.next+1:=rfl
 refine ae (bL (λts h'=>h'=h2.new (.cells (cJ [.int .i64 0] m) 1 false)∧aL ts 1=tv∧aL ts 2=.ptr h.next 0∧aL ts 5=.sl h2.next 0 m m) (by simp only[am,aC,simprocAttr,bI,rE,el,wd,mk]) ?_)
 rintro ts h3 ⟨hh3,e1,e2,e5⟩
 rw[← hh3] at x3 g3 n3
 clear hh3 mk
 have X3:Ext h.next h h3:=X2.trans (x3.mono om)
 have g3b:h3.get h.next=some (.cells [.int .i64 (n:Nat),ev] 2 false):=by rw[x3.gt _ om]; exact g2
 obtain⟨A,hA⟩:∃ A,A=h2.next:=⟨_,rfl⟩
 rw[← hA] at g3 e5 n3
 have hAh:h.next<A:=om
 have cz:∀ i:Nat,((0:Nat):Int)=(([]:List (List Int)).flatten.count ((i:Nat):Int):Nat):=λi=>by simp
 refine ae (ku (λts h'=>aL ts 5=.sl A 0 m m∧(∀ x,x<n→∀ z∈T.getD x [],okH E x z)∧h'.get A=some (.cells (il m λi=>((T.flatten.count ((i:Nat):Int):Nat):Int)) 1 false)∧Ext h.next h h') ?_ ?_)
 ·refine ae (ar (M0) ?_)
  refine gU (α:=Unit) (N:=n) (λk _=>[(1,tv),(2,.ptr h.next 0),(5,.sl A 0 m m),(6,.int .i64 (k:Nat))])
   (λk _ h'=>(∀ x,x<k→∀ z∈T.getD x [],okH E x z)∧h'.get A=some (.cells (il m λi=>(((T.take k).flatten.count ((i:Nat):Int):Nat):Int)) 1 false)∧h'.get h.next=some (.cells [.int .i64 (n:Nat),ev] 2 false)∧Ext h.next h h'∧A<h'.next) () (H4 e1 e2 e5 @bh)
   ⟨λx hx=>absurd hx (fJ _),by rw[ff]; simpa using g3,g3b,X3,om⟩ ?_ ?_ ?_
  ·clear e1 e2 e5
   rintro k _ ts h4 hk ⟨_,_,_,X4,_⟩ ⟨e1,e2,e5,e6,-⟩
   simp only at e1 e2 e5 e6
   exact⟨_,(M5 e1 e6 tl q0 @cX),Z0,H4 e1 e2 e5 e6⟩
  ·clear e1 e2 e5
   rintro k _ ts h4 hk ⟨j1,g4,b4,X4,n4⟩ ⟨e1,e2,e5,e6,-⟩
   simp only at e1 e2 e5 e6
   have hkT:k<T.length:=om
   have w1:IntKind.i64.wrap (((k:Nat):Int)+1)=((k+1:Nat):Int):=eL om om
   have hl2:=hT2 T[k] (aR hkT)
   refine ae (ar (M0) ?_)
   refine gU (α:=Unit) (N:=T[k].length) (λj _=>[(1,tv),(2,.ptr h.next 0),(5,.sl A 0 m m),(6,.int .i64 (k:Nat)),(7,.int .i64 (j:Nat))])
    (λj _ h'=>(∀ z∈T[k].take j,okH E k z)∧h'.get A=some (.cells (il m λi=>((((T.take k).flatten++T[k].take j).count ((i:Nat):Int):Nat):Int)) 1 false)∧h'.get h.next=some (.cells [.int .i64 (n:Nat),ev] 2 false)∧Ext h.next h h'∧A<h'.next) () (H5 e1 e2 e5 e6 @bh)
    ⟨by simp,by rw[ff,du]; exact g4,b4,X4,n4⟩ ?_ ?_ ?_
   ·clear e1 e2 e5 e6
    rintro j _ ts h5 hj ⟨_,_,_,X5,_⟩ ⟨e1,e2,e5,e6,e7,-⟩
    simp only at e1 e2 e5 e6 e7
    obtain⟨tb,tp,rw_,a5,r5,i5,_⟩:=(hT.ext X5).at hkT
    have l5:=i5.len
    rw[ah] at l5
    exact⟨_,(M7 e1 e6 e7 a5 r5 l5 @cX),Z0,H5 e1 e2 e5 e6 e7⟩
   ·clear e1 e2 e5 e6
    rintro j _ ts h5 hj ⟨k1,g5,b5,X5,n5⟩ ⟨e1,e2,e5,e6,e7,-⟩
    simp only at e1 e2 e5 e6 e7
    have wj:IntKind.i64.wrap (((j:Nat):Int)+1)=((j+1:Nat):Int):=eL om om
    obtain⟨tb,tp,rw_,a5,r5,i5,_⟩:=(hT.ext X5).at hkT
    obtain⟨zb,zp,a6,r6,_⟩:=i5.at1 (i:=j) (y:=.int .i64 T[k][j]) (by rw[aw,ai hj]; rfl)
    have hzm:T[k][j]∈T.getD k []:=by rw[gT hkT]; exact aR hj
    obtain⟨z,hz⟩:∃ z,z=T[k][j]:=⟨_,rfl⟩
    have hst:T[k].take (j+1)=T[k].take j++[z]:=by rw[yq hj,hz]
    rw[← hz] at r6 hzm
    refine ae (ar (M7 e1 e6 e7 a5 r5 a6 r6) ?_)
    have bad:¬ okH E k z→¬ RwsI n E T:=λh q=>h (q.at_ k hk z hzm)
    by_cases q1:z<0
    ·have d1:decide (z<0)=true:=aN q1
     refine ae (ae (ar (M1 d1) ?_))
     refine cE (Z0) (ae (ar (M0) ?_))
     exact bH ⟨.bool false,(by simp only[rs,rf11,am,aC,simprocAttr]<;>rfl),false,rfl,⟨(λq=>by cases q),λq=>absurd q (bad λh=>by have:=h.1; omega)⟩,X5⟩
    have d1:decide (z<0)=false:=aK q1
    by_cases q2:((m:Nat):Int)≤z
    ·have d2:decide (((m:Nat):Int)≤z)=true:=aN q2
     refine ae (ae (ar (M3 d1 e5 d2) ?_))
     refine cE (Z0) (ae (ar (M0) ?_))
     exact bH ⟨.bool false,(by simp only[rs,rf11,am,aC,simprocAttr]<;>rfl),false,rfl,⟨(λq=>by cases q),λq=>absurd q (bad λh=>by have:=(hok.1 h).2.1; omega)⟩,X5⟩
    have d2:decide (((m:Nat):Int)≤z)=false:=aK q2
    obtain⟨d,rfl⟩:∃ d:Nat,z=((d:Nat):Int):=⟨z.toNat,om⟩
    have hdm:d<m:=om
    have rA5:ak h5 h.next 0 2=some [.int .i64 (n:Nat),ev]:=by rw[aU b5]; rfl
    refine ae (ae (bW (bt 11 (M5 d1 e2 e5 d2 rA5) rfl (Z5 d1 e2 e5 d2 rA5) (M5 d1 e2 e5 d2 rA5) (Ad (n:=((n:Nat):Int)) (he.ext X5 (ab _)) om om) λr h6 hq=>?_)))
    obtain⟨rfl,x6⟩:=hq
    have X6:Ext h.next h h6:=X5.trans (x6.mono X5.nx)
    by_cases q3:qj E d=((k:Nat):Int)
    ·have hokz:okH E k ((d:Nat):Int):=hok.2 ⟨om,om,by rw[di]; exact q3⟩
     have d3:decide (qj E d=((k:Nat):Int))=true:=aN q3
     refine bK (M2 e6 d3) ?_
     refine dB (Z0) (bJ ?_)
     have g6:h6.get A=some (.cells (il m λi=>((((T.take k).flatten++T[k].take j).count ((i:Nat):Int):Nat):Int)) 1 false):=by rw[x6.gt _ n5]; exact g5
     have b6:h6.get h.next=some (.cells [.int .i64 (n:Nat),ev] 2 false):=by rw[x6.gt _ om]; exact b5
     have id:=dm hdm
     have rd:ak h6 A d 1=some [.int .i64 ((((T.take k).flatten++T[k].take j).count ((d:Nat):Int):Nat):Int)]:=bd g6 (kO hdm)
     have hc0:=xQ om j1 q3
     have hcj:((T.take k).flatten++T[k].take j).count ((d:Nat):Int)≤j:=by
      rw[oT,hc0]
      have:=List.count_le_length (a:=((d:Nat):Int)) (l:=T[k].take j)
      rw[bF] at this
      omega
     have wc:IntKind.i64.wrap ((((T.take k).flatten++T[k].take j).count ((d:Nat):Int):Nat)+1:Int)=((((T.take k).flatten++T[k].take j).count ((d:Nat):Int)+1:Nat):Int):=eL om om
     have w6:=fV (v:=.int .i64 ((((T.take k).flatten++T[k].take j).count ((d:Nat):Int)+1:Nat):Int)) g6 (i:=d) (by rw[px]; exact hdm)
     have u6:=Kk (o:=.cells ((il m λi=>((((T.take k).flatten++T[k].take j).count ((i:Nat):Int):Nat):Int)).set d (.int .i64 ((((T.take k).flatten++T[k].take j).count ((d:Nat):Int)+1:Nat):Int))) 1 false) g6
     have eqc:(il m λi=>((((T.take k).flatten++T[k].take j).count ((i:Nat):Int):Nat):Int)).set d (.int .i64 ((((T.take k).flatten++T[k].take j).count ((d:Nat):Int)+1:Nat):Int))=il m λi=>((((T.take k).flatten++T[k].take (j+1)).count ((i:Nat):Int):Nat):Int):=by
      rw[EW]
      refine xy λi _=>?_
      rw[hst,← bP,oT (l₁:=(T.take k).flatten++T[k].take j)]
      by_cases e:i=d
      ·subst e
       rw[if_pos rfl]
       simp
      ·rw[if_neg e,List.count_singleton]
       have:(((d:Nat):Int)==((i:Nat):Int))=false:=by rw[beq_eq_false_iff_ne]; omega
       rw[this]
       simp
     rw[eqc] at w6 u6
     refine ar (M6 e5 id @aM rd wc w6) ?_
     exact⟨(),⟨λz hz=>by
      rw[hst,aA,cB] at hz
      rcases hz with hz|rfl
      ·exact k1 z hz
      ·exact hokz,u6.get,by rw[u6.ne om]; exact b6,X6.trans (u6.ext om),by rw[u6.nx]; have:=x6.nx; omega⟩,_,(M2 e7 wj),H4 e1 e2 e5 e6⟩
    ·have d3:decide (qj E d=((k:Nat):Int))=false:=aK q3
     refine bK (M2 e6 d3) ?_
     refine cE (Z0) (ae (ar (M0) ?_))
     exact bH ⟨.bool false,(by simp only[rs,rf11,am,aC,simprocAttr]<;>rfl),false,rfl,⟨(λq=>by cases q),λq=>absurd q (bad λh=>q3 (by have:=h.2.2; rwa [di] at this))⟩,X6⟩
   ·clear e1 e2 e5 e6
    rintro _ ts h5 ⟨k1,g5,b5,X5,n5⟩ ⟨e1,e2,e5,e6,e7,-⟩
    simp only at e1 e2 e5 e6
    rw[dU] at k1 g5
    refine⟨(),⟨λx hx=>?_,by rw[Bf hkT]; exact g5,b5,X5,n5⟩,_,(M2 e6 w1),H3 e1 e2 e5⟩
    rcases bO x k with q|q
    ·exact j1 x q
    ·obtain rfl:x=k:=om
     rw[gT hkT]; exact k1
  ·clear e1 e2 e5
   rintro _ ts h4 ⟨j1,g4,b4,X4,n4⟩ ⟨e1,e2,e5,e6,-⟩
   rw[← q0,dU] at g4
   exact⟨e5,j1,g4,X4⟩
 clear e1 e2 e5
 rintro ts h4 ⟨e5,j1,g4,X4⟩
 refine ae (ae (ar (M0) ?_))
 refine gU (α:=Unit) (N:=m) (λi _=>[(5,.sl A 0 m m),(9,.int .i64 (i:Nat))])
  (λi _ h'=>(∀ j,j<i→T.flatten.count ((j:Nat):Int)=1)∧h'.get A=some (.cells (il m λi=>((T.flatten.count ((i:Nat):Int):Nat):Int)) 1 false)∧Ext h.next h h') () (H2 e5 @bh)
  ⟨λj hj=>absurd hj (fJ _),g4,X4⟩ ?_ ?_ ?_
 ·clear e5
  rintro i _ ts h5 hi _ ⟨e5,e9,-⟩
  simp only at e5 e9
  exact⟨_,(M3 e5 e9 @cX),Z0,H2 e5 e9⟩
 ·clear e5
  rintro i _ ts h5 hi ⟨k1,g5,X5⟩ ⟨e5,e9,-⟩
  simp only at e5 e9
  have w1:IntKind.i64.wrap (((i:Nat):Int)+1)=((i+1:Nat):Int):=eL om om
  have id:=dm hi
  have rd:ak h5 A i 1=some [.int .i64 ((T.flatten.count ((i:Nat):Int):Nat):Int)]:=bd g5 (kO hi)
  by_cases q:T.flatten.count ((i:Nat):Int)=1
  ·have d1:decide (((T.flatten.count ((i:Nat):Int):Nat):Int)=1)=true:=aN om
   refine ae (ar (by simp only[am,aC,simprocAttr,e5,e9,id,bM,aM,rd,d1]<;>rfl) ?_)
   refine dB (Z0) (bJ ?_)
   refine⟨(),⟨λj hj=>?_,g5,X5⟩,_,(M2 e9 w1),H1 e5⟩
   rcases bO j i with z|z
   ·exact k1 j z
   ·obtain rfl:j=i:=om
    exact q
  ·have d1:decide (((T.flatten.count ((i:Nat):Int):Nat):Int)=1)=false:=aK om
   refine ae (ar (by simp only[am,aC,simprocAttr,e5,e9,id,bM,aM,rd,d1]<;>rfl) ?_)
   refine cE (Z0) (ae (ar (M0) ?_))
   exact bH ⟨.bool false,(by simp only[rs,rf11,am,aC,simprocAttr]<;>rfl),false,rfl,⟨(λq=>by cases q),λp=>absurd (p.one i om) q⟩,X5⟩
 ·clear e5
  rintro _ ts h5 ⟨k1,g5,X5⟩ ⟨e5,e9,-⟩
  refine ae (ar (M0) ?_)
  exact bH ⟨.bool true,(by simp only[rs,rf11,am,aC,simprocAttr]<;>rfl),true,rfl,⟨λ_=>⟨q0,j1,λi hi=>k1 i om⟩,λ_=>rfl⟩,X5⟩
end Go.Proofs.Ytpeemonpdlifbaa
namespace Go.Pla
section
open Go.Blk
def ixo:List Nat→Nat→Nat
 | [],_=>0
 | x::l,d=>if x=d then 0 else ixo l d+1
theorem rP:∀ {l:List Nat}{d:Nat},d∈l→ixo l d<l.length∧l.getD (ixo l d) 0=d
 | [],d,h=>by simp at h
 | x::l,d,h=>by
   unfold ixo
   by_cases e:x=d
   ·rw[if_pos e]; subst e; simp
   ·rw[if_neg e]
    have:=rP (l:=l) (d:=d) (by
     rcases aq.1 h with h|h
     ·exact absurd h.symm e
     ·exact h)
    exact⟨by rw[au]; omega,by rw[List.getD_cons_succ]; exact this.2⟩
theorem ixo_get:∀ {l:List Nat}{i:Nat},l.Nodup→i<l.length→ixo l (l.getD i 0)=i
 | x::l,0,_,_=>by simp [ixo]
 | x::l,i+1,nd,hi=>by
   obtain⟨n1,n2⟩:=aS.1 nd
   have hi':i<l.length:=by simpa using hi
   rw[List.getD_cons_succ]
   unfold ixo
   have hm:l.getD i 0∈l:=by rw[aG,ai hi']; exact aR hi'
   rw[if_neg (λ(e:x=l.getD i 0)=>n1 (e▸hm)),ixo_get n2 hi']
theorem xD {l:List Nat}{i:Nat} (h:i<l.length):l.getD i 0∈l:=by
 rw[aG,ai h]; exact aR h
def nxl (l:List Nat) (d:Nat):Nat:=l.getD ((ixo l d+1) % l.length) 0
theorem qA {l:List Nat}{d:Nat} (h:d∈l):nxl l d∈l:=xD (gu _ (sB h))
theorem HC {l:List Nat} (nd:l.Nodup) {a b:Nat} (ha:a∈l) (hb:b∈l) (h:nxl l a=nxl l b):a=b:=by
 obtain⟨a1,a2⟩:=rP ha
 obtain⟨b1,b2⟩:=rP hb
 have hp:=sB ha
 have:=congrArg (ixo l) h
 unfold nxl at this
 rw[ixo_get nd (gu _ hp),ixo_get nd (gu _ hp)] at this
 have e:ixo l a=ixo l b:=by
  rcases bO (ixo l a+1) l.length with q1|q1<;>rcases bO (ixo l b+1) l.length with q2|q2
  ·rw[cU q1,cU q2] at this; omega
  ·rw[cU q1,show ixo l b+1=l.length by omega,Db] at this; omega
  ·rw[cU q2,show ixo l a+1=l.length by omega,Db] at this; omega
  ·omega
 rw[← a2,← b2,e]
theorem EM {l:List Nat} (nd:l.Nodup) {f:Nat→Nat} (hf:∀ d∈l,f d=nxl l d) {i:Nat} (hi:i<l.length):∀ k,it f k (l.getD i 0)=l.getD ((i+k) % l.length) 0
 | 0=>by rw[cS,cU hi]; rfl
 | k+1=>by
   have hlt:(i+k) % l.length<l.length:=gu _ om
   show f (it f k _)=_
   rw[EM nd hf hi k,hf _ (xD hlt)]
   unfold nxl
   rw[ixo_get nd hlt,← gw,Nat.mod_add_mod]
theorem JB {l:List Nat} (nd:l.Nodup) {f:Nat→Nat} (hf:∀ d∈l,f d=nxl l d) {a b:Nat} (ha:a∈l) (hb:b∈l):Ob f a b:=by
 obtain⟨a1,a2⟩:=rP ha
 obtain⟨b1,b2⟩:=rP hb
 refine⟨ixo l b+l.length-ixo l a,?_⟩
 have:=EM nd hf a1 (ixo l b+l.length-ixo l a)
 rw[a2,show ixo l a+(ixo l b+l.length-ixo l a)=ixo l b+l.length by omega,Dc,cU b1,b2] at this
 exact this
structure Rws (g:Gr) (T:List (List Nat)):Prop where
 len:T.length=g.n
 at_:∀ x,x<g.n→∀ d∈T.getD x [],d<2*g.m∧en g d=x
 nd:∀ x,x<g.n→(T.getD x []).Nodup
 all:∀ d,d<2*g.m→d∈T.getD (en g d) []
def rnx (g:Gr) (T:List (List Nat)) (d:Nat):Nat:=nxl (T.getD (en g d) []) d
variable {g:Gr}{T:List (List Nat)}
theorem en_lt {d:Nat} (hd:d<2*g.m):en g d<g.n:=by
 have:=g.ok (d / 2) om
 unfold en; split
 ·exact this.1
 ·exact this.2.1
theorem Rws.rotn (R:Rws g T):Rotn g (rnx g T) where
 lt:=λd hd=>(R.at_ _ (en_lt hd) _ (qA (R.all d hd))).1
 en:=λd hd=>(R.at_ _ (en_lt hd) _ (qA (R.all d hd))).2
 inj:=λa b ha hb h=>by
  have e1:=(R.at_ _ (en_lt ha) _ (qA (R.all a ha))).2
  have e2:=(R.at_ _ (en_lt hb) _ (qA (R.all b hb))).2
  have e:en g a=en g b:=by
   unfold rnx at h
   rw[← e1,← e2,h]
  unfold rnx at h
  rw[e] at h
  exact HC (R.nd _ (en_lt hb)) (e▸R.all a ha) (R.all b hb) h
 one:=λa b ha hb e=>JB (l:=T.getD (en g a) []) (R.nd _ (en_lt ha)) (λd hd=>by
  have:=(R.at_ _ (en_lt ha) d hd).2
  unfold rnx; rw[this]) (R.all a ha) (e▸R.all b hb)
open Classical in
theorem AM {e:Nat→Nat}{n:Nat}:∀ {N:Nat},(∀ d,d<N→e d<n)→cls N (λa b=>e a=e b)=(List.range n).countP λv=>decide (∃ d,d<N∧e d=v)
 | 0,_=>by
   unfold cls
   rw[List.range_zero,mM]
   refine (List.countP_eq_zero.2 λv _=>?_).symm
   rw[aH]
   rintro⟨d,h,_⟩; omega
 | N+1,h=>by
   have ih:=AM (e:=e) (n:=n) (N:=N) λd hd=>h d om
   have hs:cls (N+1) (λa b=>e a=e b)=cls N (λa b=>e a=e b)+(if ∀ y,y<N→¬ e y=e N then 1 else 0):=by
    unfold cls
    rw[bS,nW]
    simp only[cG,mM,bM]
    congr 1
    by_cases q:∀ y,y<N→¬ e y=e N
    ·simp only[aH]
    ·simp only[aH]
   rw[hs,ih]
   by_cases q:∀ y,y<N→¬ e y=e N
   ·rw[if_pos q]
    refine (pD (c:=e N) bp (aF.2 (h N om)) (aN ⟨N,om,rfl⟩) λv _=>?_).symm
    rw[de,aO,aH,aH,dF,beq_eq_false_iff_ne]
    constructor
    ·rintro⟨d,h1,h2⟩
     exact⟨⟨d,om,h2⟩,λe1=>q d h1 (by rw[h2,e1])⟩
    ·rintro⟨⟨d,h1,h2⟩,hne⟩
     refine⟨d,?_,h2⟩
     rcases bO d N with z|z
     ·exact z
     ·obtain rfl:d=N:=om
      exact absurd h2.symm hne
   ·rw[if_neg q,cS]
    obtain⟨y,hy,he⟩:∃ y,y<N∧e y=e N:=Classical.byContradiction λhno=>q λy hy he=>hno ⟨y,hy,he⟩
    refine gp λv _=>?_
    rw[aH,aH]
    constructor
    ·rintro⟨d,h1,h2⟩; exact⟨d,om,h2⟩
    ·rintro⟨d,h1,h2⟩
     rcases bO d N with z|z
     ·exact⟨d,z,h2⟩
     ·obtain rfl:d=N:=om
      exact⟨y,hy,he.trans h2⟩
def emp (T:List (List Nat)):Nat:=T.countP λl=>l.isEmpty
theorem countP_ix {α:Type}{p:α→Bool}{z:α}:∀ {l:List α},l.countP p=(List.range l.length).countP λi=>p (l.getD i z)
 | []=>rfl
 | x::l=>by
   rw[au,List.range_succ_eq_map,cG,cG,countP_ix (l:=l) (z:=z),List.countP_map]
   rfl
theorem Rws.iso (R:Rws g T):cls (2*g.m) (Ob (rnx g T))+emp T=g.n:=by
 have hR:=R.rotn
 have h1:cls (2*g.m) (Ob (rnx g T))=cls (2*g.m) (λa b=>en g a=en g b):=jH λx y hx hy =>
  ⟨λh=>Ob.keep (P:=λz=>en g x=en g z) hR.lt (λd hd q=>by rw[hR.en d hd]; exact q) hx h rfl,λh=>hR.one x y hx hy h⟩
 rw[h1,AM (n:=g.n) λd hd=>en_lt hd]
 unfold emp
 rw[countP_ix (z:=[]),R.len]
 have:=List.length_eq_countP_add_countP (l:=List.range g.n) (λx=>(T.getD x []).isEmpty)
 rw[bR] at this
 refine Eq.trans (?_:_=(List.range g.n).countP (λa=>decide ¬(T.getD a []).isEmpty=true)+_) (by rw[Nat.add_comm]; exact this.symm)
 congr 1
 refine gp λv hv=>?_
 have hv:=aF.1 hv
 simp only[aH,gM]
 constructor
 ·rintro⟨d,hd,rfl⟩ h
  have:=R.all d hd
  rw[h] at this
  cases this
 ·intro h
  obtain⟨d,hd⟩:=oO _ h
  exact⟨d,R.at_ v hv d hd⟩
theorem rc_comp {u v:Nat} (hu:u<g.n):RC g.m g.tl g.hd (λ_=>true) u v↔v<g.n∧comp g g.m u v:=by
 have E:=comp_eqv (g:=g) (k:=g.m) (ab _)
 constructor
 ·intro h
  induction h with
  | refl=>exact⟨hu,E.rf _ hu⟩
  | one _ hi _ hv ih =>
    have hok:=g.ok _ hi
    exact⟨hok.2.1,E.tr _ _ _ hu ih.1 hok.2.1 ih.2 (hv▸kU (ab _) hi)⟩
  | two _ hi _ hv ih =>
    have hok:=g.ok _ hi
    exact⟨hok.1,E.tr _ _ _ hu ih.1 hok.1 ih.2 (hv▸E.sm _ _ hok.1 hok.2.1 (kU (ab _) hi))⟩
 ·rintro⟨hv,h⟩
  have tr:∀ {x y z:Nat},RC g.m g.tl g.hd (λ_=>true) x y→RC g.m g.tl g.hd (λ_=>true) y z→RC g.m g.tl g.hd (λ_=>true) x z:=fun {x y z} h1 h2=>by
   induction h2 with
   | refl=>exact h1
   | one _ hi hc hv ih=>exact .one ih hi hc hv
   | two _ hi hc hv ih=>exact .two ih hi hc hv
  have key:∀ {k:Nat},k≤g.m→∀ {u v:Nat},comp g k u v→RC g.m g.tl g.hd (λ_=>true) u v:=fun {k}=>by
   induction k with
   | zero=>intro _ u v h; rw[show u=v from h]; exact .refl
   | succ k ih =>
     intro hk u v h
     rcases h with h|⟨h1,h2⟩|⟨h1,h2⟩
     ·exact ih om h
     ·exact tr (ih om h1) (tr (.one .refl om rfl rfl) (ih om h2))
     ·exact tr (ih om h1) (tr (.two .refl om rfl rfl) (ih om h2))
  exact key (ab _) h
theorem Rws.euler (R:Rws g T):∃ j:Nat,2*(cls g.n (comp g g.m):Int)+g.m-g.n-(cls (2*g.m) (Ob (ph (rnx g T) g.m))+emp T)=2*(j:Int)∧(j=0↔Cuts g (rnx g T) g.m) :=
 Go.Pla.euler R.rotn R.iso (ab _)
theorem Rws.dual (R:Rws g T) (h:Cuts g (rnx g T) g.m):∃ (Φ:Type) (l r:Nat→Φ),Dual g (List.range g.m) l r:=CF R.rotn h
end
end Go.Pla
namespace Go.Proofs.Ytpeemonpdlifbaa
open Go.Am
open Go.Pla (Rws en fl)
def mq (T:List (List Int)):List (List Nat):=T.map λl=>l.map Int.toNat
theorem mQ {T:List (List Int)}{x:Nat}:(mq T).getD x []=(T.getD x []).map Int.toNat:=by
 unfold mq
 rw[aG,aw,aG]
 cases T[x]?<;>rfl
section
variable {n:Nat}{E:List (Int×Int)}{hE:InG n E}{hL:∀ i,i<E.length→tlE E i≠hdE E i}{T:List (List Int)}
theorem vA {d:Nat} (hd:d<2*E.length):qj E d=((en (grE n E hE hL) d:Nat):Int):=by
 have hi:d / 2<E.length:=om
 have e:=(hE _ hi).1
 have e2:E.getD (d / 2) (0,0)=E[d / 2]:=by rw[aG,ai hi]; rfl
 unfold qj en
 rw[e2,e]
 split<;>rfl
theorem ou {x:Nat}{z:Int}:okH E x z↔∃ d:Nat,z=((d:Nat):Int)∧d<2*E.length∧en (grE n E hE hL) d=x:=by
 constructor
 ·rintro⟨h1,h2,h3⟩
  refine⟨z.toNat,om,om,?_⟩
  rw[vA (hE:=hE) (hL:=hL) om] at h3
  omega
 ·rintro⟨d,rfl,h1,h2⟩
  exact⟨om,om,by rw[di,vA (hE:=hE) (hL:=hL) h1,h2]⟩
theorem qT (R:RwsI n E T):Rws (grE n E hE hL) (mq T) where
 len:=by unfold mq; rw[ah]; exact R.len
 at_:=λx hx d hd=>by
  rw[mQ] at hd
  obtain⟨z,hz,rfl⟩:=bE.1 hd
  obtain⟨d,rfl,h1,h2⟩:=(ou (hE:=hE) (hL:=hL)).1 (R.at_ x hx z hz)
  rw[di]
  exact⟨h1,h2⟩
 nd:=λx hx=>by
  rw[mQ,List.Nodup,dh]
  have hx:x<n:=hx
  have hT:T.getD x []∈T:=by
   have:x<T.length:=by have:=R.len; omega
   rw[gT this]; exact aR this
  have nd:(T.getD x []).Nodup:=by
   rw[List.nodup_iff_count]
   intro z
   by_cases hz:z∈T.getD x []
   ·obtain⟨d,rfl,h1,_⟩:=(ou (hE:=hE) (hL:=hL)).1 (R.at_ x hx z hz)
    rw[← R.one d h1]
    exact (List.sublist_flatten_of_mem hT).count_le _
   ·rw[List.count_eq_zero.2 hz]; omega
  refine List.Pairwise.imp_of_mem (fun {a b} ha hb hab=>?_) nd
  obtain⟨d,rfl,_⟩:=(ou (hE:=hE) (hL:=hL)).1 (R.at_ x hx a ha)
  obtain⟨d',rfl,_⟩:=(ou (hE:=hE) (hL:=hL)).1 (R.at_ x hx b hb)
  rw[di,di]
  exact λe=>hab (by rw[e])
 all:=λd hd=>by
  have hd:d<2*E.length:=hd
  have h1:=R.one d hd
  have hm:((d:Nat):Int)∈T.flatten:=List.count_pos_iff.1 om
  obtain⟨l,hl,hm⟩:=eA.1 hm
  obtain⟨x,hx,rfl⟩:=eT.1 hl
  have hx':x<n:=by have:=R.len; omega
  obtain⟨d',e,_,h2⟩:=(ou (hE:=hE) (hL:=hL)).1 (R.at_ x hx' _ (by rw[gT hx]; exact hm))
  obtain rfl:d=d':=om
  rw[mQ,h2,gT hx]
  exact bE.2 ⟨_,hm,by simp⟩
end
end Go.Proofs.Ytpeemonpdlifbaa
