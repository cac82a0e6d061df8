/- planar.Embed. -/
import Derived.Test.YtpeemonpdlifbaaGreatVTBD
import Derived.Test.YtpeemonpdlifbaaGreatVTBE
set_option linter.all false
namespace Go.Proofs.YtpeemonpdlifbaaGreat
open Go.Am
open Go.Pla (at_ jn On Rot Pln Bond Link Part Plc Hg Bld Dual Thr Tri Cc it orb Back)
open Go.Blk (Lst canon IsBlock)
theorem rJ {n:Nat}{E:List (Int×Int)}{hE:InG n E}{hL:∀ i,i<E.length→tlE E i≠hdE E i} (hp:(E.map mnx).Nodup):Pln (grE n E hE hL) (List.range E.length) where
 nd:=aQ
 lt:=λe he=>ao.1 he
 one:=λe he k hk x y h1 h2=>by
  have he:e<E.length:=ao.1 he
  have hk:k<E.length:=ao.1 hk
  rw[Go.Pla.jn_iff] at h1 h2
  have h1:(tlE E e=x∧hdE E e=y)∨(tlE E e=y∧hdE E e=x):=h1
  have h2:(tlE E k=x∧hdE E k=y)∨(tlE E k=y∧hdE E k=x):=h2
  obtain⟨a1,_,_⟩:=hE e he
  obtain⟨b1,_,_⟩:=hE k hk
  have:mnx E[e]=mnx E[k]:=by
   rw[vS,a1,b1]
   simp only[aq]
   omega
  have h3:(E.map mnx)[e]?=(E.map mnx)[k]?:=by
   rw[aG,aG,ah he,ah hk,aH,aH,this]
  exact (List.getElem?_inj (by rw[ak]; exact he) hp).1 h3
theorem AN {g:Go.Blk.Gr}{A B:List Nat} (p:Pln g A) (nd:B.Nodup) (hs:∀ e∈B,e∈A):Pln g B where
 nd:=nd
 lt:=λe he=>p.lt e (hs e he)
 one:=λe he k hk=>p.one e (hs e he) k (hs k hk)
open Classical in
noncomputable def bk (nx:Nat→Nat) (d:Nat):Nat:=if h:∃ r,Back nx d r then Classical.choose h else 0
theorem BG {nx:Nat→Nat}{N d:Nat} (hc:∀ d,d<N→nx d<N) (hi:∀ a b,a<N→b<N→nx a=nx b→a=b) (hd:d<N):Back nx d (bk nx d)∧bk nx d≤N:=by
 obtain⟨r,hr,hb⟩:=Go.Pla.back_of hc hi hd
 have h:∃ r,Back nx d r:=⟨r,hb⟩
 have hs:=Classical.choose_spec h
 have e:bk nx d=Classical.choose h:=by unfold bk; rw[dif_pos h]
 rw[e]
 refine⟨hs,?_⟩
 rcases bU r (Classical.choose h) with q|q
 ·exact absurd hb.2.1 (hs.2.2 r hb.1 q)
 ·omega
noncomputable def oP (nx:Nat→Nat) (out:List (List Nat)) (x d:Nat):List (List Nat):=if d∈out.getD x [] then out else out.set x (out.getD x []++orb nx d (bk nx d))
noncomputable def kZ (nx:Nat→Nat) (E:List (Int×Int)) (n k:Nat):List (List Nat):=(List.range k).foldl (λout i=>oP nx (oP nx out (tlE E i) (2*i)) (hdE E i) (2*i+1)) (List.replicate n [])
theorem ing_of {n:Nat}{E:List (Int×Int)} (hm:gG (n:Nat) E=true):InG n E:=λi hi=>by
 obtain⟨m1,m2,m3,m4⟩:=jQ hm
 obtain⟨a,b,e,ha,hb⟩:=vO (cj.1 m4 _ (aR hi))
 have hg:E.getD i (0,0)=E[i]:=by rw[ai,ah hi]; rfl
 unfold tlE hdE
 rw[hg,e]
 simp only[cB]
 exact⟨trivial,ha,hb⟩
theorem Be {n:Nat}{E:List (Int×Int)} (hm:gG (n:Nat) E=true) (hl:∀ e∈E,e.1≠e.2):∀ i,i<E.length→tlE E i≠hdE E i:=λi hi=>by
 obtain⟨q1,q2,q3⟩:=ing_of hm i hi
 have:=hl _ (aR hi)
 rw[q1] at this
 simp only at this
 omega
theorem pm {n:Int}{E:List (Int×Int)} (h:jY n E):∃ k:Nat,n=((k:Nat):Int):=by
 have:=h.1
 unfold gG at this
 simp only[aM,aA] at this
 exact⟨n.toNat,om⟩
theorem DG {n:Nat}{E:List (Int×Int)}{hE:InG n E}{hL:∀ i,i<E.length→tlE E i≠hdE E i}{b:List Nat}{l:List (Int×AV)} (t:BlkT (grE n E hE hL) E b l) (p:Pln (grE n E hE hL) b):∃ (Φ:Type) (l r:Nat→Φ),Dual (grE n E hE hL) b l r:=by
 rcases t with ⟨e,rfl,_,_⟩|⟨H,V,F,I,hall,_⟩
 ·refine⟨Unit,λ_=>(),λ_=>(),λS v=>by simp [Go.Pla.par],λX hX=>⟨λ_=>false,λk hk=>?_⟩⟩
  have:k=e:=by simpa using hk
  subst this
  have h1:=hX ((grE n E hE hL).tl k)
  have h2:at_ (grE n E hE hL) k ((grE n E hE hL).tl k)=true:=(Go.Pla.at_inc (p.lt k (by simp))).2 ⟨p.lt k (by simp),.inl rfl⟩
  simpa [Go.Pla.par,h2] using h1
 ·obtain⟨l,r,d⟩:=Go.Pla.lay_dual I.lay hall p.nd p
  exact⟨Nat,l,r,d⟩
theorem mM {nx:Nat→Nat}{out:List (List Nat)}{x d:Nat}:(oP nx out x d).length=out.length:=by
 unfold oP; split
 ·rfl
 ·rw[bE]
theorem pD {nx:Nat→Nat}{E:List (Int×Int)}{n k:Nat}:kZ nx E n (k+1)=oP nx (oP nx (kZ nx E n k) (tlE E k) (2*k)) (hdE E k) (2*k+1):=by
 unfold kZ; rw[bD,cS]; rfl
theorem oQ {nx:Nat→Nat}{E:List (Int×Int)}{n:Nat}:∀ {k:Nat},(kZ nx E n k).length=n
 | 0=>by simp [kZ]
 | k+1=>by rw[pD,mM,mM,oQ]
theorem Jr {nx:Nat→Nat}{N c:Nat}{out:List (List Nat)}{x d:Nat} (hc:∀ d,d<N→nx d<N) (hi:∀ a b,a<N→b<N→nx a=nx b→a=b) (hd:d<N) (h:∀ x,(out.getD x []).length≤c):∀ y,((oP nx out x d).getD y []).length≤c+N:=λy=>by
 unfold oP
 split
 ·have:=h y; omega
 ·rw[ai,cZ]
  split
  ·split
   ·rw[fC,aI,Go.Pla.orb_len]
    have:=h x
    have:=(BG hc hi hd).2
    omega
   ·simp
  ·have:=h y
   rw[ai] at this
   omega
abbrev xN (rows:List (List Nat)):List (List Int):=rows.map λl=>l.map λn=>((n:Nat):Int)
theorem Rw.setN {h h':AH}{lo:Nat}{vs:List AV}{out:List (List Nat)}{x:Nat}{v v':AV}{xs':List Nat} (R:Rw h lo vs (xN out)) (hx:x<out.length) (hv:vs[x]?=some v) (i':IsSl h' 1 lo v' (nC xs')) (fr:∀ c,c<h.next→(∀ b n,v=.sl b 0 n n→c≠b)→h'.get c=h.get c) (nw:∀ b n,v'=.sl b 0 n n→h.next≤b):Rw h' lo (vs.set x v') (xN (out.set x xs')):=by
 have hxv:x<vs.length:=by rw[R.1]; simpa [xN] using hx
 refine⟨by rw[bE,R.1]; simp [xN],λi w ys e1 e2=>?_,λi j b n b' n' hij e1 e2=>?_⟩
 ·by_cases hix:i=x
  ·subst hix
   rw[cR hxv] at e1
   simp only[xN,aG] at e2
   rw[cR hx] at e2
   simp only[aa,aH] at e1 e2
   subst e1 e2
   exact i'
  ·rw[cV (Ne.symm hix)] at e1
   simp only[xN,aG] at e2
   rw[cV (Ne.symm hix)] at e2
   have:=R.2.1 i w ys e1 (by simp only[xN,aG]; exact e2)
   refine this.cong λb n e hb=>fr b (this.lt e) λb' n' e'=>?_
   exact R.2.2 i x b n b' n' hix (by rw[e1,e]) (by rw[hv,e'])
 ·by_cases hix:i=x
  ·subst hix
   rw[cR hxv] at e1
   rw[cV hij] at e2
   have h1:=nw b n (by simpa using e1)
   have h2:=(R.lt e2).1
   omega
  ·rw[cV (Ne.symm hix)] at e1
   by_cases hjx:j=x
   ·subst hjx
    rw[cR hxv] at e2
    have h1:=nw b' n' (by simpa using e2)
    have h2:=(R.lt e1).1
    omega
   ·rw[cV (Ne.symm hjx)] at e2
    exact R.2.2 i j b n b' n' hij e1 e2
structure EmbI (n:Nat) (E:List (Int×Int)) (hE:InG n E) (hL:∀ i,i<E.length→tlE E i≠hdE E i) (rows:List (List Nat)):Prop where
 dual:∃ (Φ:Type) (l r:Nat→Φ),Dual (grE n E hE hL) (List.range E.length) l r
 ex:∃ (lm:List (Int×AV)) (nx:Nat→Nat),(∀ l,Lst (grE n E hE hL) l→∀ b∈canon E.length l,BlkT (grE n E hE hL) E b lm)∧(∀ d,d<2*E.length→nx d<2*E.length)∧(∀ d,d<2*E.length→lkG lm ((d:Nat):Int)=some (.int .i64 (nx d:Nat)))∧(∀ a b,a<2*E.length→b<2*E.length→nx a=nx b→a=b)∧(∀ d,d<2*E.length→jw E (nx d)=jw E d)∧rows=kZ nx E n E.length
set_option maxHeartbeats 8000000 in
theorem tW {h:AH}{n:Int}{ev:AV}{E:List (Int×Int)} (he:SlE h ev E) (hxl:E.length<2 ^ 40) :
 C prg 6 [.agg [.int .i64 n,ev]] h λr h'=>Ext h.next h h'∧((r=.tup [.nils,.bool false]∧(jY n E→∀ hE hL,¬ ∃ (Φ:Type) (l r:Nat→Φ),Dual (grE n.toNat E hE hL) (List.range E.length) l r))∨(jY n E∧∃ ob vs rows,r=.tup [.sl ob 0 n.toNat n.toNat,.bool true]∧h.next≤ob∧h'.get ob=some (.cells vs 1 false)∧vs.length=n.toNat∧Rw h' (ob+1) vs (xN rows)∧∀ hE hL,EmbI n.toNat E hE hL rows)):=by
 obtain⟨ec,eo⟩:=he.cells
 have el:=he.len
 rw[ak] at el
 refine LB pf6 ?_
 refine aj (aB (Mi0) ?_)
 have x0:Ext h.next h (h.new (.cells [.int .i64 n,ev] 2 false)):=Ly (ae _)
 have g0:(h.new (.cells [.int .i64 n,ev] 2 false)).get h.next=some (.cells [.int .i64 n,ev] 2 false):=by rw[AH.get_new,if_pos rfl]
 have n0:(h.new (.cells [.int .i64 n,ev] 2 false)).next=h.next+1:=rfl
 generalize (h.new (.cells [.int .i64 n,ev] 2 false))=h1 at *
 have rA:ar h1 h.next 0 2=some [.int .i64 n,ev]:=by rw[bg g0]; rfl
 refine aj (aj (bO (bt 1 (Mi1 rA) rfl (Zi1 rA) (Mi1 rA) (Cy (he.ext x0 (ae _)) hxl) λr h2 hq=>?_)))
 obtain⟨b,rfl,hb,x2⟩:=hq
 have X2:Ext h.next h h2:=x0.trans (x2.mono om)
 refine bI (M0) ?_
 cases hbv:b with
 | false =>
   refine cX (by simp only[am,aF,simprocAttr,hbv,bQ]) ?_
   refine aj (aB (M0) ?_)
   refine bG ⟨.tup [.nils,.bool false],(by simp only[rs,rf6,am,aF,simprocAttr]<;>rfl),X2,.inl ⟨rfl,λhp=>?_⟩⟩
   rw[hbv] at hb
   exact absurd (hb.2 hp) (by simp)
 | true =>
 rw[hbv] at hb
 have hP:=hb.1 rfl
 clear hb
 obtain⟨k,rfl⟩:=pm hP
 refine dL (Z2 hbv @cr) (bK ?_)
 have hE:=ing_of hP.1
 have hL:=Be hP.1 hP.2.1
 obtain⟨m1,m2,m3,m4⟩:=jQ hP.1
 have hW:Pln (grE k E hE hL) (List.range E.length):=rJ hP.2.2
 have n2:=x2.nx
 have g2:h2.get h.next=some (.cells [.int .i64 (k:Nat),ev] 2 false):=by rw[x2.gt _ om]; exact g0
 refine aj (bT (λts h'=>h'=h2.new (.mapo [] 0)∧aY ts 1=.ptr h.next 0∧aY ts 4=.mp h2.next) (by simp only[am,aF,simprocAttr,bH]) ?_)
 rintro ts h3 ⟨rfl,e1,e4⟩
 have x3:Ext h2.next h2 (h2.new (.mapo [] 0)):=Ly (ae _)
 have g3:(h2.new (.mapo [] 0)).get h2.next=some (.mapo [] 0):=by rw[AH.get_new,if_pos rfl]
 have n3:(h2.new (.mapo [] 0)).next=h2.next+1:=rfl
 generalize h2.new (.mapo [] 0)=h3 at *
 obtain⟨mb,hmb⟩:∃ mb,mb=h2.next:=⟨_,rfl⟩
 rw[← hmb] at e4 g3
 have X3:Ext h.next h h3:=X2.trans (x3.mono om)
 have g3b:h3.get h.next=some (.cells [.int .i64 (k:Nat),ev] 2 false):=by rw[x3.gt _ om]; exact g2
 have rA3:ar h3 h.next 0 2=some [.int .i64 (k:Nat),ev]:=by rw[bg g3b]; rfl
 have hbl:=DF (n:=k) (he.ext X3 (ae _)) hP.1 hE hL
 unfold gW at hbl
 refine aj (aj (bO (bt 1 (M2 e1 rA3) rfl (Z2 e1 rA3) (M2 e1 rA3) (hbl) λblv h4 hq=>?_)))
 obtain⟨hbs,x4⟩:=hq
 obtain⟨lst,hlst⟩:=Go.Blk.lst_ex (grE k E hE hL)
 have bl4:=hbs lst hlst
 obtain⟨bs,hbse⟩:∃ bs,bs=canon E.length lst:=⟨_,rfl⟩
 rw[← hbse] at bl4
 have lb:=bl4.len
 refine bI (M1 lb) ?_
 have n4:=x4.nx
 have X4:Ext h.next h h4:=X3.trans (x4.mono om)
 have bsl:bs.length≤E.length:=by rw[hbse]; exact Lg
 have mem:∀ b∈bs,IsBlock (grE k E hE hL) b∧b≠[]∧(∀ i∈b,i<E.length)∧b.length≤E.length∧b.Nodup:=λb hb=>by
  rw[hbse] at hb
  exact⟨oV hlst hb,sJ hb⟩
 have pl:∀ b∈bs,Pln (grE k E hE hL) b:=λb hb=>AN hW (mem b hb).2.2.2.2 λe he=>ao.2 ((mem b hb).2.2.1 e he)
 have dis:∀ b∈bs,∀ c∈bs,∀ i,i∈b→i∈c→b=c:=λb hb c hc i h1 h2=>by
  rw[hbse] at hb hc
  exact Lh hb hc h1 h2
 have low:=Bg hlst
 have cov:∀ i,i<E.length→∃ b∈bs,i∈b:=λi hi=>by rw[hbse]; exact Li low.1 low.2 hi
 have m4':oa h4 mb []:=MapG.nil (c:=0) (by rw[x4.gt _ om]; exact g3)
 refine fB (α:=List (Int×AV)) (N:=bs.length) (λ_ _=>[(19,blv),(1,.ptr h.next 0),(4,.mp mb)])
  (λj lm h'=>oa h' mb lm∧Ext h.next h h'∧Kp (λc=>c=mb) h4 h'∧∀ b∈bs.take j,BlkT (grE k E hE hL) E b lm) [] (λ_ _=>rfl) om (H2 e1 e4) ⟨m4',X4,Kp.refl,by simp⟩ ?_ ?_
 ·clear e1 e4
  rintro j lm ts h5 hj ⟨m5,X5,k5,t5⟩ ⟨e21,e20,e19,e1,e4,-⟩
  simp only at e21 e20 e19 e1 e4
  have n5:=k5.nx
  have bl5:=bl4.cong λc h1 h2=>k5.gt c h2 om
  obtain⟨bo,oo,bv,a1,r1,i1,_⟩:=bl5.at hj
  have hbm:bs[j]∈bs:=aR hj
  have htk:bs.take (j+1)=bs.take j++[bs[j]]:=by rw[eJ,ah hj]; rfl
  obtain⟨b,hbe⟩:∃ b,b=bs[j]:=⟨_,rfl⟩
  rw[← hbe] at i1 hbm htk
  obtain⟨hblk,hbne,hblt,hbln,hbnd⟩:=mem b hbm
  have g5:h5.get h.next=some (.cells [.int .i64 (k:Nat),ev] 2 false):=by rw[k5.gt _ om om,x4.gt _ om]; exact g3b
  have hnew:b∉bs.take j:=λhc=>by
   obtain⟨i,hi⟩:=pe b hbne
   obtain⟨q,hq,hqe⟩:=dp.1 hc
   rw[bS] at hq
   rw[List.getElem_take] at hqe
   have hfl:bs.flatten.Nodup:=by rw[hbse]; exact Bx
   have h2:=(iJ.1 hfl).2
   rw[fx] at h2
   have:=h2 q j om hj om i (by rw[hqe]; exact hi) i (by rw[← hbe]; exact hi)
   exact this rfl
  refine aj (aB (M4 e19 e21 a1 r1) ?_)
  have lv:=(eu i1).len
  rw[ak,ak] at lv
  have kn:(h5.keep 3).next=h5.next+3:=AH.keep_next 3 h5
  have kg:∀ c,(h5.keep 3).get c=if h5.next≤c∧c<h5.next+3 then some .resv else h5.get c:=λc=>AH.keep_get 3 h5
  have k1:(h5.keep 3).get h.next=some (.cells [.int .i64 (k:Nat),ev] 2 false):=by rw[kg,if_neg om]; exact g5
  have ra:ar (h5.keep 3) h.next 0 2=some [.int .i64 (k:Nat),ev]:=by rw[bg k1]; rfl
  have rb:ar (h5.keep 3) h.next 1 1=some [ev]:=bq k1 rfl
  have rc:ar (h5.keep 3) h.next 0 1=some [.int .i64 (k:Nat)]:=bq k1 rfl
  have mva:=oK (z:=[.bool false]) (bytes:=1) (n:=E.length) (by unfold be; omega) (by unfold be; omega)
  have mvb:=oK (z:=[.bool false]) (bytes:=1) (n:=k) (by unfold be; omega) (by unfold be; omega)
  have q0:(h5.keep 3).get h5.next=some .resv:=by rw[kg,if_pos ⟨om,om⟩]
  obtain⟨m1',hm1⟩:∃ m,m=(h5.keep 3).put h5.next (.cells (dg [.bool false] E.length) 1 false):=⟨_,rfl⟩
  have v1:Upd (h5.keep 3) m1' h5.next (.cells (dg [.bool false] E.length) 1 false):=by rw[hm1]; exact LA q0
  have q1:m1'.get (h5.next+1)=some .resv:=by rw[v1.ne om,kg,if_pos ⟨om,om⟩]
  obtain⟨m2',hm2⟩:∃ m,m=m1'.put (h5.next+1) (.cells (dg [.bool false] k) 1 false):=⟨_,rfl⟩
  have v2:Upd m1' m2' (h5.next+1) (.cells (dg [.bool false] k) 1 false):=by rw[hm2]; exact LA q1
  have q2:m2'.get (h5.next+2)=some .resv:=by rw[v2.ne om,v1.ne om,kg,if_pos ⟨om,om⟩]
  obtain⟨m3',hm3⟩:∃ m,m=m2'.put (h5.next+2) (.cells [.int .i64 (k:Nat),ev,bv,.sl h5.next 0 E.length E.length,.sl (h5.next+1) 0 k k,.nils] 6 false):=⟨_,rfl⟩
  have v3:Upd m2' m3' (h5.next+2) (.cells [.int .i64 (k:Nat),ev,bv,.sl h5.next 0 E.length E.length,.sl (h5.next+1) 0 k k,.nils] 6 false):=by rw[hm3]; exact LA q2
  have bx:=sP (k:=6) (cs:=[.int .i64 (k:Nat),ev,bv,.sl h5.next 0 E.length E.length,.sl (h5.next+1) 0 k k,.nils]) rfl
  refine aj (BM (λts h2=>h2=m3'∧Held [(21,.int .i64 (j:Nat)),(20,.int .i64 (bs.length:Nat)),(19,blv),(1,.ptr h.next 0),(4,.mp mb),(6,bv),(7,.ptr (h5.next+2) 0)] ts)
   (by simp only[am,aF,simprocAttr,e21,e20,e19,e1,e4,cz,cK,ra,rb,rc,el,fA,kX q0,← hm1,kX q1,← hm2,uD q2,mva,mvb,bx,ec,eo,i1.cells.1,i1.cells.2,mZ,← hm3]) ?_)
  rintro ts h6 ⟨hh6,e21,e20,e19,e1,e4,e6,e7,-⟩
  subst hh6
  clear hm1 hm2 hm3
  have n6:h6.next=h5.next+3:=by rw[v3.nx,v2.nx,v1.nx,kn]
  have gk:∀ c,c<h5.next→h6.get c=h5.get c:=λc hc=>by rw[v3.ne om,v2.ne om,v1.ne om,kg,if_neg om]
  have x6:Ext h5.next h5 h6:=⟨om,gk,λc hc=>by rw[v3.ty,v2.ty,v1.ty]; exact Lx 3 h5⟩
  have gL:h6.get h5.next=some (.cells (bl E.length λ_=>false) 1 false):=by rw[v3.ne om,v2.ne om,v1.get,wH]
  have gV:h6.get (h5.next+1)=some (.cells (bl k λ_=>false) 1 false):=by rw[v3.ne om,v2.get,wH]
  have gB:=v3.get
  clear v1 v2 v3 q0 q1 q2 kg kn k1 ra rb rc bx mva mvb
  have X6:Ext h.next h h6:=X5.trans (x6.mono om)
  have he6:=he.ext X6 (ae _)
  have i6:=i1.ext x6 (ae _)
  have m6:oa h6 mb lm:=m5.cong (gk _ m5.lt)
  have ltm:=m5.lt
  have hmbg:h.next≤mb:=by have:=X2.nx; omega
  have Xe:∀ {h':AH},Kp (λc=>c=mb) h5 h'→Ext h.next h h':=fun {h'} q=>⟨cN X5.nx q.nx,λc hc=>by rw[q.gt c (by have:=X5.nx; omega) om]; exact X5.gt c hc,λc hc=>by rw[q.ty c (by have:=X5.nx; omega)]; exact X5.ty c hc⟩
  have lev:∀ {c o q z},ev=.sl c o q z→c<h.next:=fun {c o q z} e=>he.lt e
  have lbv:∀ {c q},bv=.sl c 0 q q→h3.next≤c∧c<h5.next:=fun {c q} e=>⟨by
   rcases i1 with ⟨h1,_⟩|⟨b',m',hb,h1,_⟩
   ·rw[h1] at e; cases e
   ·rw[h1] at e; cases e; exact hb,i1.lt e⟩
  have oev:Off (λc=>h.next≤c) ev:=by
   cases hq:ev with
   | sl c o q z=>exact λq=>by have:=lev hq; omega
   | _=>trivial
  have obv:∀ S:Nat→Prop,(∀ c,S c→c<h3.next∨h5.next≤c)→Off S bv:=λS hS=>by
   rcases i1 with ⟨h1,_⟩|⟨b',m',hb,h1,_⟩
   ·rw[h1]; trivial
   ·rw[h1]; intro q
    have:=lbv h1
    have:=hS _ q
    omega
  have u6:Bu h6 (h5.next+2) k ev bv E b h5.next (h5.next+1) (λ_=>false) (λ_=>false) .nils :=
   ⟨gB,he6,eu i6,gL,gV,⟨om,om,om⟩,fT oev λc q=>by omega,obv _ λc q=>by omega⟩
  have lv6:=(eu i6).len
  rw[ak,ak] at lv6
  by_cases hone:b.length=1
  ·obtain⟨e,rfl⟩:∃ e,b=[e]:=by
    match b,hone with
    | [e],_=>exact⟨e,rfl⟩
   have d1:decide ((([e]:List Nat).length:Nat)=(1:Int))=true:=rfl
   refine aj (aj (bT (λts h'=>h'=h6∧Held [(21,.int .i64 (j:Nat)),(20,.int .i64 (bs.length:Nat)),(19,blv),(1,.ptr h.next 0),(4,.mp mb),(6,bv),(38,.bool true)] ts) (by simp only[am,aF,simprocAttr,e21,e20,e19,e1,e4,e6,lv6,cz,cK]<;>rfl) ?_))
   rintro ts h6' ⟨rfl,e21,e20,e19,e1,e4,e6,e38,-⟩
   refine cX (Z1 e38) ?_
   obtain⟨b8,o8,a8,r8,lb8⟩:=(eu i6).at1 (i:=0) (y:=.int .i64 (e:Nat)) rfl
   rw[cH] at a8
   have heE:e<E.length:=hblt e (by simp)
   have w2q:IntKind.i64.wrap (2*((e:Nat):Int))=((2*e:Nat):Int):=by
    have:(2*((e:Nat):Int))=((2*e:Nat):Int):=om
    rw[this]; exact fz om om
   have w2q1:IntKind.i64.wrap (((2*e:Nat):Int)+1)=((2*e+1:Nat):Int):=fz om om
   obtain⟨h7,s7,men7,⟨oo7,U7⟩,_,st7⟩:=m6.men wg (.int .i64 0) ((2*e:Nat):Int)
   obtain⟨h8,mst8,m8,oo8,U8⟩:=st7 (.int .i64 ((2*e:Nat):Int))
   obtain⟨h9,s9,men9,⟨oo9,U9⟩,_,st9⟩:=m8.men wg (.int .i64 0) ((2*e+1:Nat):Int)
   obtain⟨h10,mst10,m10,oo10,U10⟩:=st9 (.int .i64 ((2*e+1:Nat):Int))
   have hb8:b8≠mb:=λq=>by
    obtain⟨es,c,g,_⟩:=m6
    rw[← q] at g
    unfold ar at r8
    rw[g] at r8
    simp at r8
   have r87:ar h7 b8 o8 1=some [.int .i64 (e:Nat)]:=by rw[cM (U7.ne hb8)]; exact r8
   refine aj (bT (λts h'=>h'=h10∧Held [(21,.int .i64 (j:Nat)),(20,.int .i64 (bs.length:Nat)),(19,blv),(1,.ptr h.next 0),(4,.mp mb)] ts) (by simp only[am,aF,simprocAttr,e21,e20,e19,e1,e4,e6,a8,r8,w2q,w2q1,men7,r87,mst8,men9,mst10,cz,cK]) ?_)
   rintro ts h11 ⟨rfl,hh⟩
   have k6:Kp (λc=>c=mb) h6' h11:=(((U7.kp (S:=λc=>c=mb) rfl).trans (U8.kp (S:=λc=>c=mb) rfl) (λ_ _ q=>q)).trans (U9.kp (S:=λc=>c=mb) rfl) (λ_ _ q=>q)).trans (U10.kp (S:=λc=>c=mb) rfl) (λ_ _ q=>q)
   have k5':Kp (λc=>c=mb) h5 h11:=(x6.kp (S:=λc=>c=mb) (ae _)).trans k6 (λ_ _ q=>q)
   refine ft ⟨λ_=>⟨_,⟨m10,Xe k5',k5.trans k5' (λ_ _ q=>q),λb' hb'=>?_⟩,hh⟩,λe=>absurd rfl e⟩
   rw[htk,aC,cq] at hb'
   rcases hb' with hb'|rfl
   ·refine (t5 b' hb').keep λd hd=>?_
    have hne:d / 2≠e:=λq=>by
     rw[q] at hd
     exact hnew (dis b' (wQ hb') _ hbm e hd (by simp)▸hb')
    rw[jR,if_neg om,jR,if_neg om]
   ·exact .inl ⟨e,rfl,by rw[jR,if_neg om,jR,if_pos rfl],by rw[jR,if_pos rfl]⟩
  ·have d1:decide (((b.length:Nat):Int)=1)=false:=by rw[aV]; omega
   refine aj (aj (bT (λts h'=>h'=h6∧Held [(21,.int .i64 (j:Nat)),(20,.int .i64 (bs.length:Nat)),(19,blv),(1,.ptr h.next 0),(4,.mp mb),(7,.ptr (h5.next+2) 0),(38,.bool false)] ts) (by simp only[am,aF,simprocAttr,e21,e20,e19,e1,e4,e6,e7,lv6,d1,cz,cK]<;>rfl) ?_))
   rintro ts h6' ⟨rfl,e21,e20,e19,e1,e4,e7,e38,-⟩
   refine dL (Z1 e38) (bK ?_)
   obtain⟨e0,b',rfl⟩:=dT hbne
   obtain⟨k0,b'',rfl⟩:∃ k0 b'',b'=k0::b'':=dT λq=>by subst q; exact hone rfl
   have hke:k0≠e0:=λq=>by subst q; simp at hbnd
   have hbond:=Go.Pla.blk_bond hW hblk hbnd hblt
   have hlink:=Go.Pla.blk_link hblk hblt
   have hplb:=pl _ hbm
   refine aj (aj (bO (bt 1 (M1 e7) rfl (Z1 e7) (M1 e7) (EY u6 hE hL om om hblt om hplb hbond hlink (k0:=k0) (by simp) hke) λrv h7 hq=>?_)))
   obtain⟨k7,hq⟩:=hq
   have k57:Kp (λc=>c=mb) h5 h7:=(x6.kp (S:=λc=>c=mb) (ae _)).trans k7 (λc hc q=>by rcases q with q|q|q<;>omega)
   have n7:=k7.nx
   rcases hq with ⟨rfl,hno⟩|⟨rfl,H,V,fav,F,u7,F7,fl7,I7,hall⟩
   ·refine bI (M0) ?_
    refine cX (by simp only[am,aF,simprocAttr,bQ]) ?_
    refine aj (aB (M0) ?_)
    refine bG ⟨.tup [.nils,.bool false],(by simp only[rs,rf6,am,aF,simprocAttr]<;>rfl),Xe k57,.inl ⟨rfl,λ_ hE' hL' ⟨Φ,l,r,d⟩=>hno ?_⟩⟩
    obtain⟨l',r',d'⟩:=Go.Pla.sub_dual aQ hbnd (λe he=>ao.2 (hblt e he)) d
    exact⟨Φ,l',r',d'⟩
   ·refine bI (M0) ?_
    refine dL (Z1 @cr) (bK ?_)
    have m7:oa h7 mb lm:=m6.cong (k7.gt mb om om)
    refine bO (bt 2 (M2 e7 e4) rfl (Z2 e7 e4) (M2 e7 e4) (zo u7 hE hL om om hblt om hplb F7 om (λf hf=>I7.lay.circ f hf) m7 ⟨om,om,om,om⟩ (fT oev λc q=>by omega) (obv _ λc q=>by omega)) λ_ h8 hq=>?_)
    obtain⟨lm',m8,k8,t8⟩:=hq
    refine bI (M0) ?_
    have k58:=k57.trans k8 (λ_ _ q=>q)
    refine⟨lm',⟨m8,Xe k58,k5.trans k58 (λ_ _ q=>q),λc hc=>?_⟩,H5 e21 e20 e19 e1 e4⟩
    rw[htk,aC,cq] at hc
    rcases hc with hc|rfl
    ·refine (t5 c hc).keep λd hd=>Ea t8 λq=>?_
     exact hnew (dis c (wQ hc) _ hbm _ hd q▸hc)
    ·exact Hw t8 I7 hall
 ·rintro lm ts h5 ⟨m5,X5,k5,t5⟩ ⟨e19,e1,e4,-⟩
  rw[de (ae _)] at t5
  obtain⟨nx,nc,nk,ni,nend⟩:=Fp t5 pl cov dis
  have hdual:∃ (Φ:Type) (l r:Nat→Φ),Dual (grE k E hE hL) (List.range E.length) l r:=Go.Pla.whole_dual (bs:=bs) (by rw[hbse]; exact Bx) (λb hb=>(mem b hb).1) (λi=>⟨λhi=>cov i hi,λ⟨b,hb,hib⟩=>(mem b hb).2.2.1 i hib⟩) λb hb=>DG (t5 b hb) (pl b hb)
  have hEmb:∀ hE hL,EmbI k E hE hL (kZ nx E k E.length):=λ_ _=>⟨hdual,lm,nx,λl hl b hb=>t5 b (by rw[hbse,Go.Blk.canon_congr (m:=E.length) (l:=lst) (l':=l) λi hi=>hlst.uniq hl hi]; exact hb),nc,nk,ni,nend,rfl⟩
  have n5:=k5.nx
  have g5:h5.get h.next=some (.cells [.int .i64 (k:Nat),ev] 2 false):=by rw[k5.gt _ om (by have:=X2.nx; omega),x4.gt _ om]; exact g3b
  have r5a:ar h5 h.next 0 1=some [.int .i64 (k:Nat)]:=bq g5 rfl
  have mk:=oL (h:=h5) (z:=[.nils]) (e:=1) (bytes:=24) (n:=k) (by unfold be; omega) (by unfold be; omega)
  have x6:Ext h5.next h5 (h5.new (.cells (dg [.nils] k) 1 false)):=Ly (ae _)
  have g6:(h5.new (.cells (dg [.nils] k) 1 false)).get h5.next=some (.cells (dg [.nils] k) 1 false):=by rw[AH.get_new,if_pos rfl]
  have n6:(h5.new (.cells (dg [.nils] k) 1 false)).next=h5.next+1:=rfl
  refine aj (bT (λts h'=>h'=h5.new (.cells (dg [.nils] k) 1 false)∧aY ts 1=.ptr h.next 0∧aY ts 4=.mp mb∧aY ts 8=.sl h5.next 0 k k) (by simp only[am,aF,simprocAttr,e1,e4,r5a,mk]) ?_)
  rintro ts h6 ⟨rfl,e1,e4,e8⟩
  generalize h5.new (.cells (dg [.nils] k) 1 false)=h6 at *
  obtain⟨ob,hob⟩:∃ ob,ob=h5.next:=⟨_,rfl⟩
  rw[← hob] at e8 g6 n6
  have X6:Ext h.next h h6:=X5.trans (x6.mono X5.nx)
  have ltm:=m5.lt
  have hnX:=X5.nx
  have m6:oa h6 mb lm:=m5.cong (x6.gt mb ltm)
  have g6b:h6.get h.next=some (.cells [.int .i64 (k:Nat),ev] 2 false):=by rw[x6.gt _ (by have:=X2.nx; omega)]; exact g5
  have r6b:ar h6 h.next 1 1=some [ev]:=bq g6b rfl
  have rl:(dg [AV.nils] k).length=k:=by rw[jf,tE]
  have Rw0:Rw h6 (ob+1) (dg [.nils] k) (xN (kZ nx E k 0)):=by
   have e0:xN (kZ nx E k 0)=List.replicate k []:=by simp [xN,kZ]
   rw[e0,jf]
   refine⟨by simp,λi v xs h1 h2=>?_,λi j b n' b' n'' _ h1=>?_⟩
   ·rw[dS] at h1 h2
    split at h1
    ·rename_i hi
     rw[if_pos hi] at h2
     simp only[aa] at h1 h2
     subst h1 h2
     exact .inl ⟨rfl,rfl⟩
    ·cases h1
   ·rw[dS] at h1
    split at h1<;>cases h1
  refine aj (aj (aB (M3 e1 r6b el) ?_))
  refine fB (α:=List AV) (N:=E.length) (λ_ _=>[(74,ev),(8,.sl ob 0 k k),(4,.mp mb)])
   (λi vs h'=>h'.get ob=some (.cells vs 1 false)∧vs.length=k∧Rw h' (ob+1) vs (xN (kZ nx E k i))∧Ext h.next h h'∧oa h' mb lm∧h6.next≤h'.next∧∀ x,((kZ nx E k i).getD x []).length≤i*(4*E.length)) (dg [.nils] k) (λ_ _=>rfl) om (H2 e8 e4) ⟨g6,rl,Rw0,X6,m6,ae _,λx=>by simp [kZ,List.getD,dS]; split<;>simp⟩ ?_ ?_
  ·clear e1 e4 e8
   rintro i vs ts h7 hi ⟨g7,vl,R7,X7,m7,n7,len7⟩ ⟨e76,e75,e74,e8,e4,-⟩
   simp only at e76 e75 e74 e8 e4
   obtain⟨q1,q2,q3⟩:=hE i hi
   obtain⟨b9,o9,a9,r9,_,_⟩:=(he.ext X7 (ae _)).at (fE (f:=eE) hi)
   rw[q1] at r9
   have r9:ar h7 b9 o9 2=some [.int .i64 (tlE E i:Nat),.int .i64 (hdE E i:Nat)]:=r9
   obtain⟨h8,w8,x8,g8,n8⟩:=gm (h:=h7) (z:=[.int .i64 0,.int .i64 0]) (cs:=[.int .i64 (tlE E i:Nat),.int .i64 (hdE E i:Nat)]) (e:=2) rfl
   refine aj (bT (λts h'=>h'=h8∧Held [(76,.int .i64 (i:Nat)),(75,.int .i64 (E.length:Nat)),(74,ev),(8,.sl ob 0 k k),(4,.mp mb),(9,.int .i64 (i:Nat)),(10,.ptr h7.next 0)] ts) (by simp only[am,aF,simprocAttr,e76,e75,e74,e8,e4,a9,r9,w8,cz,cK]) ?_)
   rintro ts h8' ⟨rfl,e76,e75,e74,e8,e4,e9,e10,-⟩
   have rt:ar h8' h7.next 0 1=some [.int .i64 (tlE E i:Nat)]:=bq g8 rfl
   have rh:ar h8' h7.next 1 1=some [.int .i64 (hdE E i:Nat)]:=bq g8 rfl
   refine aj (bT (λts h'=>h'=h8'∧Held [(76,.int .i64 (i:Nat)),(75,.int .i64 (E.length:Nat)),(74,ev),(8,.sl ob 0 k k),(4,.mp mb),(9,.int .i64 (i:Nat)),(85,.agg [.int .i64 (tlE E i:Nat),.int .i64 (hdE E i:Nat)]),(86,.int .i64 0)] ts) (by simp only[am,aF,simprocAttr,e76,e75,e74,e8,e4,e9,e10,rt,rh,cz,cK]) ?_)
   rintro ts h8'' ⟨rfl,hh⟩
   obtain⟨oq,hoq⟩:∃ oq:Nat→List (List Nat),oq=λq=>match q with|0=>kZ nx E k i|1=>oP nx (kZ nx E k i) (tlE E i) (2*i)|_=>kZ nx E k (i+1):=⟨_,rfl⟩
   have oq0:oq 0=kZ nx E k i:=by rw[hoq]; rfl
   have oq1:oq 1=oP nx (oq 0) (tlE E i) (2*i+0):=by rw[hoq]; rfl
   have oq2:oq 2=oP nx (oq 1) (hdE E i) (2*i+1):=by rw[hoq]; exact pD
   have oq2':oq 2=kZ nx E k (i+1):=by rw[hoq]; rfl
   have oql:∀ q,q≤2→(oq q).length=k:=λq hq=>by
    have:q=0∨q=1∨q=2:=om
    rcases this with rfl|rfl|rfl
    ·rw[oq0,oQ]
    ·rw[oq1,mM,oq0,oQ]
    ·rw[oq2,mM,oq1,mM,oq0,oQ]
   refine cL (fW (λm ts h'=>∃ q vs,m=2-q∧q≤2∧Held [(76,.int .i64 (i:Nat)),(75,.int .i64 (E.length:Nat)),(74,ev),(8,.sl ob 0 k k),(4,.mp mb),(9,.int .i64 (i:Nat)),(85,.agg [.int .i64 (tlE E i:Nat),.int .i64 (hdE E i:Nat)]),(86,.int .i64 (q:Nat))] ts∧h'.get ob=some (.cells vs 1 false)∧vs.length=k∧Rw h' (ob+1) vs (xN (oq q))∧Ext h.next h h'∧oa h' mb lm∧h6.next≤h'.next∧∀ x,((oq q).getD x []).length≤i*(4*E.length)+q*(2*E.length)) ?_ (n:=2) ⟨0,vs,rfl,om,hh,by rw[x8.gt ob om]; exact g7,vl,by rw[oq0]; exact R7.cong λc _ hc=>x8.gt c hc,X7.trans (x8.mono X7.nx),m7.cong (x8.gt mb m7.lt),om,by rw[oq0,nq,dh]; exact len7⟩)
   clear hh g7 vl R7 X7 m7 n7 rt rh x8 g8 n8 w8 r9 a9
   rintro m ts h9 ⟨q,vs,rfl,hq2,⟨e76,e75,e74,e8,e4,e9,e85,e86,-⟩,g9,vl,R9,X9,m9,n9,len9⟩
   rcases bU q 2 with hq|hq
   ·have dq:decide (((q:Nat):Int)<2)=true:=by rw[aA]; omega
    obtain⟨x,hx⟩:∃ x,x=if q=0 then tlE E i else hdE E i:=⟨_,rfl⟩
    have hxn:x<k:=by rw[hx]; split; exact q2; exact q3
    have ix:Bn false 2 1 (.agg [.int .i64 (tlE E i:Nat),.int .i64 (hdE E i:Nat)]) (.int .i64 (q:Nat))=some (.int .i64 (x:Nat)):=by
     rw[hx]
     have:q=0∨q=1:=om
     rcases this with rfl|rfl<;>rfl
    have onext:oq (q+1)=oP nx (oq q) x (2*i+q):=by
     rw[hx]
     have:q=0∨q=1:=om
     rcases this with rfl|rfl
     ·exact oq1
     ·exact oq2
    refine aj (bT (λts h'=>h'=h9∧Held [(76,.int .i64 (i:Nat)),(75,.int .i64 (E.length:Nat)),(74,ev),(8,.sl ob 0 k k),(4,.mp mb),(9,.int .i64 (i:Nat)),(85,.agg [.int .i64 (tlE E i:Nat),.int .i64 (hdE E i:Nat)]),(86,.int .i64 (q:Nat)),(87,.bool true)] ts) (by simp only[am,aF,simprocAttr,e76,e75,e74,e8,e4,e9,e85,e86,dq,cz,cK]) ?_)
    rintro ts h9' ⟨rfl,e76,e75,e74,e8,e4,e9,e85,e86,e87,-⟩
    refine aj (cX (Z1 e87) (bK ?_))
    have hoql:=oql q hq2
    have hgl:(xN (oq q))[x]?=some (((oq q).getD x []).map λn=>((n:Nat):Int)):=by
     simp only[xN,aG,ai]
     rw[ah om]; rfl
    obtain⟨v,hv⟩:∃ v,vs[x]?=some v:=⟨_,ah om⟩
    obtain⟨row,hrow⟩:∃ row,row=(oq q).getD x []:=⟨_,rfl⟩
    rw[← hrow] at hgl
    have iv:IsSl h9' 1 (ob+1) v (nC row):=R9.2.1 x v _ hv hgl
    have hrl:=len9 x
    rw[← hrow] at hrl
    have hib:i*(4*E.length)≤128*(4*128):=wN om om
    have hqb:q*(2*E.length)≤2*(2*128):=wN om om
    have wd:IntKind.i64.wrap (2*((i:Nat):Int))=((2*i:Nat):Int):=by
     have:(2*((i:Nat):Int))=((2*i:Nat):Int):=om
     rw[this]; exact fz om om
    have wd2:IntKind.i64.wrap (((2*i:Nat):Int)+((q:Nat):Int))=((2*i+q:Nat):Int):=by
     have:((2*i:Nat):Int)+((q:Nat):Int)=((2*i+q:Nat):Int):=om
     rw[this]; exact fz om om
    have ixk:fU ((x:Nat):Int) k=some x:=dU hxn
    have rv:ar h9' ob x 1=some [v]:=bq g9 hv
    have hct:=sG (y:=((2*i+q:Nat):Int)) (eu iv) (by rw[ak]; omega)
    rw[mP] at hct
    have wq:IntKind.i64.wrap (((q:Nat):Int)+1)=((q+1:Nat):Int):=fz om om
    refine aj (cL ?_)
    refine aj (aB (M3 e85 e86 ix) ?_)
    refine aj (bT (λts h'=>h'=h9'∧Held [(76,.int .i64 (i:Nat)),(75,.int .i64 (E.length:Nat)),(74,ev),(8,.sl ob 0 k k),(4,.mp mb),(9,.int .i64 (i:Nat)),(85,.agg [.int .i64 (tlE E i:Nat),.int .i64 (hdE E i:Nat)]),(86,.int .i64 (q:Nat)),(12,.int .i64 (x:Nat)),(13,.int .i64 ((2*i+q:Nat):Int))] ts) (by simp only[am,aF,simprocAttr,e76,e75,e74,e8,e4,e9,e85,e86,wd,wd2,cz,cK]) ?_)
    rintro ts h9 ⟨rfl,e76,e75,e74,e8,e4,e9,e85,e86,e12,e13,-⟩
    refine aj (bO (bt 5 (M6 e8 e12 e13 ixk @aO rv) rfl (Z6 e8 e12 e13 ixk @aO rv) (M6 e8 e12 e13 ixk @aO rv) (hct) λr h10 hq'=>?_))
    obtain⟨rfl,x10⟩:=hq'
    have n10:=x10.nx
    have g10:h10.get ob=some (.cells vs 1 false):=by rw[x10.gt ob om]; exact g9
    have R10:Rw h10 (ob+1) vs (xN (oq q)):=R9.cong λc _ hc=>x10.gt c hc
    have m10:oa h10 mb lm:=m9.cong (x10.gt mb m9.lt)
    have X10:Ext h.next h h10:=X9.trans (x10.mono X9.nx)
    have iv10:=iv.ext x10 (ae _)
    have hds:(oq q).set x row=oq q:=by
     rw[hrow,ai]
     refine et λy=>?_
     rw[cZ]
     split
     ·rename_i hxy
      subst hxy
      rw[if_pos om,ah om]; rfl
     ·rfl
    by_cases hc:2*i+q∈row
    ·have hn:oq (q+1)=oq q:=by rw[onext,oP,← hrow,if_pos hc]
     refine bI (by simp only[am,aF,simprocAttr,aL hc,cr]<;>rfl) ?_
     refine dL (Z1 @cr) (bK ?_)
     refine bT (λts h'=>h'=h10∧Held [(76,.int .i64 (i:Nat)),(75,.int .i64 (E.length:Nat)),(74,ev),(8,.sl ob 0 k k),(4,.mp mb),(9,.int .i64 (i:Nat)),(85,.agg [.int .i64 (tlE E i:Nat),.int .i64 (hdE E i:Nat)]),(86,.int .i64 ((q+1:Nat):Int))] ts) (by simp only[am,aF,simprocAttr,e76,e75,e74,e8,e4,e9,e85,e86,wq,cz,cK]) ?_
     rintro ts h11 ⟨rfl,hh⟩
     refine⟨2-(q+1),om,q+1,vs,rfl,om,hh,g10,vl,by rw[hn]; exact R10,X10,m10,om,λy=>?_⟩
     rw[hn]
     have:=len9 y
     rw[dl]
     omega
    ·have hdN:2*i+q<2*E.length:=om
     obtain⟨hbk,hbl'⟩:=BG nc ni hdN
     have hn:oq (q+1)=(oq q).set x (row++orb nx (2*i+q) (bk nx (2*i+q))):=by rw[onext,oP,← hrow,if_neg hc]
     refine bI (by simp only[am,aF,simprocAttr,aJ hc,bQ]<;>rfl) ?_
     refine cX (by simp only[am,aF,simprocAttr,bQ]) ?_
     have rv10:ar h10 ob x 1=some [v]:=bq g10 hv
     refine bO (bt 8 (M7 e8 e12 e13 e4 ixk @aO rv10) rfl (Z7 e8 e12 e13 e4 ixk @aO rv10) (M7 e8 e12 e13 e4 ixk @aO rv10) (zu iv10 om m10 nc nk hdN hbk om) λv' h11 hq'=>?_)
     obtain⟨i11,x11,n11,fr11,nw11⟩:=hq'
     have g11:h11.get ob=some (.cells vs 1 false):=by rw[x11.gt ob om]; exact g10
     have w12:=gv (v:=v') g11 (i:=x) om
     have u12:=LA (o:=.cells (vs.set x v') 1 false) g11
     obtain⟨h12,hh12⟩:∃ h12,h12=h11.put ob (.cells (vs.set x v') 1 false):=⟨_,rfl⟩
     rw[← hh12] at w12 u12
     refine bI (by simp only[am,aF,simprocAttr,e8,e12,ixk,aO,i11.cells.1,i11.cells.2,w12]<;>rfl) ?_
     refine bT (λts h'=>h'=h12∧Held [(76,.int .i64 (i:Nat)),(75,.int .i64 (E.length:Nat)),(74,ev),(8,.sl ob 0 k k),(4,.mp mb),(9,.int .i64 (i:Nat)),(85,.agg [.int .i64 (tlE E i:Nat),.int .i64 (hdE E i:Nat)]),(86,.int .i64 ((q+1:Nat):Int))] ts) (by simp only[am,aF,simprocAttr,e76,e75,e74,e8,e4,e9,e85,e86,wq,cz,cK]) ?_
     rintro ts h12' ⟨rfl,hh⟩
     have n12:=u12.nx
     have R12:Rw h12' (ob+1) (vs.set x v') (xN (oq (q+1))):=by
      rw[hn]
      exact (R10.setN om hv i11 fr11 nw11).cong λc hc _=>u12.ne om
     have x12:Ext h.next h10 h12':=⟨om,λc hc=>by rw[u12.ne om,x11.gt c om],λc hc=>by rw[u12.ty c,x11.ty c om]⟩
     have hvm:∀ b n,v=.sl b 0 n n→mb≠b:=λb n e=>by
      have:=(R10.lt (j:=x) (b:=b) (n:=n) (by rw[hv,e])).2
      omega
     refine⟨2-(q+1),om,q+1,_,rfl,om,hh,u12.get,by rw[bE]; exact vl,R12,X10.trans x12,m10.cong (by rw[u12.ne om,fr11 mb m10.lt hvm]),om,λy=>?_⟩
     rw[onext]
     have:=Jr nc ni hdN (out:=oq q) (x:=x) (λy=>len9 y) y
     rw[dl]
     omega
   ·have:q=2:=om
    subst this
    have dq:decide (((2:Nat):Int)<2)=false:=rfl
    refine aj (bT (λts h'=>h'=h9∧Held [(76,.int .i64 (i:Nat)),(75,.int .i64 (E.length:Nat)),(74,ev),(8,.sl ob 0 k k),(4,.mp mb),(87,.bool false)] ts) (by simp only[am,aF,simprocAttr,e76,e75,e74,e8,e4,e9,e85,e86,dq,cz,cK]<;>rfl) ?_)
    rintro ts h9' ⟨rfl,e76,e75,e74,e8,e4,e87,-⟩
    refine aj (dL (Z1 e87) (ft ⟨λ_=>⟨vs,⟨g9,vl,?_,X9,m9,n9,λy=>?_⟩,H5 e76 e75 e74 e8 e4⟩,λe=>absurd rfl e⟩))
    ·rw[← oq2']; exact R9
    ·rw[← oq2']
     have:=len9 y
     rw[dl]
     omega
  ·rintro vs ts h7 ⟨g7,vl,R7,X7,m7,n7,len7⟩ ⟨e74,e8,e4,-⟩
   refine aj (aB (M1 e8) ?_)
   exact bG ⟨.tup [.sl ob 0 k k,.bool true],(by simp only[rs,rf6,am,aF,simprocAttr,e8]<;>rfl),X7,.inr ⟨hP,ob,vs,_,rfl,om,g7,vl,R7,hEmb⟩⟩
end Go.Proofs.YtpeemonpdlifbaaGreat
