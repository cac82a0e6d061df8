/- planar.Embed. -/
import Derived.Test.YtpeemonpdlifbaaUTAY
import Derived.Test.YtpeemonpdlifbaaUTAZ
import Derived.Test.YtpeemonpdlifbaaUTAL
import Derived.Test.YtpeemonpdlifbaaUTAF
set_option linter.all false
namespace Go.Proofs.Ytpeemonpdlifbaa
open Go.Am
open Go.Pla (at_ jn On Rot Pln Bond Link Part Plc Hg Bld Dual Thr Tri Cc it orb Back)
open Go.Blk (Lst canon IsBlock)
theorem wK {n:Nat}{E:List (Int×Int)}{hE:InG n E}{hL:∀ i,i<E.length→tlE E i≠hdE E i} (hp:(E.map mnx).Nodup):Pln (grE n E hE hL) (List.range E.length) where
 nd:=bp
 lt:=λe he=>aF.1 he
 one:=λe he k hk x y h1 h2=>by
  have he:e<E.length:=aF.1 he
  have hk:k<E.length:=aF.1 hk
  rw[Go.Pla.jn_iff] at h1 h2
  have h1:(tlE E e=x∧hdE E e=y)∨(tlE E e=y∧hdE E e=x):=h1
  have h2:(tlE E k=x∧hdE E k=y)∨(tlE E k=y∧hdE E k=x):=h2
  obtain⟨a1,_,_⟩:=hE e he
  obtain⟨b1,_,_⟩:=hE k hk
  have:mnx E[e]=mnx E[k]:=by
   rw[oA,a1,b1]
   simp only[aj]
   omega
  have h3:(E.map mnx)[e]?=(E.map mnx)[k]?:=by
   rw[aw,aw,ai he,ai hk,aD,aD,this]
  exact (List.getElem?_inj (by rw[ah]; exact he) hp).1 h3
theorem Hq {g:Go.Blk.Gr}{A B:List Nat} (p:Pln g A) (nd:B.Nodup) (hs:∀ e∈B,e∈A):Pln g B where
 nd:=nd
 lt:=λe he=>p.lt e (hs e he)
 one:=λe he k hk=>p.one e (hs e he) k (hs k hk)
open Classical in
noncomputable def bk (nx:Nat→Nat) (d:Nat):Nat:=if h:∃ r,Back nx d r then Classical.choose h else 0
theorem Jj {nx:Nat→Nat}{N d:Nat} (hc:∀ d,d<N→nx d<N) (hi:∀ a b,a<N→b<N→nx a=nx b→a=b) (hd:d<N):Back nx d (bk nx d)∧bk nx d≤N:=by
 obtain⟨r,hr,hb⟩:=Go.Pla.back_of hc hi hd
 have h:∃ r,Back nx d r:=⟨r,hb⟩
 have hs:=Classical.choose_spec h
 have e:bk nx d=Classical.choose h:=by unfold bk; rw[dif_pos h]
 rw[e]
 refine⟨hs,?_⟩
 rcases bO r (Classical.choose h) with q|q
 ·exact absurd hb.2.1 (hs.2.2 r hb.1 q)
 ·omega
noncomputable def oG (nx:Nat→Nat) (out:List (List Nat)) (x d:Nat):List (List Nat):=if d∈out.getD x [] then out else out.set x (out.getD x []++orb nx d (bk nx d))
noncomputable def lZ (nx:Nat→Nat) (E:List (Int×Int)) (n k:Nat):List (List Nat):=(List.range k).foldl (λout i=>oG nx (oG nx out (tlE E i) (2*i)) (hdE E i) (2*i+1)) (List.replicate n [])
theorem nH {n:Nat}{E:List (Int×Int)} (hm:iP (n:Nat) E=true):InG n E:=λi hi=>by
 obtain⟨m1,m2,m3,m4⟩:=pi hm
 obtain⟨a,b,e,ha,hb⟩:=HA (cH.1 m4 _ (aR hi))
 have hg:E.getD i (0,0)=E[i]:=by rw[aG,ai hi]; rfl
 unfold tlE hdE
 rw[hg,e]
 simp only[di]
 exact⟨trivial,ha,hb⟩
theorem xc {n:Nat}{E:List (Int×Int)} (hm:iP (n:Nat) E=true) (hl:∀ e∈E,e.1≠e.2):∀ i,i<E.length→tlE E i≠hdE E i:=λi hi=>by
 obtain⟨q1,q2,q3⟩:=nH hm i hi
 have:=hl _ (aR hi)
 rw[q1] at this
 simp only at this
 omega
theorem oX {n:Int}{E:List (Int×Int)} (h:ig n E):∃ k:Nat,n=((k:Nat):Int):=by
 have:=h.1
 unfold iP at this
 simp only[aO,aH] at this
 exact⟨n.toNat,om⟩
theorem CW {n:Nat}{E:List (Int×Int)}{hE:InG n E}{hL:∀ i,i<E.length→tlE E i≠hdE E i}{b:List Nat}{l:List (Int×AV)} (t:BlkT (grE n E hE hL) E b l) (p:Pln (grE n E hE hL) b):∃ (Φ:Type) (l r:Nat→Φ),Dual (grE n E hE hL) b l r:=by
 rcases t with ⟨e,rfl,_,_⟩|⟨H,V,F,I,hall,_⟩
 ·refine⟨Unit,λ_=>(),λ_=>(),λS v=>by simp [Go.Pla.par],λX hX=>⟨λ_=>false,λk hk=>?_⟩⟩
  have:k=e:=by simpa using hk
  subst this
  have h1:=hX ((grE n E hE hL).tl k)
  have h2:at_ (grE n E hE hL) k ((grE n E hE hL).tl k)=true:=(Go.Pla.at_inc (p.lt k (by simp))).2 ⟨p.lt k (by simp),.inl rfl⟩
  simpa [Go.Pla.par,h2] using h1
 ·obtain⟨l,r,d⟩:=Go.Pla.lay_dual I.lay hall p.nd p
  exact⟨Nat,l,r,d⟩
theorem mH {nx:Nat→Nat}{out:List (List Nat)}{x d:Nat}:(oG nx out x d).length=out.length:=by
 unfold oG; split
 ·rfl
 ·rw[cV]
theorem tY {nx:Nat→Nat}{E:List (Int×Int)}{n k:Nat}:lZ nx E n (k+1)=oG nx (oG nx (lZ nx E n k) (tlE E k) (2*k)) (hdE E k) (2*k+1):=by
 unfold lZ; rw[bS,fG]; rfl
theorem oH {nx:Nat→Nat}{E:List (Int×Int)}{n:Nat}:∀ {k:Nat},(lZ nx E n k).length=n
 | 0=>by simp [lZ]
 | k+1=>by rw[tY,mH,mH,oH]
theorem Ij {nx:Nat→Nat}{N c:Nat}{out:List (List Nat)}{x d:Nat} (hc:∀ d,d<N→nx d<N) (hi:∀ a b,a<N→b<N→nx a=nx b→a=b) (hd:d<N) (h:∀ x,(out.getD x []).length≤c):∀ y,((oG nx out x d).getD y []).length≤c+N:=λy=>by
 unfold oG
 split
 ·have:=h y; omega
 ·rw[aG,dY]
  split
  ·split
   ·rw[dT,aJ,Go.Pla.orb_len]
    have:=h x
    have:=(Jj hc hi hd).2
    omega
   ·simp
  ·have:=h y
   rw[aG] at this
   omega
abbrev xN (rows:List (List Nat)):List (List Int):=rows.map λl=>l.map λn=>((n:Nat):Int)
theorem Rw.setN {h h':AH}{lo:Nat}{vs:List AV}{out:List (List Nat)}{x:Nat}{v v':AV}{xs':List Nat} (R:Rw h lo vs (xN out)) (hx:x<out.length) (hv:vs[x]?=some v) (i':IsSl h' 1 lo v' (nC xs')) (fr:∀ c,c<h.next→(∀ b n,v=.sl b 0 n n→c≠b)→h'.get c=h.get c) (nw:∀ b n,v'=.sl b 0 n n→h.next≤b):Rw h' lo (vs.set x v') (xN (out.set x xs')):=by
 have hxv:x<vs.length:=by rw[R.1]; simpa [xN] using hx
 refine⟨by rw[cV,R.1]; simp [xN],λi w ys e1 e2=>?_,λi j b n b' n' hij e1 e2=>?_⟩
 ·by_cases hix:i=x
  ·subst hix
   rw[cL hxv] at e1
   simp only[xN,aw] at e2
   rw[cL hx] at e2
   simp only[aa,aD] at e1 e2
   subst e1 e2
   exact i'
  ·rw[cM (Ne.symm hix)] at e1
   simp only[xN,aw] at e2
   rw[cM (Ne.symm hix)] at e2
   have:=R.2.1 i w ys e1 (by simp only[xN,aw]; exact e2)
   refine this.cong λb n e hb=>fr b (this.lt e) λb' n' e'=>?_
   exact R.2.2 i x b n b' n' hix (by rw[e1,e]) (by rw[hv,e'])
 ·by_cases hix:i=x
  ·subst hix
   rw[cL hxv] at e1
   rw[cM hij] at e2
   have h1:=nw b n (by simpa using e1)
   have h2:=(R.lt e2).1
   omega
  ·rw[cM (Ne.symm hix)] at e1
   by_cases hjx:j=x
   ·subst hjx
    rw[cL hxv] at e2
    have h1:=nw b' n' (by simpa using e2)
    have h2:=(R.lt e1).1
    omega
   ·rw[cM (Ne.symm hjx)] at e2
    exact R.2.2 i j b n b' n' hij e1 e2
structure EmbI (n:Nat) (E:List (Int×Int)) (hE:InG n E) (hL:∀ i,i<E.length→tlE E i≠hdE E i) (rows:List (List Nat)):Prop where
 dual:∃ (Φ:Type) (l r:Nat→Φ),Dual (grE n E hE hL) (List.range E.length) l r
 ex:∃ (lm:List (Int×AV)) (nx:Nat→Nat),(∀ l,Lst (grE n E hE hL) l→∀ b∈canon E.length l,BlkT (grE n E hE hL) E b lm)∧(∀ d,d<2*E.length→nx d<2*E.length)∧(∀ d,d<2*E.length→lkG lm ((d:Nat):Int)=some (.int .i64 (nx d:Nat)))∧(∀ a b,a<2*E.length→b<2*E.length→nx a=nx b→a=b)∧(∀ d,d<2*E.length→qk E (nx d)=qk E d)∧rows=lZ nx E n E.length
set_option maxHeartbeats 8000000 in
theorem BQ {h:AH}{n:Int}{ev:AV}{E:List (Int×Int)} (he:SlE h ev E) (hxl:E.length<2 ^ 40) :
 C prg 8 [.agg [.int .i64 n,ev]] h λr h'=>Ext h.next h h'∧((r=.tup [.nils,.bool false]∧(ig n E→∀ hE hL,¬ ∃ (Φ:Type) (l r:Nat→Φ),Dual (grE n.toNat E hE hL) (List.range E.length) l r))∨(ig n E∧∃ ob vs rows,r=.tup [.sl ob 0 n.toNat n.toNat,.bool true]∧h.next≤ob∧h'.get ob=some (.cells vs 1 false)∧vs.length=n.toNat∧Rw h' (ob+1) vs (xN rows)∧∀ hE hL,EmbI n.toNat E hE hL rows)):=by
 obtain⟨ec,eo⟩:=he.cells
 have el:=he.len
 rw[ah] at el
 refine Kl pf8 ?_
 refine ae (ar (Mi0) ?_)
 have x0:Ext h.next h (h.new (.cells [.int .i64 n,ev] 2 false)):=Ki (ab _)
 have g0:(h.new (.cells [.int .i64 n,ev] 2 false)).get h.next=some (.cells [.int .i64 n,ev] 2 false):=by rw[AH.get_new,if_pos rfl]
 have n0:(h.new (.cells [.int .i64 n,ev] 2 false)).next=h.next+1:=rfl
 generalize (h.new (.cells [.int .i64 n,ev] 2 false))=h1 at *
 have rA:ak h1 h.next 0 2=some [.int .i64 n,ev]:=by rw[aU g0]; rfl
 refine ae (ae (bW (bt 1 (Mi1 rA) rfl (Zi1 rA) (Mi1 rA) (BL (he.ext x0 (ab _)) hxl) λr h2 hq=>?_)))
 obtain⟨b,rfl,hb,x2⟩:=hq
 have X2:Ext h.next h h2:=x0.trans (x2.mono om)
 refine bK (M0) ?_
 cases hbv:b with
 | false =>
   refine cE (by simp only[am,aC,simprocAttr,hbv,bG]) ?_
   refine ae (ar (M0) ?_)
   refine bH ⟨.tup [.nils,.bool false],(by simp only[rs,rf8,am,aC,simprocAttr]<;>rfl),X2,.inl ⟨rfl,λhp=>?_⟩⟩
   rw[hbv] at hb
   exact absurd (hb.2 hp) (by simp)
 | true =>
 rw[hbv] at hb
 have hP:=hb.1 rfl
 clear hb
 obtain⟨k,rfl⟩:=oX hP
 refine dB (Z2 hbv @bQ) (bJ ?_)
 have hE:=nH hP.1
 have hL:=xc hP.1 hP.2.1
 obtain⟨m1,m2,m3,m4⟩:=pi hP.1
 have hW:Pln (grE k E hE hL) (List.range E.length):=wK hP.2.2
 have n2:=x2.nx
 have g2:h2.get h.next=some (.cells [.int .i64 (k:Nat),ev] 2 false):=by rw[x2.gt _ om]; exact g0
 refine ae (bL (λts h'=>h'=h2.new (.mapo [] 0)∧aL ts 1=.ptr h.next 0∧aL ts 4=.mp h2.next) (by simp only[am,aC,simprocAttr,bI]) ?_)
 rintro ts h3 ⟨rfl,e1,e4⟩
 have x3:Ext h2.next h2 (h2.new (.mapo [] 0)):=Ki (ab _)
 have g3:(h2.new (.mapo [] 0)).get h2.next=some (.mapo [] 0):=by rw[AH.get_new,if_pos rfl]
 have n3:(h2.new (.mapo [] 0)).next=h2.next+1:=rfl
 generalize h2.new (.mapo [] 0)=h3 at *
 obtain⟨mb,hmb⟩:∃ mb,mb=h2.next:=⟨_,rfl⟩
 rw[← hmb] at e4 g3
 have X3:Ext h.next h h3:=X2.trans (x3.mono om)
 have g3b:h3.get h.next=some (.cells [.int .i64 (k:Nat),ev] 2 false):=by rw[x3.gt _ om]; exact g2
 have rA3:ak h3 h.next 0 2=some [.int .i64 (k:Nat),ev]:=by rw[aU g3b]; rfl
 have hbl:=CV (n:=k) (he.ext X3 (ab _)) hP.1 hE hL
 unfold gW at hbl
 refine ae (ae (bW (bt 1 (M2 e1 rA3) rfl (Z2 e1 rA3) (M2 e1 rA3) (hbl) λblv h4 hq=>?_)))
 obtain⟨hbs,x4⟩:=hq
 obtain⟨lst,hlst⟩:=Go.Blk.lst_ex (grE k E hE hL)
 have bl4:=hbs lst hlst
 obtain⟨bs,hbse⟩:∃ bs,bs=canon E.length lst:=⟨_,rfl⟩
 rw[← hbse] at bl4
 have lb:=bl4.len
 refine bK (M1 lb) ?_
 have n4:=x4.nx
 have X4:Ext h.next h h4:=X3.trans (x4.mono om)
 have bsl:bs.length≤E.length:=by rw[hbse]; exact JT
 have mem:∀ b∈bs,IsBlock (grE k E hE hL) b∧b≠[]∧(∀ i∈b,i<E.length)∧b.length≤E.length∧b.Nodup:=λb hb=>by
  rw[hbse] at hb
  exact⟨FD hlst hb,cn_lt hb⟩
 have pl:∀ b∈bs,Pln (grE k E hE hL) b:=λb hb=>Hq hW (mem b hb).2.2.2.2 λe he=>aF.2 ((mem b hb).2.2.1 e he)
 have dis:∀ b∈bs,∀ c∈bs,∀ i,i∈b→i∈c→b=c:=λb hb c hc i h1 h2=>by
  rw[hbse] at hb hc
  exact JU hb hc h1 h2
 have low:=HK hlst
 have cov:∀ i,i<E.length→∃ b∈bs,i∈b:=λi hi=>by rw[hbse]; exact JV low.1 low.2 hi
 have m4':nR h4 mb []:=MapG.nil (c:=0) (by rw[x4.gt _ om]; exact g3)
 refine gC (α:=List (Int×AV)) (N:=bs.length) (λ_ _=>[(19,blv),(1,.ptr h.next 0),(4,.mp mb)])
  (λj lm h'=>nR h' mb lm∧Ext h.next h h'∧Kp (λc=>c=mb) h4 h'∧∀ b∈bs.take j,BlkT (grE k E hE hL) E b lm) [] (λ_ _=>rfl) om (H2 e1 e4) ⟨m4',X4,Kp.refl,by simp⟩ ?_ ?_
 ·clear e1 e4
  rintro j lm ts h5 hj ⟨m5,X5,k5,t5⟩ ⟨e21,e20,e19,e1,e4,-⟩
  simp only at e21 e20 e19 e1 e4
  have n5:=k5.nx
  have bl5:=bl4.cong λc h1 h2=>k5.gt c h2 om
  obtain⟨bo,oo,bv,a1,r1,i1,_⟩:=bl5.at hj
  have hbm:bs[j]∈bs:=aR hj
  have htk:bs.take (j+1)=bs.take j++[bs[j]]:=by rw[dP,ai hj]; rfl
  obtain⟨b,hbe⟩:∃ b,b=bs[j]:=⟨_,rfl⟩
  rw[← hbe] at i1 hbm htk
  obtain⟨hblk,hbne,hblt,hbln,hbnd⟩:=mem b hbm
  have g5:h5.get h.next=some (.cells [.int .i64 (k:Nat),ev] 2 false):=by rw[k5.gt _ om om,x4.gt _ om]; exact g3b
  have hnew:b∉bs.take j:=λhc=>by
   obtain⟨i,hi⟩:=oO b hbne
   obtain⟨q,hq,hqe⟩:=eT.1 hc
   rw[bF] at hq
   rw[List.getElem_take] at hqe
   have hfl:bs.flatten.Nodup:=by rw[hbse]; exact AK
   have h2:=(sM.1 hfl).2
   rw[dg] at h2
   have:=h2 q j om hj om i (by rw[hqe]; exact hi) i (by rw[← hbe]; exact hi)
   exact this rfl
  refine ae (ar (M4 e19 e21 a1 r1) ?_)
  have lv:=(eu i1).len
  rw[ah,ah] at lv
  have kn:(h5.keep 3).next=h5.next+3:=AH.keep_next 3 h5
  have kg:∀ c,(h5.keep 3).get c=if h5.next≤c∧c<h5.next+3 then some .resv else h5.get c:=λc=>AH.keep_get 3 h5
  have k1:(h5.keep 3).get h.next=some (.cells [.int .i64 (k:Nat),ev] 2 false):=by rw[kg,if_neg om]; exact g5
  have ra:ak (h5.keep 3) h.next 0 2=some [.int .i64 (k:Nat),ev]:=by rw[aU k1]; rfl
  have rb:ak (h5.keep 3) h.next 1 1=some [ev]:=bd k1 rfl
  have rc:ak (h5.keep 3) h.next 0 1=some [.int .i64 (k:Nat)]:=bd k1 rfl
  have mva:=mr (z:=[.bool false]) (bytes:=1) (n:=E.length) (by unfold aX; omega) (by unfold aX; omega)
  have mvb:=mr (z:=[.bool false]) (bytes:=1) (n:=k) (by unfold aX; omega) (by unfold aX; omega)
  have q0:(h5.keep 3).get h5.next=some .resv:=by rw[kg,if_pos ⟨om,om⟩]
  obtain⟨m1',hm1⟩:∃ m,m=(h5.keep 3).put h5.next (.cells (cJ [.bool false] E.length) 1 false):=⟨_,rfl⟩
  have v1:Upd (h5.keep 3) m1' h5.next (.cells (cJ [.bool false] E.length) 1 false):=by rw[hm1]; exact Kk q0
  have q1:m1'.get (h5.next+1)=some .resv:=by rw[v1.ne om,kg,if_pos ⟨om,om⟩]
  obtain⟨m2',hm2⟩:∃ m,m=m1'.put (h5.next+1) (.cells (cJ [.bool false] k) 1 false):=⟨_,rfl⟩
  have v2:Upd m1' m2' (h5.next+1) (.cells (cJ [.bool false] k) 1 false):=by rw[hm2]; exact Kk q1
  have q2:m2'.get (h5.next+2)=some .resv:=by rw[v2.ne om,v1.ne om,kg,if_pos ⟨om,om⟩]
  obtain⟨m3',hm3⟩:∃ m,m=m2'.put (h5.next+2) (.cells [.int .i64 (k:Nat),ev,bv,.sl h5.next 0 E.length E.length,.sl (h5.next+1) 0 k k,.nils] 6 false):=⟨_,rfl⟩
  have v3:Upd m2' m3' (h5.next+2) (.cells [.int .i64 (k:Nat),ev,bv,.sl h5.next 0 E.length E.length,.sl (h5.next+1) 0 k k,.nils] 6 false):=by rw[hm3]; exact Kk q2
  have bx:=su (k:=6) (cs:=[.int .i64 (k:Nat),ev,bv,.sl h5.next 0 E.length E.length,.sl (h5.next+1) 0 k k,.nils]) rfl
  refine ae (AW (λts h2=>h2=m3'∧Held [(21,.int .i64 (j:Nat)),(20,.int .i64 (bs.length:Nat)),(19,blv),(1,.ptr h.next 0),(4,.mp mb),(6,bv),(7,.ptr (h5.next+2) 0)] ts)
   (by simp only[am,aC,simprocAttr,e21,e20,e19,e1,e4,bZ,cI,ra,rb,rc,el,eH,ir q0,← hm1,ir q1,← hm2,tU q2,mva,mvb,bx,ec,eo,i1.cells.1,i1.cells.2,mW,← hm3]) ?_)
  rintro ts h6 ⟨hh6,e21,e20,e19,e1,e4,e6,e7,-⟩
  subst hh6
  clear hm1 hm2 hm3
  have n6:h6.next=h5.next+3:=by rw[v3.nx,v2.nx,v1.nx,kn]
  have gk:∀ c,c<h5.next→h6.get c=h5.get c:=λc hc=>by rw[v3.ne om,v2.ne om,v1.ne om,kg,if_neg om]
  have x6:Ext h5.next h5 h6:=⟨om,gk,λc hc=>by rw[v3.ty,v2.ty,v1.ty]; exact Kh 3 h5⟩
  have gL:h6.get h5.next=some (.cells (bl E.length λ_=>false) 1 false):=by rw[v3.ne om,v2.ne om,v1.get,mV]
  have gV:h6.get (h5.next+1)=some (.cells (bl k λ_=>false) 1 false):=by rw[v3.ne om,v2.get,mV]
  have gB:=v3.get
  clear v1 v2 v3 q0 q1 q2 kg kn k1 ra rb rc bx mva mvb
  have X6:Ext h.next h h6:=X5.trans (x6.mono om)
  have he6:=he.ext X6 (ab _)
  have i6:=i1.ext x6 (ab _)
  have m6:nR h6 mb lm:=m5.cong (gk _ m5.lt)
  have ltm:=m5.lt
  have hmbg:h.next≤mb:=by have:=X2.nx; omega
  have Xe:∀ {h':AH},Kp (λc=>c=mb) h5 h'→Ext h.next h h':=fun {h'} q=>⟨cR X5.nx q.nx,λc hc=>by rw[q.gt c (by have:=X5.nx; omega) om]; exact X5.gt c hc,λc hc=>by rw[q.ty c (by have:=X5.nx; omega)]; exact X5.ty c hc⟩
  have lev:∀ {c o q z},ev=.sl c o q z→c<h.next:=fun {c o q z} e=>he.lt e
  have lbv:∀ {c q},bv=.sl c 0 q q→h3.next≤c∧c<h5.next:=fun {c q} e=>⟨by
   rcases i1 with ⟨h1,_⟩|⟨b',m',hb,h1,_⟩
   ·rw[h1] at e; cases e
   ·rw[h1] at e; cases e; exact hb,i1.lt e⟩
  have oev:Off (λc=>h.next≤c) ev:=by
   cases hq:ev with
   | sl c o q z=>exact λq=>by have:=lev hq; omega
   | _=>trivial
  have obv:∀ S:Nat→Prop,(∀ c,S c→c<h3.next∨h5.next≤c)→Off S bv:=λS hS=>by
   rcases i1 with ⟨h1,_⟩|⟨b',m',hb,h1,_⟩
   ·rw[h1]; trivial
   ·rw[h1]; intro q
    have:=lbv h1
    have:=hS _ q
    omega
  have u6:Bu h6 (h5.next+2) k ev bv E b h5.next (h5.next+1) (λ_=>false) (λ_=>false) .nils :=
   ⟨gB,he6,eu i6,gL,gV,⟨om,om,om⟩,fR oev λc q=>by omega,obv _ λc q=>by omega⟩
  have lv6:=(eu i6).len
  rw[ah,ah] at lv6
  by_cases hone:b.length=1
  ·obtain⟨e,rfl⟩:∃ e,b=[e]:=by
    match b,hone with
    | [e],_=>exact⟨e,rfl⟩
   have d1:decide ((([e]:List Nat).length:Nat)=(1:Int))=true:=rfl
   refine ae (ae (bL (λts h'=>h'=h6∧Held [(21,.int .i64 (j:Nat)),(20,.int .i64 (bs.length:Nat)),(19,blv),(1,.ptr h.next 0),(4,.mp mb),(6,bv),(38,.bool true)] ts) (by simp only[am,aC,simprocAttr,e21,e20,e19,e1,e4,e6,lv6,bZ,cI]<;>rfl) ?_))
   rintro ts h6' ⟨rfl,e21,e20,e19,e1,e4,e6,e38,-⟩
   refine cE (Z1 e38) ?_
   obtain⟨b8,o8,a8,r8,lb8⟩:=(eu i6).at1 (i:=0) (y:=.int .i64 (e:Nat)) rfl
   rw[bh] at a8
   have heE:e<E.length:=hblt e (by simp)
   have w2q:IntKind.i64.wrap (2*((e:Nat):Int))=((2*e:Nat):Int):=by
    have:(2*((e:Nat):Int))=((2*e:Nat):Int):=om
    rw[this]; exact eL om om
   have w2q1:IntKind.i64.wrap (((2*e:Nat):Int)+1)=((2*e+1:Nat):Int):=eL om om
   obtain⟨h7,s7,men7,⟨oo7,U7⟩,_,st7⟩:=m6.men vg (.int .i64 0) ((2*e:Nat):Int)
   obtain⟨h8,mst8,m8,oo8,U8⟩:=st7 (.int .i64 ((2*e:Nat):Int))
   obtain⟨h9,s9,men9,⟨oo9,U9⟩,_,st9⟩:=m8.men vg (.int .i64 0) ((2*e+1:Nat):Int)
   obtain⟨h10,mst10,m10,oo10,U10⟩:=st9 (.int .i64 ((2*e+1:Nat):Int))
   have hb8:b8≠mb:=λq=>by
    obtain⟨es,c,g,_⟩:=m6
    rw[← q] at g
    unfold ak at r8
    rw[g] at r8
    simp at r8
   have r87:ak h7 b8 o8 1=some [.int .i64 (e:Nat)]:=by rw[cY (U7.ne hb8)]; exact r8
   refine ae (bL (λts h'=>h'=h10∧Held [(21,.int .i64 (j:Nat)),(20,.int .i64 (bs.length:Nat)),(19,blv),(1,.ptr h.next 0),(4,.mp mb)] ts) (by simp only[am,aC,simprocAttr,e21,e20,e19,e1,e4,e6,a8,r8,w2q,w2q1,men7,r87,mst8,men9,mst10,bZ,cI]) ?_)
   rintro ts h11 ⟨rfl,hh⟩
   have k6:Kp (λc=>c=mb) h6' h11:=(((U7.kp (S:=λc=>c=mb) rfl).trans (U8.kp (S:=λc=>c=mb) rfl) (λ_ _ q=>q)).trans (U9.kp (S:=λc=>c=mb) rfl) (λ_ _ q=>q)).trans (U10.kp (S:=λc=>c=mb) rfl) (λ_ _ q=>q)
   have k5':Kp (λc=>c=mb) h5 h11:=(x6.kp (S:=λc=>c=mb) (ab _)).trans k6 (λ_ _ q=>q)
   refine fz ⟨λ_=>⟨_,⟨m10,Xe k5',k5.trans k5' (λ_ _ q=>q),λb' hb'=>?_⟩,hh⟩,λe=>absurd rfl e⟩
   rw[htk,aA,cB] at hb'
   rcases hb' with hb'|rfl
   ·refine (t5 b' hb').keep λd hd=>?_
    have hne:d / 2≠e:=λq=>by
     rw[q] at hd
     exact hnew (dis b' (gj hb') _ hbm e hd (by simp)▸hb')
    rw[jT,if_neg om,jT,if_neg om]
   ·exact .inl ⟨e,rfl,by rw[jT,if_neg om,jT,if_pos rfl],by rw[jT,if_pos rfl]⟩
  ·have d1:decide (((b.length:Nat):Int)=1)=false:=by rw[aY]; omega
   refine ae (ae (bL (λts h'=>h'=h6∧Held [(21,.int .i64 (j:Nat)),(20,.int .i64 (bs.length:Nat)),(19,blv),(1,.ptr h.next 0),(4,.mp mb),(7,.ptr (h5.next+2) 0),(38,.bool false)] ts) (by simp only[am,aC,simprocAttr,e21,e20,e19,e1,e4,e6,e7,lv6,d1,bZ,cI]<;>rfl) ?_))
   rintro ts h6' ⟨rfl,e21,e20,e19,e1,e4,e7,e38,-⟩
   refine dB (Z1 e38) (bJ ?_)
   obtain⟨e0,b',rfl⟩:=dM hbne
   obtain⟨k0,b'',rfl⟩:∃ k0 b'',b'=k0::b'':=dM λq=>by subst q; exact hone rfl
   have hke:k0≠e0:=λq=>by subst q; simp at hbnd
   have hbond:=Go.Pla.blk_bond hW hblk hbnd hblt
   have hlink:=Go.Pla.blk_link hblk hblt
   have hplb:=pl _ hbm
   refine ae (ae (bW (bt 1 (M1 e7) rfl (Z1 e7) (M1 e7) (Ei u6 hE hL om om hblt om hplb hbond hlink (k0:=k0) (by simp) hke) λrv h7 hq=>?_)))
   obtain⟨k7,hq⟩:=hq
   have k57:Kp (λc=>c=mb) h5 h7:=(x6.kp (S:=λc=>c=mb) (ab _)).trans k7 (λc hc q=>by rcases q with q|q|q<;>omega)
   have n7:=k7.nx
   rcases hq with ⟨rfl,hno⟩|⟨rfl,H,V,fav,F,u7,F7,fl7,I7,hall⟩
   ·refine bK (M0) ?_
    refine cE (by simp only[am,aC,simprocAttr,bG]) ?_
    refine ae (ar (M0) ?_)
    refine bH ⟨.tup [.nils,.bool false],(by simp only[rs,rf8,am,aC,simprocAttr]<;>rfl),Xe k57,.inl ⟨rfl,λ_ hE' hL' ⟨Φ,l,r,d⟩=>hno ?_⟩⟩
    obtain⟨l',r',d'⟩:=Go.Pla.sub_dual bp hbnd (λe he=>aF.2 (hblt e he)) d
    exact⟨Φ,l',r',d'⟩
   ·refine bK (M0) ?_
    refine dB (Z1 @bQ) (bJ ?_)
    have m7:nR h7 mb lm:=m6.cong (k7.gt mb om om)
    refine bW (bt 2 (M2 e7 e4) rfl (Z2 e7 e4) (M2 e7 e4) (yN u7 hE hL om om hblt om hplb F7 om (λf hf=>I7.lay.circ f hf) m7 ⟨om,om,om,om⟩ (fR oev λc q=>by omega) (obv _ λc q=>by omega)) λ_ h8 hq=>?_)
    obtain⟨lm',m8,k8,t8⟩:=hq
    refine bK (M0) ?_
    have k58:=k57.trans k8 (λ_ _ q=>q)
    refine⟨lm',⟨m8,Xe k58,k5.trans k58 (λ_ _ q=>q),λc hc=>?_⟩,H5 e21 e20 e19 e1 e4⟩
    rw[htk,aA,cB] at hc
    rcases hc with hc|rfl
    ·refine (t5 c hc).keep λd hd=>Dl t8 λq=>?_
     exact hnew (dis c (gj hc) _ hbm _ hd q▸hc)
    ·exact Gu t8 I7 hall
 ·rintro lm ts h5 ⟨m5,X5,k5,t5⟩ ⟨e19,e1,e4,-⟩
  rw[cW (ab _)] at t5
  obtain⟨nx,nc,nk,ni,nend⟩:=Ew t5 pl cov dis
  have hdual:∃ (Φ:Type) (l r:Nat→Φ),Dual (grE k E hE hL) (List.range E.length) l r:=Go.Pla.whole_dual (bs:=bs) (by rw[hbse]; exact AK) (λb hb=>(mem b hb).1) (λi=>⟨λhi=>cov i hi,λ⟨b,hb,hib⟩=>(mem b hb).2.2.1 i hib⟩) λb hb=>CW (t5 b hb) (pl b hb)
  have hEmb:∀ hE hL,EmbI k E hE hL (lZ nx E k E.length):=λ_ _=>⟨hdual,lm,nx,λl hl b hb=>t5 b (by rw[hbse,Go.Blk.canon_congr (m:=E.length) (l:=lst) (l':=l) λi hi=>hlst.uniq hl hi]; exact hb),nc,nk,ni,nend,rfl⟩
  have n5:=k5.nx
  have g5:h5.get h.next=some (.cells [.int .i64 (k:Nat),ev] 2 false):=by rw[k5.gt _ om (by have:=X2.nx; omega),x4.gt _ om]; exact g3b
  have r5a:ak h5 h.next 0 1=some [.int .i64 (k:Nat)]:=bd g5 rfl
  have mk:=mw (h:=h5) (z:=[.nils]) (e:=1) (bytes:=24) (n:=k) (by unfold aX; omega) (by unfold aX; omega)
  have x6:Ext h5.next h5 (h5.new (.cells (cJ [.nils] k) 1 false)):=Ki (ab _)
  have g6:(h5.new (.cells (cJ [.nils] k) 1 false)).get h5.next=some (.cells (cJ [.nils] k) 1 false):=by rw[AH.get_new,if_pos rfl]
  have n6:(h5.new (.cells (cJ [.nils] k) 1 false)).next=h5.next+1:=rfl
  refine ae (bL (λts h'=>h'=h5.new (.cells (cJ [.nils] k) 1 false)∧aL ts 1=.ptr h.next 0∧aL ts 4=.mp mb∧aL ts 8=.sl h5.next 0 k k) (by simp only[am,aC,simprocAttr,e1,e4,r5a,mk]) ?_)
  rintro ts h6 ⟨rfl,e1,e4,e8⟩
  generalize h5.new (.cells (cJ [.nils] k) 1 false)=h6 at *
  obtain⟨ob,hob⟩:∃ ob,ob=h5.next:=⟨_,rfl⟩
  rw[← hob] at e8 g6 n6
  have X6:Ext h.next h h6:=X5.trans (x6.mono X5.nx)
  have ltm:=m5.lt
  have hnX:=X5.nx
  have m6:nR h6 mb lm:=m5.cong (x6.gt mb ltm)
  have g6b:h6.get h.next=some (.cells [.int .i64 (k:Nat),ev] 2 false):=by rw[x6.gt _ (by have:=X2.nx; omega)]; exact g5
  have r6b:ak h6 h.next 1 1=some [ev]:=bd g6b rfl
  have rl:(cJ [AV.nils] k).length=k:=by rw[jQ,List.length_replicate]
  have Rw0:Rw h6 (ob+1) (cJ [.nils] k) (xN (lZ nx E k 0)):=by
   have e0:xN (lZ nx E k 0)=List.replicate k []:=by simp [xN,lZ]
   rw[e0,jQ]
   refine⟨by simp,λi v xs h1 h2=>?_,λi j b n' b' n'' _ h1=>?_⟩
   ·rw[fF] at h1 h2
    split at h1
    ·rename_i hi
     rw[if_pos hi] at h2
     simp only[aa] at h1 h2
     subst h1 h2
     exact .inl ⟨rfl,rfl⟩
    ·cases h1
   ·rw[fF] at h1
    split at h1<;>cases h1
  refine ae (ae (ar (M3 e1 r6b el) ?_))
  refine gC (α:=List AV) (N:=E.length) (λ_ _=>[(74,ev),(8,.sl ob 0 k k),(4,.mp mb)])
   (λi vs h'=>h'.get ob=some (.cells vs 1 false)∧vs.length=k∧Rw h' (ob+1) vs (xN (lZ nx E k i))∧Ext h.next h h'∧nR h' mb lm∧h6.next≤h'.next∧∀ x,((lZ nx E k i).getD x []).length≤i*(4*E.length)) (cJ [.nils] k) (λ_ _=>rfl) om (H2 e8 e4) ⟨g6,rl,Rw0,X6,m6,ab _,λx=>by simp [lZ,List.getD,fF]; split<;>simp⟩ ?_ ?_
  ·clear e1 e4 e8
   rintro i vs ts h7 hi ⟨g7,vl,R7,X7,m7,n7,len7⟩ ⟨e76,e75,e74,e8,e4,-⟩
   simp only at e76 e75 e74 e8 e4
   obtain⟨q1,q2,q3⟩:=hE i hi
   obtain⟨b9,o9,a9,r9,_,_⟩:=(he.ext X7 (ab _)).at (fy (f:=eE) hi)
   rw[q1] at r9
   have r9:ak h7 b9 o9 2=some [.int .i64 (tlE E i:Nat),.int .i64 (hdE E i:Nat)]:=r9
   obtain⟨h8,w8,x8,g8,n8⟩:=fL (h:=h7) (z:=[.int .i64 0,.int .i64 0]) (cs:=[.int .i64 (tlE E i:Nat),.int .i64 (hdE E i:Nat)]) (e:=2) rfl
   refine ae (bL (λts h'=>h'=h8∧Held [(76,.int .i64 (i:Nat)),(75,.int .i64 (E.length:Nat)),(74,ev),(8,.sl ob 0 k k),(4,.mp mb),(9,.int .i64 (i:Nat)),(10,.ptr h7.next 0)] ts) (by simp only[am,aC,simprocAttr,e76,e75,e74,e8,e4,a9,r9,w8,bZ,cI]) ?_)
   rintro ts h8' ⟨rfl,e76,e75,e74,e8,e4,e9,e10,-⟩
   have rt:ak h8' h7.next 0 1=some [.int .i64 (tlE E i:Nat)]:=bd g8 rfl
   have rh:ak h8' h7.next 1 1=some [.int .i64 (hdE E i:Nat)]:=bd g8 rfl
   refine ae (bL (λts h'=>h'=h8'∧Held [(76,.int .i64 (i:Nat)),(75,.int .i64 (E.length:Nat)),(74,ev),(8,.sl ob 0 k k),(4,.mp mb),(9,.int .i64 (i:Nat)),(85,.agg [.int .i64 (tlE E i:Nat),.int .i64 (hdE E i:Nat)]),(86,.int .i64 0)] ts) (by simp only[am,aC,simprocAttr,e76,e75,e74,e8,e4,e9,e10,rt,rh,bZ,cI]) ?_)
   rintro ts h8'' ⟨rfl,hh⟩
   obtain⟨oq,hoq⟩:∃ oq:Nat→List (List Nat),oq=λq=>match q with|0=>lZ nx E k i|1=>oG nx (lZ nx E k i) (tlE E i) (2*i)|_=>lZ nx E k (i+1):=⟨_,rfl⟩
   have oq0:oq 0=lZ nx E k i:=by rw[hoq]; rfl
   have oq1:oq 1=oG nx (oq 0) (tlE E i) (2*i+0):=by rw[hoq]; rfl
   have oq2:oq 2=oG nx (oq 1) (hdE E i) (2*i+1):=by rw[hoq]; exact tY
   have oq2':oq 2=lZ nx E k (i+1):=by rw[hoq]; rfl
   have oql:∀ q,q≤2→(oq q).length=k:=λq hq=>by
    have:q=0∨q=1∨q=2:=om
    rcases this with rfl|rfl|rfl
    ·rw[oq0,oH]
    ·rw[oq1,mH,oq0,oH]
    ·rw[oq2,mH,oq1,mH,oq0,oH]
   refine cQ (fY (λm ts h'=>∃ q vs,m=2-q∧q≤2∧Held [(76,.int .i64 (i:Nat)),(75,.int .i64 (E.length:Nat)),(74,ev),(8,.sl ob 0 k k),(4,.mp mb),(9,.int .i64 (i:Nat)),(85,.agg [.int .i64 (tlE E i:Nat),.int .i64 (hdE E i:Nat)]),(86,.int .i64 (q:Nat))] ts∧h'.get ob=some (.cells vs 1 false)∧vs.length=k∧Rw h' (ob+1) vs (xN (oq q))∧Ext h.next h h'∧nR h' mb lm∧h6.next≤h'.next∧∀ x,((oq q).getD x []).length≤i*(4*E.length)+q*(2*E.length)) ?_ (n:=2) ⟨0,vs,rfl,om,hh,by rw[x8.gt ob om]; exact g7,vl,by rw[oq0]; exact R7.cong λc _ hc=>x8.gt c hc,X7.trans (x8.mono X7.nx),m7.cong (x8.gt mb m7.lt),om,by rw[oq0,mZ,cS]; exact len7⟩)
   clear hh g7 vl R7 X7 m7 n7 rt rh x8 g8 n8 w8 r9 a9
   rintro m ts h9 ⟨q,vs,rfl,hq2,⟨e76,e75,e74,e8,e4,e9,e85,e86,-⟩,g9,vl,R9,X9,m9,n9,len9⟩
   rcases bO q 2 with hq|hq
   ·have dq:decide (((q:Nat):Int)<2)=true:=by rw[aH]; omega
    obtain⟨x,hx⟩:∃ x,x=if q=0 then tlE E i else hdE E i:=⟨_,rfl⟩
    have hxn:x<k:=by rw[hx]; split; exact q2; exact q3
    have ix:Ay false 2 1 (.agg [.int .i64 (tlE E i:Nat),.int .i64 (hdE E i:Nat)]) (.int .i64 (q:Nat))=some (.int .i64 (x:Nat)):=by
     rw[hx]
     have:q=0∨q=1:=om
     rcases this with rfl|rfl<;>rfl
    have onext:oq (q+1)=oG nx (oq q) x (2*i+q):=by
     rw[hx]
     have:q=0∨q=1:=om
     rcases this with rfl|rfl
     ·exact oq1
     ·exact oq2
    refine ae (bL (λts h'=>h'=h9∧Held [(76,.int .i64 (i:Nat)),(75,.int .i64 (E.length:Nat)),(74,ev),(8,.sl ob 0 k k),(4,.mp mb),(9,.int .i64 (i:Nat)),(85,.agg [.int .i64 (tlE E i:Nat),.int .i64 (hdE E i:Nat)]),(86,.int .i64 (q:Nat)),(87,.bool true)] ts) (by simp only[am,aC,simprocAttr,e76,e75,e74,e8,e4,e9,e85,e86,dq,bZ,cI]) ?_)
    rintro ts h9' ⟨rfl,e76,e75,e74,e8,e4,e9,e85,e86,e87,-⟩
    refine ae (cE (Z1 e87) (bJ ?_))
    have hoql:=oql q hq2
    have hgl:(xN (oq q))[x]?=some (((oq q).getD x []).map λn=>((n:Nat):Int)):=by
     simp only[xN,aw,aG]
     rw[ai om]; rfl
    obtain⟨v,hv⟩:∃ v,vs[x]?=some v:=⟨_,ai om⟩
    obtain⟨row,hrow⟩:∃ row,row=(oq q).getD x []:=⟨_,rfl⟩
    rw[← hrow] at hgl
    have iv:IsSl h9' 1 (ob+1) v (nC row):=R9.2.1 x v _ hv hgl
    have hrl:=len9 x
    rw[← hrow] at hrl
    have hib:i*(4*E.length)≤128*(4*128):=vO om om
    have hqb:q*(2*E.length)≤2*(2*128):=vO om om
    have wd:IntKind.i64.wrap (2*((i:Nat):Int))=((2*i:Nat):Int):=by
     have:(2*((i:Nat):Int))=((2*i:Nat):Int):=om
     rw[this]; exact eL om om
    have wd2:IntKind.i64.wrap (((2*i:Nat):Int)+((q:Nat):Int))=((2*i+q:Nat):Int):=by
     have:((2*i:Nat):Int)+((q:Nat):Int)=((2*i+q:Nat):Int):=om
     rw[this]; exact eL om om
    have ixk:fM ((x:Nat):Int) k=some x:=dm hxn
    have rv:ak h9' ob x 1=some [v]:=bd g9 hv
    have hct:=sh (y:=((2*i+q:Nat):Int)) (eu iv) (by rw[ah]; omega)
    rw[mK] at hct
    have wq:IntKind.i64.wrap (((q:Nat):Int)+1)=((q+1:Nat):Int):=eL om om
    refine ae (cQ ?_)
    refine ae (ar (M3 e85 e86 ix) ?_)
    refine ae (bL (λts h'=>h'=h9'∧Held [(76,.int .i64 (i:Nat)),(75,.int .i64 (E.length:Nat)),(74,ev),(8,.sl ob 0 k k),(4,.mp mb),(9,.int .i64 (i:Nat)),(85,.agg [.int .i64 (tlE E i:Nat),.int .i64 (hdE E i:Nat)]),(86,.int .i64 (q:Nat)),(12,.int .i64 (x:Nat)),(13,.int .i64 ((2*i+q:Nat):Int))] ts) (by simp only[am,aC,simprocAttr,e76,e75,e74,e8,e4,e9,e85,e86,wd,wd2,bZ,cI]) ?_)
    rintro ts h9 ⟨rfl,e76,e75,e74,e8,e4,e9,e85,e86,e12,e13,-⟩
    refine ae (bW (bt 5 (M6 e8 e12 e13 ixk @aM rv) rfl (Z6 e8 e12 e13 ixk @aM rv) (M6 e8 e12 e13 ixk @aM rv) (hct) λr h10 hq'=>?_))
    obtain⟨rfl,x10⟩:=hq'
    have n10:=x10.nx
    have g10:h10.get ob=some (.cells vs 1 false):=by rw[x10.gt ob om]; exact g9
    have R10:Rw h10 (ob+1) vs (xN (oq q)):=R9.cong λc _ hc=>x10.gt c hc
    have m10:nR h10 mb lm:=m9.cong (x10.gt mb m9.lt)
    have X10:Ext h.next h h10:=X9.trans (x10.mono X9.nx)
    have iv10:=iv.ext x10 (ab _)
    have hds:(oq q).set x row=oq q:=by
     rw[hrow,aG]
     refine dZ λy=>?_
     rw[dY]
     split
     ·rename_i hxy
      subst hxy
      rw[if_pos om,ai om]; rfl
     ·rfl
    by_cases hc:2*i+q∈row
    ·have hn:oq (q+1)=oq q:=by rw[onext,oG,← hrow,if_pos hc]
     refine bK (by simp only[am,aC,simprocAttr,aN hc,bQ]<;>rfl) ?_
     refine dB (Z1 @bQ) (bJ ?_)
     refine bL (λts h'=>h'=h10∧Held [(76,.int .i64 (i:Nat)),(75,.int .i64 (E.length:Nat)),(74,ev),(8,.sl ob 0 k k),(4,.mp mb),(9,.int .i64 (i:Nat)),(85,.agg [.int .i64 (tlE E i:Nat),.int .i64 (hdE E i:Nat)]),(86,.int .i64 ((q+1:Nat):Int))] ts) (by simp only[am,aC,simprocAttr,e76,e75,e74,e8,e4,e9,e85,e86,wq,bZ,cI]) ?_
     rintro ts h11 ⟨rfl,hh⟩
     refine⟨2-(q+1),om,q+1,vs,rfl,om,hh,g10,vl,by rw[hn]; exact R10,X10,m10,om,λy=>?_⟩
     rw[hn]
     have:=len9 y
     rw[df]
     omega
    ·have hdN:2*i+q<2*E.length:=om
     obtain⟨hbk,hbl'⟩:=Jj nc ni hdN
     have hn:oq (q+1)=(oq q).set x (row++orb nx (2*i+q) (bk nx (2*i+q))):=by rw[onext,oG,← hrow,if_neg hc]
     refine bK (by simp only[am,aC,simprocAttr,aK hc,bG]<;>rfl) ?_
     refine cE (by simp only[am,aC,simprocAttr,bG]) ?_
     have rv10:ak h10 ob x 1=some [v]:=bd g10 hv
     refine bW (bt 8 (M7 e8 e12 e13 e4 ixk @aM rv10) rfl (Z7 e8 e12 e13 e4 ixk @aM rv10) (M7 e8 e12 e13 e4 ixk @aM rv10) (yT iv10 om m10 nc nk hdN hbk om) λv' h11 hq'=>?_)
     obtain⟨i11,x11,n11,fr11,nw11⟩:=hq'
     have g11:h11.get ob=some (.cells vs 1 false):=by rw[x11.gt ob om]; exact g10
     have w12:=fV (v:=v') g11 (i:=x) om
     have u12:=Kk (o:=.cells (vs.set x v') 1 false) g11
     obtain⟨h12,hh12⟩:∃ h12,h12=h11.put ob (.cells (vs.set x v') 1 false):=⟨_,rfl⟩
     rw[← hh12] at w12 u12
     refine bK (by simp only[am,aC,simprocAttr,e8,e12,ixk,aM,i11.cells.1,i11.cells.2,w12]<;>rfl) ?_
     refine bL (λts h'=>h'=h12∧Held [(76,.int .i64 (i:Nat)),(75,.int .i64 (E.length:Nat)),(74,ev),(8,.sl ob 0 k k),(4,.mp mb),(9,.int .i64 (i:Nat)),(85,.agg [.int .i64 (tlE E i:Nat),.int .i64 (hdE E i:Nat)]),(86,.int .i64 ((q+1:Nat):Int))] ts) (by simp only[am,aC,simprocAttr,e76,e75,e74,e8,e4,e9,e85,e86,wq,bZ,cI]) ?_
     rintro ts h12' ⟨rfl,hh⟩
     have n12:=u12.nx
     have R12:Rw h12' (ob+1) (vs.set x v') (xN (oq (q+1))):=by
      rw[hn]
      exact (R10.setN om hv i11 fr11 nw11).cong λc hc _=>u12.ne om
     have x12:Ext h.next h10 h12':=⟨om,λc hc=>by rw[u12.ne om,x11.gt c om],λc hc=>by rw[u12.ty c,x11.ty c om]⟩
     have hvm:∀ b n,v=.sl b 0 n n→mb≠b:=λb n e=>by
      have:=(R10.lt (j:=x) (b:=b) (n:=n) (by rw[hv,e])).2
      omega
     refine⟨2-(q+1),om,q+1,_,rfl,om,hh,u12.get,by rw[cV]; exact vl,R12,X10.trans x12,m10.cong (by rw[u12.ne om,fr11 mb m10.lt hvm]),om,λy=>?_⟩
     rw[onext]
     have:=Ij nc ni hdN (out:=oq q) (x:=x) (λy=>len9 y) y
     rw[df]
     omega
   ·have:q=2:=om
    subst this
    have dq:decide (((2:Nat):Int)<2)=false:=rfl
    refine ae (bL (λts h'=>h'=h9∧Held [(76,.int .i64 (i:Nat)),(75,.int .i64 (E.length:Nat)),(74,ev),(8,.sl ob 0 k k),(4,.mp mb),(87,.bool false)] ts) (by simp only[am,aC,simprocAttr,e76,e75,e74,e8,e4,e9,e85,e86,dq,bZ,cI]<;>rfl) ?_)
    rintro ts h9' ⟨rfl,e76,e75,e74,e8,e4,e87,-⟩
    refine ae (dB (Z1 e87) (fz ⟨λ_=>⟨vs,⟨g9,vl,?_,X9,m9,n9,λy=>?_⟩,H5 e76 e75 e74 e8 e4⟩,λe=>absurd rfl e⟩))
    ·rw[← oq2']; exact R9
    ·rw[← oq2']
     have:=len9 y
     rw[df]
     omega
  ·rintro vs ts h7 ⟨g7,vl,R7,X7,m7,n7,len7⟩ ⟨e74,e8,e4,-⟩
   refine ae (ar (M1 e8) ?_)
   exact bH ⟨.tup [.sl ob 0 k k,.bool true],(by simp only[rs,rf8,am,aC,simprocAttr,e8]<;>rfl),X7,.inr ⟨hP,ob,vs,_,rfl,om,g7,vl,R7,hEmb⟩⟩
open Go.Am
open Go.Pla (Dual)
def IsP (n:Int) (E:List (Int×Int)):Prop:=ig n E∧∀ (hE:InG n.toNat E) (hL:∀ i,i<E.length→tlE E i≠hdE E i),∃ (Φ:Type) (l r:Nat→Φ),Dual (grE n.toNat E hE hL) (List.range E.length) l r
theorem qX {h:AH}{n:Int}{ev:AV}{E:List (Int×Int)} (he:SlE h ev E) (hxl:E.length<2 ^ 40):C prg 10 [.agg [.int .i64 n,ev]] h λr h'=>∃ b,r=.bool b∧(b=true↔IsP n E)∧Ext h.next h h':=by
 obtain⟨ec,eo⟩:=he.cells
 refine Kl pf10 ?_
 refine ae (ar (Mi0) ?_)
 have x0:Ext h.next h (h.new (.cells [.int .i64 n,ev] 2 false)):=Ki (ab _)
 have g0:(h.new (.cells [.int .i64 n,ev] 2 false)).get h.next=some (.cells [.int .i64 n,ev] 2 false):=by rw[AH.get_new,if_pos rfl]
 have n0:(h.new (.cells [.int .i64 n,ev] 2 false)).next=h.next+1:=rfl
 generalize (h.new (.cells [.int .i64 n,ev] 2 false))=h1 at *
 have rA:ak h1 h.next 0 2=some [.int .i64 n,ev]:=by rw[aU g0]; rfl
 refine ae (bW (bt 1 (Mi1 rA) rfl (Zi1 rA) (Mi1 rA) (BQ (he.ext x0 (ab _)) hxl) λr h2 hq=>?_))
 obtain⟨x2,hq⟩:=hq
 have X2:Ext h.next h h2:=x0.trans (x2.mono om)
 rcases hq with ⟨rfl,hno⟩|⟨hP,ob,vs,rows,rfl,_,_,_,_,hEmb⟩
 ·refine bK (M0) ?_
  refine ae (ar (M0) ?_)
  refine bH ⟨.bool false,(by simp only[rs,rf10,am,aC,simprocAttr]<;>rfl),false,rfl,⟨λh=>(by cases h),λ⟨hP,hd⟩=>?_⟩,X2⟩
  obtain⟨k,rfl⟩:=oX hP
  have hE:=nH hP.1
  have hL:=xc hP.1 hP.2.1
  exact absurd (hd hE hL) (hno hP hE hL)
 ·refine bK (M0) ?_
  refine ae (ar (M0) ?_)
  exact bH ⟨.bool true,(by simp only[rs,rf10,am,aC,simprocAttr]<;>rfl),true,rfl,⟨λ_=>⟨hP,λhE hL=>(hEmb hE hL).dual⟩,λ_=>rfl⟩,X2⟩
end Go.Proofs.Ytpeemonpdlifbaa
namespace Go.Pla
open Go.Blk
variable {g g':Gr}{B:List Nat}{Φ:Type}{l r:Nat→Φ}
end Go.Pla
