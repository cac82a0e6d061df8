/-
  planar.Embed. planar.Is: a graph can be laid in the plane if and only if it has a dual.
-/
import Derived.Test.YtpeemonpdlifbaaQTAX
import Derived.Test.YtpeemonpdlifbaaQTAY
set_option linter.all false
namespace Go.Proofs.Ytpeemonpdlifbaa
open Go.Am
open Go.Pla (at_ jn On Rot Pln Bond Link Part Plc Hg Bld Dual Thr Tri Cc it orb Back)
open Go.Blk (Lst canon IsBlock)
theorem pl_whole {n:Nat}{E:List (Int×Int)}{hE:InG n E}{hL:∀ i,i<E.length→tlE E i≠hdE E i} (hp:(E.map mnx).Nodup):Pln (grE n E hE hL) (List.range E.length) where
 nd:=List.nodup_range
 lt:=fun e he=>List.mem_range.1 he
 one:=fun e he k hk x y h1 h2=>by
  have he:e<E.length:=List.mem_range.1 he
  have hk:k<E.length:=List.mem_range.1 hk
  rw[Go.Pla.jn_iff] at h1 h2
  have h1:(tlE E e=x∧hdE E e=y)∨(tlE E e=y∧hdE E e=x):=h1
  have h2:(tlE E k=x∧hdE E k=y)∨(tlE E k=y∧hdE E k=x):=h2
  obtain⟨a1,_,_⟩:=hE e he
  obtain⟨b1,_,_⟩:=hE k hk
  have:mnx E[e]=mnx E[k]:=by
   rw[mnx_iff,a1,b1]
   simp only[Prod.mk.injEq]
   omega
  have h3:(E.map mnx)[e]?=(E.map mnx)[k]?:=by
   rw[List.getElem?_map,List.getElem?_map,List.getElem?_eq_getElem he,List.getElem?_eq_getElem hk,Option.map_some,Option.map_some,this]
  exact (List.getElem?_inj (by rw[List.length_map]; exact he) hp).1 h3
theorem pln_sub {g:Go.Blk.Gr}{A B:List Nat} (p:Pln g A) (nd:B.Nodup) (hs:∀ e∈B,e∈A):Pln g B where
 nd:=nd
 lt:=fun e he=>p.lt e (hs e he)
 one:=fun e he k hk=>p.one e (hs e he) k (hs k hk)
open Classical in
noncomputable def bk (nx:Nat→Nat) (d:Nat):Nat:=if h:∃ r,Back nx d r then Classical.choose h else 0
theorem bk_ok {nx:Nat→Nat}{N d:Nat} (hc:∀ d,d<N→nx d<N) (hi:∀ a b,a<N→b<N→nx a=nx b→a=b) (hd:d<N):Back nx d (bk nx d)∧bk nx d≤N:=by
 obtain⟨r,hr,hb⟩:=Go.Pla.back_of hc hi hd
 have h:∃ r,Back nx d r:=⟨r,hb⟩
 have hs:=Classical.choose_spec h
 have e:bk nx d=Classical.choose h:=by unfold bk; rw[dif_pos h]
 rw[e]
 refine⟨hs,?_⟩
 rcases Nat.lt_or_ge r (Classical.choose h) with q|q
 ·exact absurd hb.2.1 (hs.2.2 r hb.1 q)
 ·omega
noncomputable def embS (nx:Nat→Nat) (out:List (List Nat)) (x d:Nat):List (List Nat):=if d∈out.getD x [] then out else out.set x (out.getD x []++orb nx d (bk nx d))
noncomputable def embR (nx:Nat→Nat) (E:List (Int×Int)) (n k:Nat):List (List Nat):=(List.range k).foldl (fun out i=>embS nx (embS nx out (tlE E i) (2*i)) (hdE E i) (2*i+1)) (List.replicate n [])
theorem ing_of {n:Nat}{E:List (Int×Int)} (hm:mayB (n:Nat) E=true):InG n E:=fun i hi=>by
 obtain⟨m1,m2,m3,m4⟩:=may_of hm
 obtain⟨a,b,e,ha,hb⟩:=okE_nat (List.all_eq_true.1 m4 _ (List.getElem_mem hi))
 have hg:E.getD i (0,0)=E[i]:=by rw[List.getD_eq_getElem?_getD,List.getElem?_eq_getElem hi]; rfl
 unfold tlE hdE
 rw[hg,e]
 simp only[Int.toNat_natCast]
 exact⟨trivial,ha,hb⟩
theorem nl_of {n:Nat}{E:List (Int×Int)} (hm:mayB (n:Nat) E=true) (hl:∀ e∈E,e.1≠e.2):∀ i,i<E.length→tlE E i≠hdE E i:=fun i hi=>by
 obtain⟨q1,q2,q3⟩:=ing_of hm i hi
 have:=hl _ (List.getElem_mem hi)
 rw[q1] at this
 simp only at this
 omega
theorem plain_nat {n:Int}{E:List (Int×Int)} (h:PlainP n E):∃ k:Nat,n=((k:Nat):Int):=by
 have:=h.1
 unfold mayB at this
 simp only[Bool.and_eq_true,decide_eq_true_eq] at this
 exact⟨n.toNat,by omega⟩
theorem blkT_dual {n:Nat}{E:List (Int×Int)}{hE:InG n E}{hL:∀ i,i<E.length→tlE E i≠hdE E i}{b:List Nat}{l:List (Int×AV)} (t:BlkT (grE n E hE hL) E b l) (p:Pln (grE n E hE hL) b):∃ (Φ:Type) (l r:Nat→Φ),Dual (grE n E hE hL) b l r:=by
 rcases t with ⟨e,rfl,_,_⟩|⟨H,V,F,I,hall,_⟩
 ·refine⟨Unit,fun _=>(),fun _=>(),fun S v=>by simp [Go.Pla.par],fun X hX=>⟨fun _=>false,fun k hk=>?_⟩⟩
  have:k=e:=by simpa using hk
  subst this
  have h1:=hX ((grE n E hE hL).tl k)
  have h2:at_ (grE n E hE hL) k ((grE n E hE hL).tl k)=true:=(Go.Pla.at_inc (p.lt k (by simp))).2 ⟨p.lt k (by simp),.inl rfl⟩
  simpa [Go.Pla.par,h2] using h1
 ·obtain⟨l,r,d⟩:=Go.Pla.lay_dual I.lay hall p.nd p
  exact⟨Nat,l,r,d⟩
theorem embS_len {nx:Nat→Nat}{out:List (List Nat)}{x d:Nat}:(embS nx out x d).length=out.length:=by
 unfold embS; split
 ·rfl
 ·rw[List.length_set]
theorem embR_succ {nx:Nat→Nat}{E:List (Int×Int)}{n k:Nat}:embR nx E n (k+1)=embS nx (embS nx (embR nx E n k) (tlE E k) (2*k)) (hdE E k) (2*k+1):=by
 unfold embR; rw[List.range_succ,List.foldl_append]; rfl
theorem embR_len {nx:Nat→Nat}{E:List (Int×Int)}{n:Nat}:∀ {k:Nat},(embR nx E n k).length=n
 | 0=>by simp [embR]
 | k+1=>by rw[embR_succ,embS_len,embS_len,embR_len]
theorem embS_le {nx:Nat→Nat}{N c:Nat}{out:List (List Nat)}{x d:Nat} (hc:∀ d,d<N→nx d<N) (hi:∀ a b,a<N→b<N→nx a=nx b→a=b) (hd:d<N) (h:∀ x,(out.getD x []).length≤c):∀ y,((embS nx out x d).getD y []).length≤c+N:=fun y=>by
 unfold embS
 split
 ·have:=h y; omega
 ·rw[List.getD_eq_getElem?_getD,List.getElem?_set]
  split
  ·split
   ·rw[Option.getD_some,List.length_append,Go.Pla.orb_len]
    have:=h x
    have:=(bk_ok hc hi hd).2
    omega
   ·simp
  ·have:=h y
   rw[List.getD_eq_getElem?_getD] at this
   omega
abbrev xN (rows:List (List Nat)):List (List Int):=rows.map fun l=>l.map fun n=>((n:Nat):Int)
theorem Rw.setN {h h':AH}{lo:Nat}{vs:List AV}{out:List (List Nat)}{x:Nat}{v v':AV}{xs':List Nat} (R:Rw h lo vs (xN out)) (hx:x<out.length) (hv:vs[x]?=some v) (i':IsSl h' 1 lo v' (nC xs')) (fr:∀ c,c<h.next→(∀ b n,v=.sl b 0 n n→c≠b)→h'.get c=h.get c) (nw:∀ b n,v'=.sl b 0 n n→h.next≤b):Rw h' lo (vs.set x v') (xN (out.set x xs')):=by
 have hxv:x<vs.length:=by rw[R.1]; simpa [xN] using hx
 refine⟨by rw[List.length_set,R.1]; simp [xN],fun i w ys e1 e2=>?_,fun i j b n b' n' hij e1 e2=>?_⟩
 ·by_cases hix:i=x
  ·subst hix
   rw[List.getElem?_set_self hxv] at e1
   simp only[xN,List.getElem?_map] at e2
   rw[List.getElem?_set_self hx] at e2
   simp only[Option.some.injEq,Option.map_some] at e1 e2
   subst e1 e2
   exact i'
  ·rw[List.getElem?_set_ne (Ne.symm hix)] at e1
   simp only[xN,List.getElem?_map] at e2
   rw[List.getElem?_set_ne (Ne.symm hix)] at e2
   have:=R.2.1 i w ys e1 (by simp only[xN,List.getElem?_map]; exact e2)
   refine this.cong fun b n e hb=>fr b (this.lt e) fun b' n' e'=>?_
   exact R.2.2 i x b n b' n' hix (by rw[e1,e]) (by rw[hv,e'])
 ·by_cases hix:i=x
  ·subst hix
   rw[List.getElem?_set_self hxv] at e1
   rw[List.getElem?_set_ne hij] at e2
   have h1:=nw b n (by simpa using e1)
   have h2:=(R.lt e2).1
   omega
  ·rw[List.getElem?_set_ne (Ne.symm hix)] at e1
   by_cases hjx:j=x
   ·subst hjx
    rw[List.getElem?_set_self hxv] at e2
    have h1:=nw b' n' (by simpa using e2)
    have h2:=(R.lt e1).1
    omega
   ·rw[List.getElem?_set_ne (Ne.symm hjx)] at e2
    exact R.2.2 i j b n b' n' hij e1 e2
structure EmbI (n:Nat) (E:List (Int×Int)) (hE:InG n E) (hL:∀ i,i<E.length→tlE E i≠hdE E i) (rows:List (List Nat)):Prop where
 dual:∃ (Φ:Type) (l r:Nat→Φ),Dual (grE n E hE hL) (List.range E.length) l r
 ex:∃ (lm:List (Int×AV)) (nx:Nat→Nat),(∀ l,Lst (grE n E hE hL) l→∀ b∈canon E.length l,BlkT (grE n E hE hL) E b lm)∧(∀ d,d<2*E.length→nx d<2*E.length)∧(∀ d,d<2*E.length→lkG lm ((d:Nat):Int)=some (.int .i64 (nx d:Nat)))∧(∀ a b,a<2*E.length→b<2*E.length→nx a=nx b→a=b)∧(∀ d,d<2*E.length→endE E (nx d)=endE E d)∧rows=embR nx E n E.length
set_option maxHeartbeats 8000000 in
theorem pembed_ok {h:AH}{n:Int}{ev:AV}{E:List (Int×Int)} (he:SlE h ev E) (hxl:E.length<2 ^ 40) :
 C prg 8 [.agg [.int .i64 n,ev]] h fun r h'=>Ext h.next h h'∧((∃ rv,r=.tup [rv,.bool false]∧(PlainP n E→∀ hE hL,¬ ∃ (Φ:Type) (l r:Nat→Φ),Dual (grE n.toNat E hE hL) (List.range E.length) l r))∨(PlainP n E∧∃ ob vs rows,r=.tup [.sl ob 0 n.toNat n.toNat,.bool true]∧h.next≤ob∧h'.get ob=some (.cells vs 1 false)∧vs.length=n.toNat∧Rw h' (ob+1) vs (xN rows)∧∀ hE hL,EmbI n.toNat E hE hL rows)):=by
 obtain⟨ec,eo⟩:=he.cells
 have el:=he.len
 rw[List.length_map] at el
 refine C.func pf8 ?_
 refine W.seq (W.run (by simp only[am,evOp,simprocAttr,initTm]<;>rfl) ?_)
 have x0:Ext h.next h (h.new (.cells [.int .i64 n,ev] 2 false)):=Ext.new (Nat.le_refl _)
 have g0:(h.new (.cells [.int .i64 n,ev] 2 false)).get h.next=some (.cells [.int .i64 n,ev] 2 false):=by rw[AH.get_new,if_pos rfl]
 have n0:(h.new (.cells [.int .i64 n,ev] 2 false)).next=h.next+1:=rfl
 generalize (h.new (.cells [.int .i64 n,ev] 2 false))=h1 at *
 have rA:rdCells h1 h.next 0 2=some [.int .i64 n,ev]:=by rw[rdCells_of g0]; rfl
 refine W.seq (W.seq (W.reg (G.gcall 1 (by simp only[am,evOp,simprocAttr,initTm,rA]<;>rfl) rfl (by simp only[am,evOp,simprocAttr,initTm,rA]) (by simp only[am,evOp,simprocAttr,initTm,rA]<;>rfl) (pplain_ok (he.ext x0 (Nat.le_refl _)) hxl) fun r h2 hq=>?_)))
 obtain⟨b,rfl,hb,x2⟩:=hq
 have X2:Ext h.next h h2:=x0.trans (x2.mono (by omega))
 refine G.run (by simp only[am,evOp,simprocAttr]<;>rfl) ?_
 cases hbv:b with
 | false =>
   refine W.yes (by simp only[am,evOp,simprocAttr,hbv,Bool.not_false]) ?_
   refine W.seq (W.run (by simp only[am,evOp,simprocAttr]<;>rfl) ?_)
   refine W.ret ⟨.tup [.nils,.bool false],(by simp only[rs,rf8,am,evOp,simprocAttr]<;>rfl),X2,.inl ⟨_,rfl,fun hp=>?_⟩⟩
   rw[hbv] at hb
   exact absurd (hb.2 hp) (by simp)
 | true =>
 rw[hbv] at hb
 have hP:=hb.1 rfl
 clear hb
 obtain⟨k,rfl⟩:=plain_nat hP
 refine W.no (by simp only[am,evOp,simprocAttr,hbv,Bool.not_true]) (W.skip ?_)
 have hE:=ing_of hP.1
 have hL:=nl_of hP.1 hP.2.1
 obtain⟨m1,m2,m3,m4⟩:=may_of hP.1
 have hW:Pln (grE k E hE hL) (List.range E.length):=pl_whole hP.2.2
 have n2:=x2.nx
 have g2:h2.get h.next=some (.cells [.int .i64 (k:Nat),ev] 2 false):=by rw[x2.gt _ (by omega)]; exact g0
 refine W.seq (W.runs (fun ts h'=>h'=h2.new (.mapo [] 0)∧tget ts 1=.ptr h.next 0∧tget ts 4=.mp h2.next) (by simp only[am,evOp,simprocAttr,initTm]) ?_)
 rintro ts h3 ⟨rfl,e1,e4⟩
 have x3:Ext h2.next h2 (h2.new (.mapo [] 0)):=Ext.new (Nat.le_refl _)
 have g3:(h2.new (.mapo [] 0)).get h2.next=some (.mapo [] 0):=by rw[AH.get_new,if_pos rfl]
 have n3:(h2.new (.mapo [] 0)).next=h2.next+1:=rfl
 generalize h2.new (.mapo [] 0)=h3 at *
 obtain⟨mb,hmb⟩:∃ mb,mb=h2.next:=⟨_,rfl⟩
 rw[← hmb] at e4 g3
 have X3:Ext h.next h h3:=X2.trans (x3.mono (by omega))
 have g3b:h3.get h.next=some (.cells [.int .i64 (k:Nat),ev] 2 false):=by rw[x3.gt _ (by omega)]; exact g2
 have rA3:rdCells h3 h.next 0 2=some [.int .i64 (k:Nat),ev]:=by rw[rdCells_of g3b]; rfl
 have hbl:=blocks_ok (n:=k) (he.ext X3 (Nat.le_refl _)) hP.1 hE hL
 unfold gW at hbl
 refine W.seq (W.seq (W.reg (G.gcall 1 (by simp only[am,evOp,simprocAttr,e1,rA3]<;>rfl) rfl (by simp only[am,evOp,simprocAttr,e1,rA3]) (by simp only[am,evOp,simprocAttr,e1,rA3]<;>rfl) (hbl) fun blv h4 hq=>?_)))
 obtain⟨hbs,x4⟩:=hq
 obtain⟨lst,hlst⟩:=Go.Blk.lst_ex (grE k E hE hL)
 have bl4:=hbs lst hlst
 obtain⟨bs,hbse⟩:∃ bs,bs=canon E.length lst:=⟨_,rfl⟩
 rw[← hbse] at bl4
 have lb:=bl4.len
 refine G.run (by simp only[am,evOp,simprocAttr,lb]<;>rfl) ?_
 have n4:=x4.nx
 have X4:Ext h.next h h4:=X3.trans (x4.mono (by omega))
 have bsl:bs.length≤E.length:=by rw[hbse]; exact cn_len
 have mem:∀ b∈bs,IsBlock (grE k E hE hL) b∧b≠[]∧(∀ i∈b,i<E.length)∧b.length≤E.length∧b.Nodup:=fun b hb=>by
  rw[hbse] at hb
  exact⟨cn_block hlst hb,cn_lt hb⟩
 have pl:∀ b∈bs,Pln (grE k E hE hL) b:=fun b hb=>pln_sub hW (mem b hb).2.2.2.2 fun e he=>List.mem_range.2 ((mem b hb).2.2.1 e he)
 have dis:∀ b∈bs,∀ c∈bs,∀ i,i∈b→i∈c→b=c:=fun b hb c hc i h1 h2=>by
  rw[hbse] at hb hc
  exact cn_dis hb hc h1 h2
 have low:=lst_low hlst
 have cov:∀ i,i<E.length→∃ b∈bs,i∈b:=fun i hi=>by rw[hbse]; exact cn_cov low.1 low.2 hi
 have m4':MapI h4 mb []:=MapG.nil (c:=0) (by rw[x4.gt _ (by omega)]; exact g3)
 refine W.rng (α:=List (Int×AV)) (N:=bs.length) (fun _ _=>[(19,blv),(1,.ptr h.next 0),(4,.mp mb)])
  (fun j lm h'=>MapI h' mb lm∧Ext h.next h h'∧Kp (fun c=>c=mb) h4 h'∧∀ b∈bs.take j,BlkT (grE k E hE hL) E b lm) [] (fun _ _=>rfl) (by omega) (by simp only[hl,am,evOp,simprocAttr,e1,e4]) ⟨m4',X4,Kp.refl,by simp⟩ ?_ ?_
 ·clear e1 e4
  rintro j lm ts h5 hj ⟨m5,X5,k5,t5⟩ ⟨e21,e20,e19,e1,e4,-⟩
  simp only at e21 e20 e19 e1 e4
  have n5:=k5.nx
  have bl5:=bl4.cong fun c h1 h2=>k5.gt c h2 (by omega)
  obtain⟨bo,oo,bv,a1,r1,i1,_⟩:=bl5.at hj
  have hbm:bs[j]∈bs:=List.getElem_mem hj
  have htk:bs.take (j+1)=bs.take j++[bs[j]]:=by rw[List.take_add_one,List.getElem?_eq_getElem hj]; rfl
  obtain⟨b,hbe⟩:∃ b,b=bs[j]:=⟨_,rfl⟩
  rw[← hbe] at i1 hbm htk
  obtain⟨hblk,hbne,hblt,hbln,hbnd⟩:=mem b hbm
  have g5:h5.get h.next=some (.cells [.int .i64 (k:Nat),ev] 2 false):=by rw[k5.gt _ (by omega) (by omega),x4.gt _ (by omega)]; exact g3b
  have hnew:b∉bs.take j:=fun hc=>by
   obtain⟨i,hi⟩:=List.exists_mem_of_ne_nil b hbne
   obtain⟨q,hq,hqe⟩:=List.mem_iff_getElem.1 hc
   rw[List.length_take] at hq
   rw[List.getElem_take] at hqe
   have hfl:bs.flatten.Nodup:=by rw[hbse]; exact cn_flat
   have h2:=(List.pairwise_flatten.1 hfl).2
   rw[List.pairwise_iff_getElem] at h2
   have:=h2 q j (by omega) hj (by omega) i (by rw[hqe]; exact hi) i (by rw[← hbe]; exact hi)
   exact this rfl
  refine W.seq (W.run (by simp only[am,evOp,simprocAttr,e19,e21,a1,r1]<;>rfl) ?_)
  have lv:=(nC_sl i1).len
  rw[List.length_map,List.length_map] at lv
  have kn:(h5.keep 3).next=h5.next+3:=AH.keep_next 3 h5
  have kg:∀ c,(h5.keep 3).get c=if h5.next≤c∧c<h5.next+3 then some .resv else h5.get c:=fun c=>AH.keep_get 3 h5
  have k1:(h5.keep 3).get h.next=some (.cells [.int .i64 (k:Nat),ev] 2 false):=by rw[kg,if_neg (by omega)]; exact g5
  have ra:rdCells (h5.keep 3) h.next 0 2=some [.int .i64 (k:Nat),ev]:=by rw[rdCells_of k1]; rfl
  have rb:rdCells (h5.keep 3) h.next 1 1=some [ev]:=rd_at k1 rfl
  have rc:rdCells (h5.keep 3) h.next 0 1=some [.int .i64 (k:Nat)]:=rd_at k1 rfl
  have mva:=mksV_nat (z:=[.bool false]) (bytes:=1) (n:=E.length) (by unfold tooMany; omega) (by unfold tooMany; omega)
  have mvb:=mksV_nat (z:=[.bool false]) (bytes:=1) (n:=k) (by unfold tooMany; omega) (by unfold tooMany; omega)
  have q0:(h5.keep 3).get h5.next=some .resv:=by rw[kg,if_pos ⟨by omega,by omega⟩]
  obtain⟨m1',hm1⟩:∃ m,m=(h5.keep 3).put h5.next (.cells (repl [.bool false] E.length) 1 false):=⟨_,rfl⟩
  have v1:Upd (h5.keep 3) m1' h5.next (.cells (repl [.bool false] E.length) 1 false):=by rw[hm1]; exact Upd.put q0
  have q1:m1'.get (h5.next+1)=some .resv:=by rw[v1.ne (by omega),kg,if_pos ⟨by omega,by omega⟩]
  obtain⟨m2',hm2⟩:∃ m,m=m1'.put (h5.next+1) (.cells (repl [.bool false] k) 1 false):=⟨_,rfl⟩
  have v2:Upd m1' m2' (h5.next+1) (.cells (repl [.bool false] k) 1 false):=by rw[hm2]; exact Upd.put q1
  have q2:m2'.get (h5.next+2)=some .resv:=by rw[v2.ne (by omega),v1.ne (by omega),kg,if_pos ⟨by omega,by omega⟩]
  obtain⟨m3',hm3⟩:∃ m,m=m2'.put (h5.next+2) (.cells [.int .i64 (k:Nat),ev,bv,.sl h5.next 0 E.length E.length,.sl (h5.next+1) 0 k k,.nils] 6 false):=⟨_,rfl⟩
  have v3:Upd m2' m3' (h5.next+2) (.cells [.int .i64 (k:Nat),ev,bv,.sl h5.next 0 E.length E.length,.sl (h5.next+1) 0 k k,.nils] 6 false):=by rw[hm3]; exact Upd.put q2
  have bx:=boxV_agg (k:=6) (cs:=[.int .i64 (k:Nat),ev,bv,.sl h5.next 0 E.length E.length,.sl (h5.next+1) 0 k k,.nils]) rfl
  refine W.seq (W.runsK (fun ts h2=>h2=m3'∧Held [(21,.int .i64 (j:Nat)),(20,.int .i64 (bs.length:Nat)),(19,blv),(1,.ptr h.next 0),(4,.mp mb),(6,bv),(7,.ptr (h5.next+2) 0)] ts)
   (by simp only[am,evOp,simprocAttr,e21,e20,e19,e1,e4,held_cons,held_nil,ra,rb,rc,el,evN_some,evNew_mks q0,← hm1,evNew_mks q1,← hm2,evNew_box q2,mva,mvb,bx,ec,eo,i1.cells.1,i1.cells.2,List.take_succ_cons,← hm3]) ?_)
  rintro ts h6 ⟨hh6,e21,e20,e19,e1,e4,e6,e7,-⟩
  subst hh6
  clear hm1 hm2 hm3
  have n6:h6.next=h5.next+3:=by rw[v3.nx,v2.nx,v1.nx,kn]
  have gk:∀ c,c<h5.next→h6.get c=h5.get c:=fun c hc=>by rw[v3.ne (by omega),v2.ne (by omega),v1.ne (by omega),kg,if_neg (by omega)]
  have x6:Ext h5.next h5 h6:=⟨by omega,gk,fun c hc=>by rw[v3.ty,v2.ty,v1.ty]; exact AH.keep_tyOf 3 h5⟩
  have gL:h6.get h5.next=some (.cells (bl E.length fun _=>false) 1 false):=by rw[v3.ne (by omega),v2.ne (by omega),v1.get,bl_repl]
  have gV:h6.get (h5.next+1)=some (.cells (bl k fun _=>false) 1 false):=by rw[v3.ne (by omega),v2.get,bl_repl]
  have gB:=v3.get
  clear v1 v2 v3 q0 q1 q2 kg kn k1 ra rb rc bx mva mvb
  have X6:Ext h.next h h6:=X5.trans (x6.mono (by omega))
  have he6:=he.ext X6 (Nat.le_refl _)
  have i6:=i1.ext x6 (Nat.le_refl _)
  have m6:MapI h6 mb lm:=m5.cong (gk _ m5.lt)
  have ltm:=m5.lt
  have hmbg:h.next≤mb:=by have:=X2.nx; omega
  have Xe:∀ {h':AH},Kp (fun c=>c=mb) h5 h'→Ext h.next h h':=fun {h'} q=>⟨Nat.le_trans X5.nx q.nx,fun c hc=>by rw[q.gt c (by have:=X5.nx; omega) (by omega)]; exact X5.gt c hc,fun c hc=>by rw[q.ty c (by have:=X5.nx; omega)]; exact X5.ty c hc⟩
  have lev:∀ {c o q z},ev=.sl c o q z→c<h.next:=fun {c o q z} e=>he.lt e
  have lbv:∀ {c q},bv=.sl c 0 q q→h3.next≤c∧c<h5.next:=fun {c q} e=>⟨by
   rcases i1 with ⟨h1,_⟩|⟨b',m',hb,h1,_⟩
   ·rw[h1] at e; cases e
   ·rw[h1] at e; cases e; exact hb,i1.lt e⟩
  have oev:Off (fun c=>h.next≤c) ev:=by
   cases hq:ev with
   | sl c o q z=>exact fun q=>by have:=lev hq; omega
   | _=>trivial
  have obv:∀ S:Nat→Prop,(∀ c,S c→c<h3.next∨h5.next≤c)→Off S bv:=fun S hS=>by
   rcases i1 with ⟨h1,_⟩|⟨b',m',hb,h1,_⟩
   ·rw[h1]; trivial
   ·rw[h1]; intro q
    have:=lbv h1
    have:=hS _ q
    omega
  have u6:Bu h6 (h5.next+2) k ev bv E b h5.next (h5.next+1) (fun _=>false) (fun _=>false) .nils :=
   ⟨gB,he6,nC_sl i6,gL,gV,⟨by omega,by omega,by omega⟩,off_imp oev fun c q=>by omega,obv _ fun c q=>by omega⟩
  have lv6:=(nC_sl i6).len
  rw[List.length_map,List.length_map] at lv6
  by_cases hone:b.length=1
  ·obtain⟨e,rfl⟩:∃ e,b=[e]:=by
    match b,hone with
    | [e],_=>exact⟨e,rfl⟩
   have d1:decide ((([e]:List Nat).length:Nat)=(1:Int))=true:=rfl
   refine W.seq (W.seq (W.runs (fun ts h'=>h'=h6∧Held [(21,.int .i64 (j:Nat)),(20,.int .i64 (bs.length:Nat)),(19,blv),(1,.ptr h.next 0),(4,.mp mb),(6,bv),(38,.bool true)] ts) (by simp only[am,evOp,simprocAttr,e21,e20,e19,e1,e4,e6,lv6,held_cons,held_nil]<;>rfl) ?_))
   rintro ts h6' ⟨rfl,e21,e20,e19,e1,e4,e6,e38,-⟩
   refine W.yes (by simp only[am,evOp,simprocAttr,e38]) ?_
   obtain⟨b8,o8,a8,r8,lb8⟩:=(nC_sl i6).at1 (i:=0) (y:=.int .i64 (e:Nat)) rfl
   rw[Int.natCast_zero] at a8
   have heE:e<E.length:=hblt e (by simp)
   have w2q:IntKind.i64.wrap (2*((e:Nat):Int))=((2*e:Nat):Int):=by
    have:(2*((e:Nat):Int))=((2*e:Nat):Int):=by omega
    rw[this]; exact wr64 (by omega) (by omega)
   have w2q1:IntKind.i64.wrap (((2*e:Nat):Int)+1)=((2*e+1:Nat):Int):=wr64 (by omega) (by omega)
   obtain⟨h7,s7,men7,⟨oo7,U7⟩,_,st7⟩:=m6.men keyI (.int .i64 0) ((2*e:Nat):Int)
   obtain⟨h8,mst8,m8,oo8,U8⟩:=st7 (.int .i64 ((2*e:Nat):Int))
   obtain⟨h9,s9,men9,⟨oo9,U9⟩,_,st9⟩:=m8.men keyI (.int .i64 0) ((2*e+1:Nat):Int)
   obtain⟨h10,mst10,m10,oo10,U10⟩:=st9 (.int .i64 ((2*e+1:Nat):Int))
   have hb8:b8≠mb:=fun q=>by
    obtain⟨es,c,g,_⟩:=m6
    rw[← q] at g
    unfold rdCells at r8
    rw[g] at r8
    simp at r8
   have r87:rdCells h7 b8 o8 1=some [.int .i64 (e:Nat)]:=by rw[rdCells_eq (U7.ne hb8)]; exact r8
   refine W.seq (W.runs (fun ts h'=>h'=h10∧Held [(21,.int .i64 (j:Nat)),(20,.int .i64 (bs.length:Nat)),(19,blv),(1,.ptr h.next 0),(4,.mp mb)] ts) (by simp only[am,evOp,simprocAttr,e21,e20,e19,e1,e4,e6,a8,r8,w2q,w2q1,men7,r87,mst8,men9,mst10,held_cons,held_nil]) ?_)
   rintro ts h11 ⟨rfl,hh⟩
   have k6:Kp (fun c=>c=mb) h6' h11:=(((U7.kp (S:=fun c=>c=mb) rfl).trans (U8.kp (S:=fun c=>c=mb) rfl) (fun _ _ q=>q)).trans (U9.kp (S:=fun c=>c=mb) rfl) (fun _ _ q=>q)).trans (U10.kp (S:=fun c=>c=mb) rfl) (fun _ _ q=>q)
   have k5':Kp (fun c=>c=mb) h5 h11:=(x6.kp (S:=fun c=>c=mb) (Nat.le_refl _)).trans k6 (fun _ _ q=>q)
   refine W.exit ⟨fun _=>⟨_,⟨m10,Xe k5',k5.trans k5' (fun _ _ q=>q),fun b' hb'=>?_⟩,hh⟩,fun e=>absurd rfl e⟩
   rw[htk,List.mem_append,List.mem_singleton] at hb'
   rcases hb' with hb'|rfl
   ·refine (t5 b' hb').keep fun d hd=>?_
    have hne:d / 2≠e:=fun q=>by
     rw[q] at hd
     exact hnew (dis b' (List.mem_of_mem_take hb') _ hbm e hd (by simp)▸hb')
    rw[lkG_up,if_neg (by omega),lkG_up,if_neg (by omega)]
   ·exact .inl ⟨e,rfl,by rw[lkG_up,if_neg (by omega),lkG_up,if_pos rfl],by rw[lkG_up,if_pos rfl]⟩
  ·have d1:decide (((b.length:Nat):Int)=1)=false:=by rw[decide_eq_false_iff_not]; omega
   refine W.seq (W.seq (W.runs (fun ts h'=>h'=h6∧Held [(21,.int .i64 (j:Nat)),(20,.int .i64 (bs.length:Nat)),(19,blv),(1,.ptr h.next 0),(4,.mp mb),(7,.ptr (h5.next+2) 0),(38,.bool false)] ts) (by simp only[am,evOp,simprocAttr,e21,e20,e19,e1,e4,e6,e7,lv6,d1,held_cons,held_nil]<;>rfl) ?_))
   rintro ts h6' ⟨rfl,e21,e20,e19,e1,e4,e7,e38,-⟩
   refine W.no (by simp only[am,evOp,simprocAttr,e38]) (W.skip ?_)
   obtain⟨e0,b',rfl⟩:=List.exists_cons_of_ne_nil hbne
   obtain⟨k0,b'',rfl⟩:∃ k0 b'',b'=k0::b'':=List.exists_cons_of_ne_nil fun q=>by subst q; exact hone rfl
   have hke:k0≠e0:=fun q=>by subst q; simp at hbnd
   have hbond:=Go.Pla.blk_bond hW hblk hbnd hblt
   have hlink:=Go.Pla.blk_link hblk hblt
   have hplb:=pl _ hbm
   refine W.seq (W.seq (W.reg (G.gcall 1 (by simp only[am,evOp,simprocAttr,e7]<;>rfl) rfl (by simp only[am,evOp,simprocAttr,e7]) (by simp only[am,evOp,simprocAttr,e7]<;>rfl) (pbrun_ok u6 hE hL (by omega) (by omega) hblt (by omega) hplb hbond hlink (k0:=k0) (by simp) hke) fun rv h7 hq=>?_)))
   obtain⟨k7,hq⟩:=hq
   have k57:Kp (fun c=>c=mb) h5 h7:=(x6.kp (S:=fun c=>c=mb) (Nat.le_refl _)).trans k7 (fun c hc q=>by rcases q with q|q|q<;>omega)
   have n7:=k7.nx
   rcases hq with ⟨rfl,hno⟩|⟨rfl,H,V,fav,F,u7,F7,fl7,I7,hall⟩
   ·refine G.run (by simp only[am,evOp,simprocAttr]<;>rfl) ?_
    refine W.yes (by simp only[am,evOp,simprocAttr,Bool.not_false]) ?_
    refine W.seq (W.run (by simp only[am,evOp,simprocAttr]<;>rfl) ?_)
    refine W.ret ⟨.tup [.nils,.bool false],(by simp only[rs,rf8,am,evOp,simprocAttr]<;>rfl),Xe k57,.inl ⟨_,rfl,fun _ hE' hL' ⟨Φ,l,r,d⟩=>hno ?_⟩⟩
    obtain⟨l',r',d'⟩:=Go.Pla.sub_dual List.nodup_range hbnd (fun e he=>List.mem_range.2 (hblt e he)) d
    exact⟨Φ,l',r',d'⟩
   ·refine G.run (by simp only[am,evOp,simprocAttr]<;>rfl) ?_
    refine W.no (by simp only[am,evOp,simprocAttr,Bool.not_true]) (W.skip ?_)
    have m7:MapI h7 mb lm:=m6.cong (k7.gt mb (by omega) (by omega))
    refine W.reg (G.gcall 2 (by simp only[am,evOp,simprocAttr,e7,e4]<;>rfl) rfl (by simp only[am,evOp,simprocAttr,e7,e4]) (by simp only[am,evOp,simprocAttr,e7,e4]<;>rfl) (pbturns_ok u7 hE hL (by omega) (by omega) hblt (by omega) hplb F7 (by omega) (fun f hf=>I7.lay.circ f hf) m7 ⟨by omega,by omega,by omega,by omega⟩ (off_imp oev fun c q=>by omega) (obv _ fun c q=>by omega)) fun _ h8 hq=>?_)
    obtain⟨lm',m8,k8,t8⟩:=hq
    refine G.run (by simp only[am,evOp,simprocAttr]<;>rfl) ?_
    have k58:=k57.trans k8 (fun _ _ q=>q)
    refine⟨lm',⟨m8,Xe k58,k5.trans k58 (fun _ _ q=>q),fun c hc=>?_⟩,by simp only[hl,am,evOp,simprocAttr,e21,e20,e19,e1,e4]⟩
    rw[htk,List.mem_append,List.mem_singleton] at hc
    rcases hc with hc|rfl
    ·refine (t5 c hc).keep fun d hd=>trn_keep t8 fun q=>?_
     exact hnew (dis c (List.mem_of_mem_take hc) _ hbm _ hd q▸hc)
    ·exact trn_blk t8 I7 hall
 ·rintro lm ts h5 ⟨m5,X5,k5,t5⟩ ⟨e19,e1,e4,-⟩
  rw[List.take_of_length_le (Nat.le_refl _)] at t5
  obtain⟨nx,nc,nk,ni,nend⟩:=nx_whole t5 pl cov dis
  have hdual:∃ (Φ:Type) (l r:Nat→Φ),Dual (grE k E hE hL) (List.range E.length) l r:=Go.Pla.whole_dual (bs:=bs) (by rw[hbse]; exact cn_flat) (fun b hb=>(mem b hb).1) (fun i=>⟨fun hi=>cov i hi,fun ⟨b,hb,hib⟩=>(mem b hb).2.2.1 i hib⟩) fun b hb=>blkT_dual (t5 b hb) (pl b hb)
  have hEmb:∀ hE hL,EmbI k E hE hL (embR nx E k E.length):=fun _ _=>⟨hdual,lm,nx,fun l hl b hb=>t5 b (by rw[hbse,Go.Blk.canon_congr (m:=E.length) (l:=lst) (l':=l) fun i hi=>hlst.uniq hl hi]; exact hb),nc,nk,ni,nend,rfl⟩
  have n5:=k5.nx
  have g5:h5.get h.next=some (.cells [.int .i64 (k:Nat),ev] 2 false):=by rw[k5.gt _ (by omega) (by have:=X2.nx; omega),x4.gt _ (by omega)]; exact g3b
  have r5a:rdCells h5 h.next 0 1=some [.int .i64 (k:Nat)]:=rd_at g5 rfl
  have mk:=mksA_nat (h:=h5) (z:=[.nils]) (e:=1) (bytes:=24) (n:=k) (by unfold tooMany; omega) (by unfold tooMany; omega)
  have x6:Ext h5.next h5 (h5.new (.cells (repl [.nils] k) 1 false)):=Ext.new (Nat.le_refl _)
  have g6:(h5.new (.cells (repl [.nils] k) 1 false)).get h5.next=some (.cells (repl [.nils] k) 1 false):=by rw[AH.get_new,if_pos rfl]
  have n6:(h5.new (.cells (repl [.nils] k) 1 false)).next=h5.next+1:=rfl
  refine W.seq (W.runs (fun ts h'=>h'=h5.new (.cells (repl [.nils] k) 1 false)∧tget ts 1=.ptr h.next 0∧tget ts 4=.mp mb∧tget ts 8=.sl h5.next 0 k k) (by simp only[am,evOp,simprocAttr,e1,e4,r5a,mk]) ?_)
  rintro ts h6 ⟨rfl,e1,e4,e8⟩
  generalize h5.new (.cells (repl [.nils] k) 1 false)=h6 at *
  obtain⟨ob,hob⟩:∃ ob,ob=h5.next:=⟨_,rfl⟩
  rw[← hob] at e8 g6 n6
  have X6:Ext h.next h h6:=X5.trans (x6.mono X5.nx)
  have ltm:=m5.lt
  have hnX:=X5.nx
  have m6:MapI h6 mb lm:=m5.cong (x6.gt mb ltm)
  have g6b:h6.get h.next=some (.cells [.int .i64 (k:Nat),ev] 2 false):=by rw[x6.gt _ (by have:=X2.nx; omega)]; exact g5
  have r6b:rdCells h6 h.next 1 1=some [ev]:=rd_at g6b rfl
  have rl:(repl [AV.nils] k).length=k:=by rw[repl_rep,List.length_replicate]
  have Rw0:Rw h6 (ob+1) (repl [.nils] k) (xN (embR nx E k 0)):=by
   have e0:xN (embR nx E k 0)=List.replicate k []:=by simp [xN,embR]
   rw[e0,repl_rep]
   refine⟨by simp,fun i v xs h1 h2=>?_,fun i j b n' b' n'' _ h1=>?_⟩
   ·rw[List.getElem?_replicate] at h1 h2
    split at h1
    ·rename_i hi
     rw[if_pos hi] at h2
     simp only[Option.some.injEq] at h1 h2
     subst h1 h2
     exact .inl ⟨rfl,rfl⟩
    ·cases h1
   ·rw[List.getElem?_replicate] at h1
    split at h1<;>cases h1
  refine W.seq (W.seq (W.run (by simp only[am,evOp,simprocAttr,e1,r6b,el]<;>rfl) ?_))
  refine W.rng (α:=List AV) (N:=E.length) (fun _ _=>[(74,ev),(8,.sl ob 0 k k),(4,.mp mb)])
   (fun i vs h'=>h'.get ob=some (.cells vs 1 false)∧vs.length=k∧Rw h' (ob+1) vs (xN (embR nx E k i))∧Ext h.next h h'∧MapI h' mb lm∧h6.next≤h'.next∧∀ x,((embR nx E k i).getD x []).length≤i*(4*E.length)) (repl [.nils] k) (fun _ _=>rfl) (by omega) (by simp only[hl,am,evOp,simprocAttr,e8,e4]) ⟨g6,rl,Rw0,X6,m6,Nat.le_refl _,fun x=>by simp [embR,List.getD,List.getElem?_replicate]; split<;>simp⟩ ?_ ?_
  ·clear e1 e4 e8
   rintro i vs ts h7 hi ⟨g7,vl,R7,X7,m7,n7,len7⟩ ⟨e76,e75,e74,e8,e4,-⟩
   simp only at e76 e75 e74 e8 e4
   obtain⟨q1,q2,q3⟩:=hE i hi
   obtain⟨b9,o9,a9,r9,_,_⟩:=(he.ext X7 (Nat.le_refl _)).at (map_at (f:=eE) hi)
   rw[q1] at r9
   have r9:rdCells h7 b9 o9 2=some [.int .i64 (tlE E i:Nat),.int .i64 (hdE E i:Nat)]:=r9
   obtain⟨h8,w8,x8,g8,n8⟩:=mk_loc (h:=h7) (z:=[.int .i64 0,.int .i64 0]) (cs:=[.int .i64 (tlE E i:Nat),.int .i64 (hdE E i:Nat)]) (e:=2) rfl
   refine W.seq (W.runs (fun ts h'=>h'=h8∧Held [(76,.int .i64 (i:Nat)),(75,.int .i64 (E.length:Nat)),(74,ev),(8,.sl ob 0 k k),(4,.mp mb),(9,.int .i64 (i:Nat)),(10,.ptr h7.next 0)] ts) (by simp only[am,evOp,simprocAttr,e76,e75,e74,e8,e4,a9,r9,w8,held_cons,held_nil]) ?_)
   rintro ts h8' ⟨rfl,e76,e75,e74,e8,e4,e9,e10,-⟩
   have rt:rdCells h8' h7.next 0 1=some [.int .i64 (tlE E i:Nat)]:=rd_at g8 rfl
   have rh:rdCells h8' h7.next 1 1=some [.int .i64 (hdE E i:Nat)]:=rd_at g8 rfl
   refine W.seq (W.runs (fun ts h'=>h'=h8'∧Held [(76,.int .i64 (i:Nat)),(75,.int .i64 (E.length:Nat)),(74,ev),(8,.sl ob 0 k k),(4,.mp mb),(9,.int .i64 (i:Nat)),(85,.agg [.int .i64 (tlE E i:Nat),.int .i64 (hdE E i:Nat)]),(86,.int .i64 0)] ts) (by simp only[am,evOp,simprocAttr,e76,e75,e74,e8,e4,e9,e10,rt,rh,held_cons,held_nil]) ?_)
   rintro ts h8'' ⟨rfl,hh⟩
   obtain⟨oq,hoq⟩:∃ oq:Nat→List (List Nat),oq=fun q=>match q with|0=>embR nx E k i|1=>embS nx (embR nx E k i) (tlE E i) (2*i)|_=>embR nx E k (i+1):=⟨_,rfl⟩
   have oq0:oq 0=embR nx E k i:=by rw[hoq]; rfl
   have oq1:oq 1=embS nx (oq 0) (tlE E i) (2*i+0):=by rw[hoq]; rfl
   have oq2:oq 2=embS nx (oq 1) (hdE E i) (2*i+1):=by rw[hoq]; exact embR_succ
   have oq2':oq 2=embR nx E k (i+1):=by rw[hoq]; rfl
   have oql:∀ q,q≤2→(oq q).length=k:=fun q hq=>by
    have:q=0∨q=1∨q=2:=by omega
    rcases this with rfl|rfl|rfl
    ·rw[oq0,embR_len]
    ·rw[oq1,embS_len,oq0,embR_len]
    ·rw[oq2,embS_len,oq1,embS_len,oq0,embR_len]
   refine W.block (W.loop (fun m ts h'=>∃ q vs,m=2-q∧q≤2∧Held [(76,.int .i64 (i:Nat)),(75,.int .i64 (E.length:Nat)),(74,ev),(8,.sl ob 0 k k),(4,.mp mb),(9,.int .i64 (i:Nat)),(85,.agg [.int .i64 (tlE E i:Nat),.int .i64 (hdE E i:Nat)]),(86,.int .i64 (q:Nat))] ts∧h'.get ob=some (.cells vs 1 false)∧vs.length=k∧Rw h' (ob+1) vs (xN (oq q))∧Ext h.next h h'∧MapI h' mb lm∧h6.next≤h'.next∧∀ x,((oq q).getD x []).length≤i*(4*E.length)+q*(2*E.length)) ?_ (n:=2) ⟨0,vs,rfl,by omega,hh,by rw[x8.gt ob (by omega)]; exact g7,vl,by rw[oq0]; exact R7.cong fun c _ hc=>x8.gt c hc,X7.trans (x8.mono X7.nx),m7.cong (x8.gt mb m7.lt),by omega,by rw[oq0,Nat.zero_mul,Nat.add_zero]; exact len7⟩)
   clear hh g7 vl R7 X7 m7 n7 rt rh x8 g8 n8 w8 r9 a9
   rintro m ts h9 ⟨q,vs,rfl,hq2,⟨e76,e75,e74,e8,e4,e9,e85,e86,-⟩,g9,vl,R9,X9,m9,n9,len9⟩
   rcases Nat.lt_or_ge q 2 with hq|hq
   ·have dq:decide (((q:Nat):Int)<2)=true:=by rw[decide_eq_true_eq]; omega
    obtain⟨x,hx⟩:∃ x,x=if q=0 then tlE E i else hdE E i:=⟨_,rfl⟩
    have hxn:x<k:=by rw[hx]; split; exact q2; exact q3
    have ix:idxAA false 2 1 (.agg [.int .i64 (tlE E i:Nat),.int .i64 (hdE E i:Nat)]) (.int .i64 (q:Nat))=some (.int .i64 (x:Nat)):=by
     rw[hx]
     have:q=0∨q=1:=by omega
     rcases this with rfl|rfl<;>rfl
    have onext:oq (q+1)=embS nx (oq q) x (2*i+q):=by
     rw[hx]
     have:q=0∨q=1:=by omega
     rcases this with rfl|rfl
     ·exact oq1
     ·exact oq2
    refine W.seq (W.runs (fun ts h'=>h'=h9∧Held [(76,.int .i64 (i:Nat)),(75,.int .i64 (E.length:Nat)),(74,ev),(8,.sl ob 0 k k),(4,.mp mb),(9,.int .i64 (i:Nat)),(85,.agg [.int .i64 (tlE E i:Nat),.int .i64 (hdE E i:Nat)]),(86,.int .i64 (q:Nat)),(87,.bool true)] ts) (by simp only[am,evOp,simprocAttr,e76,e75,e74,e8,e4,e9,e85,e86,dq,held_cons,held_nil]) ?_)
    rintro ts h9' ⟨rfl,e76,e75,e74,e8,e4,e9,e85,e86,e87,-⟩
    refine W.seq (W.yes (by simp only[am,evOp,simprocAttr,e87]) (W.skip ?_))
    have hoql:=oql q hq2
    have hgl:(xN (oq q))[x]?=some (((oq q).getD x []).map fun n=>((n:Nat):Int)):=by
     simp only[xN,List.getElem?_map,List.getD_eq_getElem?_getD]
     rw[List.getElem?_eq_getElem (by omega)]; rfl
    obtain⟨v,hv⟩:∃ v,vs[x]?=some v:=⟨_,List.getElem?_eq_getElem (by omega)⟩
    obtain⟨row,hrow⟩:∃ row,row=(oq q).getD x []:=⟨_,rfl⟩
    rw[← hrow] at hgl
    have iv:IsSl h9' 1 (ob+1) v (nC row):=R9.2.1 x v _ hv hgl
    have hrl:=len9 x
    rw[← hrow] at hrl
    have hib:i*(4*E.length)≤128*(4*128):=Nat.mul_le_mul (by omega) (by omega)
    have hqb:q*(2*E.length)≤2*(2*128):=Nat.mul_le_mul (by omega) (by omega)
    have wd:IntKind.i64.wrap (2*((i:Nat):Int))=((2*i:Nat):Int):=by
     have:(2*((i:Nat):Int))=((2*i:Nat):Int):=by omega
     rw[this]; exact wr64 (by omega) (by omega)
    have wd2:IntKind.i64.wrap (((2*i:Nat):Int)+((q:Nat):Int))=((2*i+q:Nat):Int):=by
     have:((2*i:Nat):Int)+((q:Nat):Int)=((2*i+q:Nat):Int):=by omega
     rw[this]; exact wr64 (by omega) (by omega)
    have ixk:idx? ((x:Nat):Int) k=some x:=idx_nat hxn
    have rv:rdCells h9' ob x 1=some [v]:=rd_at g9 hv
    have hct:=contI_ok (y:=((2*i+q:Nat):Int)) (nC_sl iv) (by rw[List.length_map]; omega)
    rw[any_memN] at hct
    have wq:IntKind.i64.wrap (((q:Nat):Int)+1)=((q+1:Nat):Int):=wr64 (by omega) (by omega)
    refine W.seq (W.block ?_)
    refine W.seq (W.run (by simp only[am,evOp,simprocAttr,e85,e86,ix]<;>rfl) ?_)
    refine W.seq (W.runs (fun ts h'=>h'=h9'∧Held [(76,.int .i64 (i:Nat)),(75,.int .i64 (E.length:Nat)),(74,ev),(8,.sl ob 0 k k),(4,.mp mb),(9,.int .i64 (i:Nat)),(85,.agg [.int .i64 (tlE E i:Nat),.int .i64 (hdE E i:Nat)]),(86,.int .i64 (q:Nat)),(12,.int .i64 (x:Nat)),(13,.int .i64 ((2*i+q:Nat):Int))] ts) (by simp only[am,evOp,simprocAttr,e76,e75,e74,e8,e4,e9,e85,e86,wd,wd2,held_cons,held_nil]) ?_)
    rintro ts h9 ⟨rfl,e76,e75,e74,e8,e4,e9,e85,e86,e12,e13,-⟩
    refine W.seq (W.reg (G.gcall 5 (by simp only[am,evOp,simprocAttr,e8,e12,e13,ixk,Nat.mul_one,rv]<;>rfl) rfl (by simp only[am,evOp,simprocAttr,e8,e12,e13,ixk,Nat.mul_one,rv]) (by simp only[am,evOp,simprocAttr,e8,e12,e13,ixk,Nat.mul_one,rv]<;>rfl) (hct) fun r h10 hq'=>?_))
    obtain⟨rfl,x10⟩:=hq'
    have n10:=x10.nx
    have g10:h10.get ob=some (.cells vs 1 false):=by rw[x10.gt ob (by omega)]; exact g9
    have R10:Rw h10 (ob+1) vs (xN (oq q)):=R9.cong fun c _ hc=>x10.gt c hc
    have m10:MapI h10 mb lm:=m9.cong (x10.gt mb m9.lt)
    have X10:Ext h.next h h10:=X9.trans (x10.mono X9.nx)
    have iv10:=iv.ext x10 (Nat.le_refl _)
    have hds:(oq q).set x row=oq q:=by
     rw[hrow,List.getD_eq_getElem?_getD]
     refine List.ext_getElem? fun y=>?_
     rw[List.getElem?_set]
     split
     ·rename_i hxy
      subst hxy
      rw[if_pos (by omega),List.getElem?_eq_getElem (by omega)]; rfl
     ·rfl
    by_cases hc:2*i+q∈row
    ·have hn:oq (q+1)=oq q:=by rw[onext,embS,← hrow,if_pos hc]
     refine G.run (by simp only[am,evOp,simprocAttr,decide_eq_true hc,Bool.not_true]<;>rfl) ?_
     refine W.no (by simp only[am,evOp,simprocAttr,Bool.not_true]) (W.skip ?_)
     refine W.runs (fun ts h'=>h'=h10∧Held [(76,.int .i64 (i:Nat)),(75,.int .i64 (E.length:Nat)),(74,ev),(8,.sl ob 0 k k),(4,.mp mb),(9,.int .i64 (i:Nat)),(85,.agg [.int .i64 (tlE E i:Nat),.int .i64 (hdE E i:Nat)]),(86,.int .i64 ((q+1:Nat):Int))] ts) (by simp only[am,evOp,simprocAttr,e76,e75,e74,e8,e4,e9,e85,e86,wq,held_cons,held_nil]) ?_
     rintro ts h11 ⟨rfl,hh⟩
     refine⟨2-(q+1),by omega,q+1,vs,rfl,by omega,hh,g10,vl,by rw[hn]; exact R10,X10,m10,by omega,fun y=>?_⟩
     rw[hn]
     have:=len9 y
     rw[Nat.add_mul]
     omega
    ·have hdN:2*i+q<2*E.length:=by omega
     obtain⟨hbk,hbl'⟩:=bk_ok nc ni hdN
     have hn:oq (q+1)=(oq q).set x (row++orb nx (2*i+q) (bk nx (2*i+q))):=by rw[onext,embS,← hrow,if_neg hc]
     refine G.run (by simp only[am,evOp,simprocAttr,decide_eq_false hc,Bool.not_false]<;>rfl) ?_
     refine W.yes (by simp only[am,evOp,simprocAttr,Bool.not_false]) ?_
     have rv10:rdCells h10 ob x 1=some [v]:=rd_at g10 hv
     refine W.reg (G.gcall 8 (by simp only[am,evOp,simprocAttr,e8,e12,e13,e4,ixk,Nat.mul_one,rv10]<;>rfl) rfl (by simp only[am,evOp,simprocAttr,e8,e12,e13,e4,ixk,Nat.mul_one,rv10]) (by simp only[am,evOp,simprocAttr,e8,e12,e13,e4,ixk,Nat.mul_one,rv10]<;>rfl) (paround_ok iv10 (by omega) m10 nc nk hdN hbk (by omega)) fun v' h11 hq'=>?_)
     obtain⟨i11,x11,n11,fr11,nw11⟩:=hq'
     have g11:h11.get ob=some (.cells vs 1 false):=by rw[x11.gt ob (by omega)]; exact g10
     have w12:=wr_at (v:=v') g11 (i:=x) (by omega)
     have u12:=Upd.put (o:=.cells (vs.set x v') 1 false) g11
     obtain⟨h12,hh12⟩:∃ h12,h12=h11.put ob (.cells (vs.set x v') 1 false):=⟨_,rfl⟩
     rw[← hh12] at w12 u12
     refine G.run (by simp only[am,evOp,simprocAttr,e8,e12,ixk,Nat.mul_one,i11.cells.1,i11.cells.2,w12]<;>rfl) ?_
     refine W.runs (fun ts h'=>h'=h12∧Held [(76,.int .i64 (i:Nat)),(75,.int .i64 (E.length:Nat)),(74,ev),(8,.sl ob 0 k k),(4,.mp mb),(9,.int .i64 (i:Nat)),(85,.agg [.int .i64 (tlE E i:Nat),.int .i64 (hdE E i:Nat)]),(86,.int .i64 ((q+1:Nat):Int))] ts) (by simp only[am,evOp,simprocAttr,e76,e75,e74,e8,e4,e9,e85,e86,wq,held_cons,held_nil]) ?_
     rintro ts h12' ⟨rfl,hh⟩
     have n12:=u12.nx
     have R12:Rw h12' (ob+1) (vs.set x v') (xN (oq (q+1))):=by
      rw[hn]
      exact (R10.setN (by omega) hv i11 fr11 nw11).cong fun c hc _=>u12.ne (by omega)
     have x12:Ext h.next h10 h12':=⟨by omega,fun c hc=>by rw[u12.ne (by omega),x11.gt c (by omega)],fun c hc=>by rw[u12.ty c,x11.ty c (by omega)]⟩
     have hvm:∀ b n,v=.sl b 0 n n→mb≠b:=fun b n e=>by
      have:=(R10.lt (j:=x) (b:=b) (n:=n) (by rw[hv,e])).2
      omega
     refine⟨2-(q+1),by omega,q+1,_,rfl,by omega,hh,u12.get,by rw[List.length_set]; exact vl,R12,X10.trans x12,m10.cong (by rw[u12.ne (by omega),fr11 mb m10.lt hvm]),by omega,fun y=>?_⟩
     rw[onext]
     have:=embS_le nc ni hdN (out:=oq q) (x:=x) (fun y=>len9 y) y
     rw[Nat.add_mul]
     omega
   ·have:q=2:=by omega
    subst this
    have dq:decide (((2:Nat):Int)<2)=false:=rfl
    refine W.seq (W.runs (fun ts h'=>h'=h9∧Held [(76,.int .i64 (i:Nat)),(75,.int .i64 (E.length:Nat)),(74,ev),(8,.sl ob 0 k k),(4,.mp mb),(87,.bool false)] ts) (by simp only[am,evOp,simprocAttr,e76,e75,e74,e8,e4,e9,e85,e86,dq,held_cons,held_nil]<;>rfl) ?_)
    rintro ts h9' ⟨rfl,e76,e75,e74,e8,e4,e87,-⟩
    refine W.seq (W.no (by simp only[am,evOp,simprocAttr,e87]) (W.exit ⟨fun _=>⟨vs,⟨g9,vl,?_,X9,m9,n9,fun y=>?_⟩,by simp only[hl,am,evOp,simprocAttr,e76,e75,e74,e8,e4]⟩,fun e=>absurd rfl e⟩))
    ·rw[← oq2']; exact R9
    ·rw[← oq2']
     have:=len9 y
     rw[Nat.add_mul]
     omega
  ·rintro vs ts h7 ⟨g7,vl,R7,X7,m7,n7,len7⟩ ⟨e74,e8,e4,-⟩
   refine W.seq (W.run (by simp only[am,evOp,simprocAttr,e8]<;>rfl) ?_)
   exact W.ret ⟨.tup [.sl ob 0 k k,.bool true],(by simp only[rs,rf8,am,evOp,simprocAttr,e8]<;>rfl),X7,.inr ⟨hP,ob,vs,_,rfl,by omega,g7,vl,R7,hEmb⟩⟩
end Go.Proofs.Ytpeemonpdlifbaa
namespace Go.Proofs.Ytpeemonpdlifbaa
open Go.Am
open Go.Pla (Dual)
def IsP (n:Int) (E:List (Int×Int)):Prop:=PlainP n E∧∀ (hE:InG n.toNat E) (hL:∀ i,i<E.length→tlE E i≠hdE E i),∃ (Φ:Type) (l r:Nat→Φ),Dual (grE n.toNat E hE hL) (List.range E.length) l r
theorem pis_ok {h:AH}{n:Int}{ev:AV}{E:List (Int×Int)} (he:SlE h ev E) (hxl:E.length<2 ^ 40):C prg 10 [.agg [.int .i64 n,ev]] h fun r h'=>∃ b,r=.bool b∧(b=true↔IsP n E)∧Ext h.next h h':=by
 obtain⟨ec,eo⟩:=he.cells
 refine C.func pf10 ?_
 refine W.seq (W.run (by simp only[am,evOp,simprocAttr,initTm]<;>rfl) ?_)
 have x0:Ext h.next h (h.new (.cells [.int .i64 n,ev] 2 false)):=Ext.new (Nat.le_refl _)
 have g0:(h.new (.cells [.int .i64 n,ev] 2 false)).get h.next=some (.cells [.int .i64 n,ev] 2 false):=by rw[AH.get_new,if_pos rfl]
 have n0:(h.new (.cells [.int .i64 n,ev] 2 false)).next=h.next+1:=rfl
 generalize (h.new (.cells [.int .i64 n,ev] 2 false))=h1 at *
 have rA:rdCells h1 h.next 0 2=some [.int .i64 n,ev]:=by rw[rdCells_of g0]; rfl
 refine W.seq (W.reg (G.gcall 1 (by simp only[am,evOp,simprocAttr,initTm,rA]<;>rfl) rfl (by simp only[am,evOp,simprocAttr,initTm,rA]) (by simp only[am,evOp,simprocAttr,initTm,rA]<;>rfl) (pembed_ok (he.ext x0 (Nat.le_refl _)) hxl) fun r h2 hq=>?_))
 obtain⟨x2,hq⟩:=hq
 have X2:Ext h.next h h2:=x0.trans (x2.mono (by omega))
 rcases hq with ⟨rv,rfl,hno⟩|⟨hP,ob,vs,rows,rfl,_,_,_,_,hEmb⟩
 ·refine G.run (by simp only[am,evOp,simprocAttr]<;>rfl) ?_
  refine W.seq (W.run (by simp only[am,evOp,simprocAttr]<;>rfl) ?_)
  refine W.ret ⟨.bool false,(by simp only[rs,rf10,am,evOp,simprocAttr]<;>rfl),false,rfl,⟨fun h=>(by cases h),fun ⟨hP,hd⟩=>?_⟩,X2⟩
  obtain⟨k,rfl⟩:=plain_nat hP
  have hE:=ing_of hP.1
  have hL:=nl_of hP.1 hP.2.1
  exact absurd (hd hE hL) (hno hP hE hL)
 ·refine G.run (by simp only[am,evOp,simprocAttr]<;>rfl) ?_
  refine W.seq (W.run (by simp only[am,evOp,simprocAttr]<;>rfl) ?_)
  exact W.ret ⟨.bool true,(by simp only[rs,rf10,am,evOp,simprocAttr]<;>rfl),true,rfl,⟨fun _=>⟨hP,fun hE hL=>(hEmb hE hL).dual⟩,fun _=>rfl⟩,X2⟩
end Go.Proofs.Ytpeemonpdlifbaa
