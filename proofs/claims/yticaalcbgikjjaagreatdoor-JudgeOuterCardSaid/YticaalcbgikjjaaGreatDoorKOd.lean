/-
  forest.Outers: the small parts. forest.Outers. forest.Outers, the walk.
-/
import Derived.Test.YticaalcbgikjjaaGreatDoorKOc
import Derived.Test.YticaalcbgikjjaaGreatDoorKLk
set_option linter.all false
namespace Go.Proofs.YticaalcbgikjjaaGreatDoor
open Go.Am
theorem faces_pos {nx:List Int}{N:Nat} (hN:0<N):0<(facesF nx N).length:=by
 have key:∀ k,0<k→k≤N→0<((List.range k).foldl (faceStep nx N) ([],List.replicate N false)).1.length:=by
  intro k
  induction k with
  | zero=>intro h; exact absurd h (Nat.lt_irrefl 0)
  | succ k ih =>
    intro _ hk
    rw[List.range_succ,List.foldl_append]
    simp only[List.foldl_cons,List.foldl_nil]
    by_cases q:k=0
    ·subst q
     obtain⟨M,rfl⟩:∃ M,N=M+1:=⟨N-1,by omega⟩
     have ht:(tr nx (M+1) (List.replicate (M+1) false) 0).1≠[]:=by
      have hg0:¬ (List.replicate (M+1) false).getD 0 true=true:=by simp
      simp only[tr,if_neg hg0]
      exact List.cons_ne_nil _ _
     obtain⟨y,r,hx⟩:=List.exists_cons_of_ne_nil ht
     simp [faceStep,hx]
    ·have:=ih (by omega) (by omega)
     generalize (List.range k).foldl (faceStep nx N) ([],List.replicate N false)=a at *
     simp only[faceStep]
     split
     ·exact this
     ·rw[List.length_append]; omega
 exact key N hN (Nat.le_refl N)
theorem highs_ok {n:Nat}{E:List (Int×Int)}{T:List (List Int)} (h0:0<E.length) (hm:E.length≤128):(∀ g∈highs n E T,0≤g.2.1∧g.2.1<(n:Nat)∧0≤g.2.2.1∧g.2.2.1<((facesR n E T).length:Nat))∧(highs n E T).length≤256∧(anglesF n E T).length≤256:=by
 unfold highs anglesF
 by_cases q:askB n E T=true
 ·rw[if_pos q]
  have hR:rightB n E T=true:=by
   unfold askB at q
   rw[Bool.and_eq_true] at q
   exact q.1
  obtain⟨hTn,_⟩:=right_in hR
  have hF:0<(facesR n E T).length:=by
   unfold facesR
   rw[if_pos hR]
   exact faces_pos (by omega)
  have h1:=(faceOf_ok (facesR n E T) (2*E.length) hF (Nat.le_refl _) _ (Nat.le_refl _)).2
  have h2:=anglesA_ok (n:=n) (N:=2*E.length) (T:=T) (fo:=faceOf (facesR n E T) (2*E.length)) (by omega) hF h1 T.length (Nat.le_refl _)
  have e:anglesA T (faceOf (facesR n E T) (2*E.length)) (2*E.length)=(List.range T.length).foldl (fun out x=>rowA ((x:Nat):Int) (faceOf (facesR n E T) (2*E.length)) out (T.getD x [])) (List.replicate (2*E.length) (0,0,0,0)):=rfl
  rw[e]
  refine⟨fun g hg=>?_,?_,by omega⟩
  ·rw[List.mem_filter] at hg
   exact h2.2 g hg.1 (by simpa using hg.2)
  ·have:=List.length_filter_le (fun x:A4=>!(!decide (x.2.2.2=2))) ((List.range T.length).foldl (fun out x=>rowA ((x:Nat):Int) (faceOf (facesR n E T) (2*E.length)) out (T.getD x [])) (List.replicate (2*E.length) (0,0,0,0)))
   omega
 ·rw[if_neg q]
  exact⟨(fun g hg=>by cases hg),by simp,by simp⟩
theorem insM_nil {E:List (Int×Int)}{v:Int} (h:¬ ∃ e,e∈E∧e.2=v):insM E v=[]:=by
 have key:∀ (l:List (Int×Int)) (i:Nat),(∀ e∈l,e∈E)→endsAt (fun e=>decide (e.2=v)) l i=[]:=by
  intro l
  induction l with
  | nil=>intro i _; rfl
  | cons e r ih =>
    intro i hl
    simp only[endsAt]
    rw[if_neg (by simp only[decide_eq_true_eq]; exact fun q=>h ⟨e,hl e (List.mem_cons_self ..),q⟩)]
    exact ih _ fun x hx=>hl x (List.mem_cons_of_mem _ hx)
 exact key E 0 fun e he=>he
theorem src_ne {n:Nat}{E:List (Int×Int)} (hG:GoodP (n:Nat) E):srcM n E≠[]:=by
 obtain⟨m1,m2,m3,m4⟩:=may_of hG.1
 obtain⟨rank,hr⟩:=hG.2.2.2.1
 have key:∀ (k v:Nat),v<n→rank ((v:Nat):Int)=k→∃ u,u<n∧insM E ((u:Nat):Int)=[]:=by
  intro k
  induction k using Nat.strongRecOn with
  | _ k ih =>
    intro v hv hk
    by_cases q:insM E ((v:Nat):Int)=[]
    ·exact⟨v,hv,q⟩
    ·obtain⟨e,he⟩:∃ e,e∈E∧e.2=((v:Nat):Int):=by
      refine Classical.byContradiction fun hn=>q ?_
      have h0:=insM_nil hn
      exact h0
     obtain⟨a,b,rfl,ha,hb⟩:=okE_nat (List.all_eq_true.1 m4 e he.1)
     have h1:=hr _ he.1
     rw[show (((((a:Nat):Int),((b:Nat):Int)):Int×Int).2)=((v:Nat):Int) from he.2] at h1
     exact ih (rank ((a:Nat):Int)) (by simp only at h1; omega) a ha rfl
 obtain⟨u,hu,hn⟩:=key _ 0 (by omega) rfl
 intro h
 have:((u:Nat):Int)∈srcM n E:=by
  unfold srcM
  exact List.mem_map.2 ⟨u,List.mem_filter.2 ⟨List.mem_range.2 hu,by rw[hn]; rfl⟩,rfl⟩
 rw[h] at this
 cases this
end Go.Proofs.YticaalcbgikjjaaGreatDoor
namespace Go.Proofs.YticaalcbgikjjaaGreatDoor
open Go.Am
theorem sortI_ok {h:AH}{lo:Nat}{v:AV}{xs:List Int} (hv:IsSl h 1 lo v (xs.flatMap eI)) (hlo:lo≤h.next) (hl34:xs.length<2 ^ 34):C prg 28 [v] h fun _ h'=>IsSl h' 1 lo v ((isort xs).flatMap eI)∧Ext lo h h':=by
 rcases hv with ⟨rfl,hz⟩|⟨b,n,hbn,rfl,hg,hln⟩
 ·have:xs=[]:=by
   cases xs with
   | nil=>rfl
   | cons x r=>simp [eI] at hz
  subst this
  exact sort_nil.mono fun v h3 hq=>by subst hq; exact⟨.inl ⟨rfl,by simp [isort]⟩,Ext.refl⟩
 ·have hn:n=xs.length:=by rw[flat_len (f:=eI) (e:=1) (fun _=>rfl)] at hln; omega
  subst hn
  have e1:xs.flatMap eI=ints xs.toArray:=flat_ints xs
  have hg':h.get b=some (blkI (xs.flatMap eI) 0 xs.toArray):=by
   rw[hg]
   unfold blkI
   rw[e1]
   congr 2
   exact (splice_self (by simp) (by rw[List.drop_zero,List.take_length])).symm
  have hs:=sort_ok (c:=xs.length) hg' (by rw[List.size_toArray,hln]; omega) (by rw[List.size_toArray]; omega)
  rw[List.size_toArray] at hs
  refine hs.mono fun v h3 hq=>⟨.inr ⟨b,xs.length,hbn,rfl,?_,?_⟩,(hq.mono hlo).toExt hbn⟩
  ·rw[hq.get]
   unfold blkI
   have e2:ints (isort xs).toArray=(isort xs).flatMap eI:=(flat_ints _).symm
   rw[show (xs.toArray.toList.mergeSort fun x y=>decide (x≤y))=isort xs from rfl,e2]
   simp only[splice,List.take_zero,List.nil_append,Nat.zero_add]
   rw[flat_len (f:=eI) (e:=1) (fun _=>rfl),isort_len,List.drop_eq_nil_of_le (by rw[hln]; omega),List.append_nil]
  ·rw[flat_len (f:=eI) (e:=1) (fun _=>rfl),isort_len]
theorem compI_ok {h:AH}{lo:Nat}{v:AV}{xs:List Int} (hv:IsSl h 1 lo v (xs.flatMap eI)) (hlo:lo≤h.next) (hl34:xs.length<2 ^ 34):C prg 29 [v] h fun r h'=>SlI h' r (compM xs)∧Ext lo h h':=by
 rcases hv with ⟨rfl,hz⟩|⟨b,n,hbn,rfl,hg,hln⟩
 ·have:xs=[]:=by
   cases xs with
   | nil=>rfl
   | cons x r=>simp [eI] at hz
  subst this
  exact compact_nil.mono fun v h3 ⟨q1,q2⟩=>by subst q1 q2; exact⟨.inl ⟨rfl,.inl rfl⟩,Ext.refl⟩
 ·have hn:n=xs.length:=by rw[flat_len (f:=eI) (e:=1) (fun _=>rfl)] at hln; omega
  subst hn
  have e1:xs.flatMap eI=ints xs.toArray:=flat_ints xs
  have hg':h.get b=some (blkI (xs.flatMap eI) 0 xs.toArray):=by
   rw[hg]
   unfold blkI
   rw[e1]
   congr 2
   exact (splice_self (by simp) (by rw[List.drop_zero,List.take_length])).symm
  have hs:=compact_ok (c:=xs.length) hg' (by rw[List.size_toArray,hln]; omega) (by rw[List.size_toArray]; exact Nat.le_refl _) (by rw[List.size_toArray]; omega)
  rw[List.size_toArray] at hs
  refine hs.mono fun v h3 ⟨d',m,hr,hm,hd,hu,ht⟩=>⟨?_,hu.ext hbn⟩
  subst hr
  have hul:(d'.toList).length=xs.length:=by rw[Array.length_toList]; exact hd
  have hgu:h3.get b=some (.cells ((d'.toList).flatMap eI) 1 false):=by
   rw[hu.get]
   unfold blkI
   have e2:ints d'=d'.toList.flatMap eI:=(flat_ints _).symm
   rw[e2]
   simp only[splice,List.take_zero,List.nil_append,Nat.zero_add]
   rw[flat_len (f:=eI) (e:=1) (fun _=>rfl),hul,List.drop_eq_nil_of_le (by rw[hln]; omega),List.append_nil]
  have hml:(compM xs).length=m:=by
   have:compM xs=d'.toList.take m:=ht.symm
   rw[this,List.length_take]
   omega
  refine .inr ⟨b,0,xs.length,_,false,by rw[List.length_map,hml],hgu,by rw[List.length_map,hml]; exact hm,by rw[List.length_map,hml,flat_len (f:=eI) (e:=1) (fun _=>rfl)]; omega,fun i x hx=>?_⟩
  have hil:=(List.getElem?_eq_some_iff.1 hx).1
  rw[List.length_map,hml] at hil
  rw[List.getElem?_map] at hx
  obtain⟨y,hy,rfl⟩:=Option.map_eq_some_iff.1 hx
  have hy':d'.toList[i]?=some y:=by
   rw[show compM xs=d'.toList.take m from ht.symm,List.getElem?_take,if_pos hil] at hy
   exact hy
  refine⟨by rw[flat_len (f:=eI) (e:=1) (fun _=>rfl)]; omega,?_⟩
  rw[flat_cI,List.drop_eq_getElem_cons (by rw[List.length_map]; omega)]
  simp only[Nat.zero_add,Nat.mul_one,List.getElem_map]
  rw[(List.getElem?_eq_some_iff.1 hy').2]
  rfl
def inner (E:List (Int×Int)) (p:P3):List Int:=(p.vs.map fun v=>((v:Nat):Int)).filter fun x=>!((outsM E x).length==0)
def badP (E:List (Int×Int)) (p:P3) (free:Int):Bool:=!decide (((p.an:Nat):Int)=((p.fs.length:Nat):Int)+((p.vs.length:Nat):Int)-1)||decide (1<(inner E p).length)||(decide ((inner E p).length=0)&&decide (0≤free))
def freeF (E:List (Int×Int)):List P3→Nat→Int→Option Int
 | [],_,f=>some f
 | p::r,k,f=>if badP E p f then none else freeF E r (k+1) (if (inner E p).length=0 then ((k:Nat):Int) else f)
noncomputable def outersF (n:Nat) (E:List (Int×Int)) (T:List (List Int)):List Int :=
 match freeF E (partsF n E T) 0 (-1) with
 | none=>[]
 | some f=>if f<0 then [] else compM (isort (((anglesF n E T).filter fun g=>decide (g.2.1=(srcM n E).getD 0 0)&&(((partsF n E T).getD f.toNat p0).fs.map fun x=>((x:Nat):Int)).any (g.2.2.1==·)).map fun g=>g.2.2.1))
theorem ftree_ok {h:AH}{w:W3}{p:P3}{lo:Nat} (hp:IsP h lo w p) (hl1:p.fs.length<2 ^ 40) (hl2:p.vs.length<2 ^ 40) :
 C prg 24 [.agg [w.1,w.2.1,w.2.2]] h fun r h'=>r=.bool (decide (((p.an:Nat):Int)=((p.fs.length:Nat):Int)+((p.vs.length:Nat):Int)-1))∧Ext h.next h h':=by
 obtain⟨q1,q2,q3⟩:=hp
 obtain⟨c1,o1⟩:=q1.cells
 obtain⟨c2,o2⟩:=q2.cells
 have l1:=(nC_sl q1).len
 have l2:=(nC_sl q2).len
 rw[List.length_map,List.length_map] at l1 l2
 rw[q3]
 refine C.func pf24 ?_
 refine W.seq (W.run (by simp only[am,evOp,simprocAttr,initTm]<;>rfl) ?_)
 have x0:Ext h.next h (h.new (.cells [w.1,w.2.1,.int .i64 ((p.an:Nat):Int)] 3 false)):=Ext.new (Nat.le_refl _)
 have g0:(h.new (.cells [w.1,w.2.1,.int .i64 ((p.an:Nat):Int)] 3 false)).get h.next=some (.cells [w.1,w.2.1,.int .i64 ((p.an:Nat):Int)] 3 false):=by rw[AH.get_new,if_pos rfl]
 generalize (h.new (.cells [w.1,w.2.1,.int .i64 ((p.an:Nat):Int)] 3 false))=h1 at *
 have r0:rdCells h1 h.next 0 1=some [w.1]:=rd_at g0 rfl
 have r1:rdCells h1 h.next 1 1=some [w.2.1]:=rd_at g0 rfl
 have r2:rdCells h1 h.next 2 1=some [.int .i64 ((p.an:Nat):Int)]:=rd_at g0 rfl
 have w1:IntKind.i64.wrap (((p.fs.length:Nat):Int)+((p.vs.length:Nat):Int))=((p.fs.length:Nat):Int)+((p.vs.length:Nat):Int):=wr64 (by omega) (by omega)
 have w2:IntKind.i64.wrap (((p.fs.length:Nat):Int)+((p.vs.length:Nat):Int)-1)=((p.fs.length:Nat):Int)+((p.vs.length:Nat):Int)-1:=wr64 (by omega) (by omega)
 refine W.seq (W.run (by simp only[am,evOp,simprocAttr,r0,r1,r2,l1,l2,w1,w2]<;>rfl) ?_)
 exact W.ret ⟨_,(by simp only[rs,rf24,am,evOp,simprocAttr]<;>rfl),rfl,x0⟩
theorem fouters1_ok {h:AH}{vb n:Nat}{vp:AV}{E:List (Int×Int)}{x:Int} (hc:h.get vb=some (.cells [vp] 1 false)) (hv:IsView h vp n E) :
 C prg 22 ([.int .i64 x]++[.ptr vb 0]) h fun r h'=>r=.bool ((outsM E x).length==0)∧Ext h.next h h':=by
 refine C.func pf22 ?_
 have r0:rdCells h vb 0 1=some [vp]:=rd_at hc rfl
 refine W.seq (W.run (by simp only[am,evOp,simprocAttr,initTm]<;>rfl) ?_)
 refine W.seq (W.reg (G.gcall 2 (by simp only[am,evOp,simprocAttr,initTm,r0]<;>rfl) rfl (by simp only[am,evOp,simprocAttr,initTm,r0]) (by simp only[am,evOp,simprocAttr,initTm,r0]<;>rfl) (outs_ok (x:=x) hv) fun r h1 hq=>?_))
 obtain⟨i1,x1⟩:=hq
 have l1:=(IsSl.sl (f:=eI) (e:=1) (by omega) (fun _=>rfl) i1).len
 rw[List.length_map] at l1
 have e:decide ((((outsM E x).length:Nat):Int)=0)=((outsM E x).length==0):=by
  rw[Bool.eq_iff_iff,decide_eq_true_eq,beq_iff_eq]
  omega
 refine G.run (by simp only[am,evOp,simprocAttr,l1,e]<;>rfl) ?_
 exact W.ret ⟨_,(by simp only[rs,rf22,am,evOp,simprocAttr]<;>rfl),rfl,x1⟩
end Go.Proofs.YticaalcbgikjjaaGreatDoor
namespace Go.Proofs.YticaalcbgikjjaaGreatDoor
open Go.Am
set_option maxHeartbeats 4000000 in
theorem fouters_ok {h:AH}{n:Nat}{ev tv:AV}{E:List (Int×Int)}{T:List (List Int)} (he:SlE h ev E) (hG:GoodP (n:Nat) E) (h0:0<E.length) (hT:SlL h tv T) (hT1:T.length<2 ^ 40) (hT2:∀ l∈T,l.length<2 ^ 40) :
 C prg 9 [.agg [.int .i64 (n:Nat),ev],tv] h fun r h'=>SlI h' r (outersF n E T)∧Ext h.next h h':=by
 obtain⟨ec,eo⟩:=he.cells
 obtain⟨tc,to⟩:=hT.cells
 have hm:=hG.1
 obtain⟨m1,m2,m3,m4⟩:=may_of hm
 obtain⟨hH,hHl,hAl⟩:=highs_ok (n:=n) (T:=T) h0 m3
 refine C.func pf9 ?_
 refine W.seq (W.run (by simp only[am,evOp,simprocAttr,initTm]<;>rfl) ?_)
 have x0:Ext h.next h (h.new (.cells [.int .i64 (n:Nat),ev] 2 false)):=Ext.new (Nat.le_refl _)
 have g0:(h.new (.cells [.int .i64 (n:Nat),ev] 2 false)).get h.next=some (.cells [.int .i64 (n:Nat),ev] 2 false):=by rw[AH.get_new,if_pos rfl]
 have n0:(h.new (.cells [.int .i64 (n:Nat),ev] 2 false)).next=h.next+1:=rfl
 generalize (h.new (.cells [.int .i64 (n:Nat),ev] 2 false))=h1 at *
 have rA:rdCells h1 h.next 0 2=some [.int .i64 (n:Nat),ev]:=by rw[rdCells_of g0]; rfl
 refine W.seq (W.reg (G.gcall 2 (by simp only[am,evOp,simprocAttr,initTm,rA]<;>rfl) rfl (by simp only[am,evOp,simprocAttr,initTm,rA]) (by simp only[am,evOp,simprocAttr,initTm,rA]<;>rfl) (fparts_ok (n:=n) (he.ext x0 (Nat.le_refl _)) hG h0 (hT.ext x0) hT1 hT2 hH hHl) fun pa h2 hq=>?_))
 obtain⟨pl2,x2,hPl,hPs⟩:=hq
 have n2:=x2.nx
 have X2:Ext h.next h h2:=x0.trans (x2.mono (by omega))
 have hOF:outersF n E T=match freeF E (partsF n E T) 0 (-1) with
  | none=>[]
  | some f=>if f<0 then [] else compM (isort (((anglesF n E T).filter fun g=>decide (g.2.1=(srcM n E).getD 0 0)&&(((partsF n E T).getD f.toNat p0).fs.map fun x=>((x:Nat):Int)).any (g.2.2.1==·)).map fun g=>g.2.2.1)):=rfl
 rw[hOF]
 generalize partsF n E T=PS at *
 refine G.run (by simp only[am,evOp,simprocAttr]<;>rfl) ?_
 have g2:h2.get h.next=some (.cells [.int .i64 (n:Nat),ev] 2 false):=by rw[x2.gt _ (by omega)]; exact g0
 have rA2:rdCells h2 h.next 0 2=some [.int .i64 (n:Nat),ev]:=by rw[rdCells_of g2]; rfl
 refine W.seq (W.reg (G.gcall 1 (by simp only[am,evOp,simprocAttr,initTm,rA2]<;>rfl) rfl (by simp only[am,evOp,simprocAttr,initTm,rA2]) (by simp only[am,evOp,simprocAttr,initTm,rA2]<;>rfl) (gof_ok (n:=n) (he.ext X2 (Nat.le_refl _)) hm) fun vp h3 hq=>?_))
 obtain⟨hv3,x3⟩:=hq
 have n3:=x3.nx
 obtain⟨b3,hvp⟩:∃ b,vp=.ptr b 0:=let ⟨b,_,_,_,_,_,e,_⟩:=hv3; ⟨b,e⟩
 obtain⟨h4,w4,x4,g4,n4⟩:=mk_loc (h:=h3) (z:=[.nilp]) (cs:=[vp]) (e:=1) rfl
 have vpc:vp.cells=[vp]∧vp.one=true:=by rw[hvp]; exact⟨rfl,rfl⟩
 refine G.run (by simp only[am,evOp,simprocAttr,vpc.1,vpc.2,w4]<;>rfl) ?_
 refine W.seq (W.run (by simp only[am,evOp,simprocAttr]<;>rfl) ?_)
 have X4:Ext h.next h h4:=X2.trans ((x3.mono (by omega)).trans (x4.mono (by omega)))
 have hv4:IsView h4 vp n E:=hv3.ext x4
 have pl4:PL3 h4 h1.next pa PS:=(pl2.ext x3).ext x4
 have pll:=pl4.len
 obtain⟨pac,pao⟩:=pl4.cells
 refine W.seq (W.seq (W.run (by simp only[am,evOp,simprocAttr,pll]<;>rfl) ?_))
 have hn4:=X4.nx
 refine W.rng (α:=Int) (N:=PS.length) (fun _ f=>[(19,pa),(1,tv),(2,.ptr h.next 0),(4,.nils),(5,pa),(6,.ptr h3.next 0),(7,.int .i64 f)])
  (fun k f h'=>freeF E PS 0 (-1)=freeF E (PS.drop k) k f∧f<(k:Nat)∧-1≤f∧Ext h4.next h4 h') (-1) (fun _ _=>rfl) (by omega) (by simp only[hl,am,evOp,simprocAttr,initTm,tc,to,pac,pao]) ⟨rfl,by omega,by omega,Ext.refl⟩ ?_ ?_
 ·rintro k f ts h5 hk ⟨j1,j2,j3,j4⟩ ⟨ei,en,e19,e1,e2,e4,e5,e6,e7,-⟩
  simp only at ei en e19 e1 e2 e4 e5 e6 e7
  have n5:=j4.nx
  obtain⟨b,nn,w,b1,rfl,b2,b3',b4,_,_,_,r5⟩:=(pl4.ext j4).at hk
  obtain⟨hp1,hp2⟩:=hPs _ (List.getElem_mem hk)
  rw[List.drop_eq_getElem_cons hk] at j1
  simp only[freeF] at j1
  generalize PS[k]=p at *
  have hfs:=b4
  obtain⟨q1,q2,q3⟩:=b4
  obtain⟨c1,o1⟩:=q1.cells
  obtain⟨c2,o2⟩:=q2.cells
  have w3o:w.2.2.one=true∧w.2.2.cells=[w.2.2]:=by rw[q3]; exact⟨rfl,rfl⟩
  obtain⟨h6,w6,x6,g6,n6⟩:=mk_loc (h:=h5) (z:=[.nils,.nils,.int .i64 0]) (cs:=[w.1,w.2.1,w.2.2]) (e:=3) rfl
  refine W.seq (W.run (by simp only[am,evOp,simprocAttr,e19,ei,b3',r5,o1,o2,w3o.1,w6]<;>rfl) ?_)
  have r6:rdCells h6 h5.next 1 1=some [w.2.1]:=rd_at g6 rfl
  have q26:=q2.ext x6 (Nat.le_refl _)
  refine W.seq (W.reg (G.gcall 2 (by simp only[am,evOp,simprocAttr,r6]<;>rfl) rfl (by simp only[am,evOp,simprocAttr,r6]) (by simp only[am,evOp,simprocAttr,r6]<;>rfl) (cloneI_ok (nC_sl q26) (by rw[List.length_map]; omega)) fun r h7 hq=>?_))
  obtain⟨i7,x7,_⟩:=hq
  have n7:=x7.nx
  have X7:Ext h4.next h4 h7:=j4.trans ((x6.mono n5).trans (x7.mono (by omega)))
  have hdl:=delfI_ok (lo:=h6.next) (P:=fun x=>(outsM E x).length==0) (f:=22) (caps:=[.ptr h3.next 0]) i7 n7 (by rw[List.length_map]; omega) fun x _ h' x'=>by
   have X':Ext h4.next h4 h':=X7.trans (x'.mono (by omega))
   exact fouters1_ok (n:=n) (by rw[X'.gt _ (by omega)]; exact g4) (hv4.ext X')
  refine G.gcall 1 (by simp only[am,evOp,simprocAttr,e6]<;>rfl) rfl (by simp only[am,evOp,simprocAttr,e6]) (by simp only[am,evOp,simprocAttr,e6]<;>rfl) (hdl) fun r2 h8 hq=>?_
  obtain⟨s8,x8,_⟩:=hq
  have hin:List.filter (fun x=>!((outsM E x).length==0)) (p.vs.map fun v=>((v:Nat):Int))=inner E p:=rfl
  rw[hin] at s8
  refine G.run (by simp only[am,evOp,simprocAttr]<;>rfl) ?_
  have n8:=x8.nx
  have x68:Ext h6.next h6 h8:=x7.trans x8
  have X8:Ext h4.next h4 h8:=j4.trans ((x6.mono n5).trans (x68.mono (by omega)))
  have l8:=s8.len
  rw[List.length_map] at l8
  have g8:h8.get h5.next=some (.cells [w.1,w.2.1,w.2.2] 3 false):=by rw[x68.gt _ (by omega)]; exact g6
  have r8:rdCells h8 h5.next 0 3=some [w.1,w.2.1,w.2.2]:=by rw[rdCells_of g8]; rfl
  have hP8:IsP h8 h1.next w p:=⟨(q1.ext x6 (Nat.le_refl _)).ext x68 (Nat.le_refl _),q26.ext x68 (Nat.le_refl _),q3⟩
  refine W.block (W.seq (W.reg (G.gcall 1 (by simp only[am,evOp,simprocAttr,r8]<;>rfl) rfl (by simp only[am,evOp,simprocAttr,r8]) (by simp only[am,evOp,simprocAttr,r8]<;>rfl) (ftree_ok hP8 (by omega) (by omega)) fun r h9 hq=>?_)))
  obtain⟨rfl,x9⟩:=hq
  have X9:Ext h4.next h4 h9:=X8.trans (x9.mono (by omega))
  have e1l:decide ((1:Int)<(((inner E p).length:Nat):Int))=decide (1<(inner E p).length):=by rw[decide_eq_decide]; omega
  have e0l:decide ((((inner E p).length:Nat):Int)=0)=decide ((inner E p).length=0):=by rw[decide_eq_decide]; omega
  have hbad:badP E p f=(!decide (((p.an:Nat):Int)=((p.fs.length:Nat):Int)+((p.vs.length:Nat):Int)-1)||decide (1<(inner E p).length)||(decide ((inner E p).length=0)&&decide (0≤f))):=rfl
  have hret:badP E p f=true→freeF E PS 0 (-1)=none:=fun q=>by rw[j1,if_pos q]
  have done:badP E p f=true→SlI h9 AV.nils (match freeF E PS 0 (-1) with
   | none=>[]
   | some f=>if f<0 then [] else compM (isort (((anglesF n E T).filter fun g=>decide (g.2.1=(srcM n E).getD 0 0)&&((PS.getD f.toNat p0).fs.map fun x=>((x:Nat):Int)).any (g.2.2.1==·)).map fun g=>g.2.2.1))):=fun q=>by
   rw[hret q]
   exact .inl ⟨rfl,.inl rfl⟩
  have X0:Ext h.next h h9:=X4.trans (X9.mono hn4)
  have hnx:¬ badP E p f=true→freeF E PS 0 (-1)=freeF E (PS.drop (k+1)) (k+1) (if (inner E p).length=0 then ((k:Nat):Int) else f):=fun q=>by rw[j1,if_neg q]
  cases ht:decide (((p.an:Nat):Int)=((p.fs.length:Nat):Int)+((p.vs.length:Nat):Int)-1) with
  | false =>
    have q:badP E p f=true:=by rw[hbad,ht]; rfl
    refine G.run (by simp only[am,evOp,simprocAttr]<;>rfl) ?_
    refine W.yes (by simp only[am,evOp,simprocAttr]) (W.seq (W.run (by simp only[am,evOp,simprocAttr]<;>rfl) ?_))
    exact W.ret ⟨.nils,(by simp only[rs,rf9,am,evOp,simprocAttr]<;>rfl),done q,X0⟩
  | true =>
  cases h1l:decide (1<(inner E p).length) with
  | true =>
    have q:badP E p f=true:=by rw[hbad,ht,h1l]; rfl
    refine G.run (by simp only[am,evOp,simprocAttr,l8,e1l,h1l]<;>rfl) ?_
    refine W.yes (by simp only[am,evOp,simprocAttr]) (W.seq (W.run (by simp only[am,evOp,simprocAttr]<;>rfl) ?_))
    exact W.ret ⟨.nils,(by simp only[rs,rf9,am,evOp,simprocAttr]<;>rfl),done q,X0⟩
  | false =>
  cases h0l:decide ((inner E p).length=0) with
  | false =>
    have q:¬ badP E p f=true:=by rw[hbad,ht,h1l,h0l]; simp
    refine G.run (by simp only[am,evOp,simprocAttr,l8,e1l,h1l,e0l,h0l]<;>rfl) ?_
    refine W.no (by simp only[am,evOp,simprocAttr]) ?_
    refine W.seq (W.run (by simp only[am,evOp,simprocAttr,l8,e0l,h0l]<;>rfl) ?_)
    refine W.no (by simp only[am,evOp,simprocAttr]) (W.skip ?_)
    refine⟨f,⟨by rw[hnx q,if_neg (of_decide_eq_false h0l)],by omega,j3,X9⟩,by simp only[hl,am,evOp,simprocAttr,ei,en,e19,e1,e2,e4,e5,e6,e7]⟩
  | true =>
  cases hf0:decide (0≤f) with
  | true =>
    have q:badP E p f=true:=by rw[hbad,ht,h1l,h0l,hf0]; rfl
    refine G.run (by simp only[am,evOp,simprocAttr,l8,e1l,h1l,e0l,h0l,e7,hf0]<;>rfl) ?_
    refine W.yes (by simp only[am,evOp,simprocAttr]) (W.seq (W.run (by simp only[am,evOp,simprocAttr]<;>rfl) ?_))
    exact W.ret ⟨.nils,(by simp only[rs,rf9,am,evOp,simprocAttr]<;>rfl),done q,X0⟩
  | false =>
    have q:¬ badP E p f=true:=by rw[hbad,ht,h1l,h0l,hf0]; simp
    refine G.run (by simp only[am,evOp,simprocAttr,l8,e1l,h1l,e0l,h0l,e7,hf0]<;>rfl) ?_
    refine W.no (by simp only[am,evOp,simprocAttr]) ?_
    refine W.seq (W.run (by simp only[am,evOp,simprocAttr,l8,e0l,h0l]<;>rfl) ?_)
    refine W.yes (by simp only[am,evOp,simprocAttr]) (W.run (by simp only[am,evOp,simprocAttr]<;>rfl) ?_)
    refine⟨((k:Nat):Int),⟨by rw[hnx q,if_pos (of_decide_eq_true h0l)],by omega,by omega,X9⟩,by simp only[hl,am,evOp,simprocAttr,ei,en,e19,e1,e2,e4,e5,e6]⟩
 rintro f ts h5 ⟨j1,j2,j3,j4⟩ ⟨e19,e1,e2,e4,e5,e6,e7,-⟩
 simp only at e19 e1 e2 e4 e5 e6 e7
 rw[List.drop_eq_nil_of_le (Nat.le_refl _)] at j1
 simp only[freeF] at j1
 have X5:Ext h.next h h5:=X4.trans (j4.mono hn4)
 rw[j1]
 simp only
 by_cases qf:f<0
 ·have c0:decide (f<0)=true:=decide_eq_true qf
  refine W.seq (W.seq (W.run (by simp only[am,evOp,simprocAttr,e7,c0]<;>rfl) ?_))
  refine W.yes (by simp only[am,evOp,simprocAttr]) (W.seq (W.run (by simp only[am,evOp,simprocAttr]<;>rfl) ?_))
  exact W.ret ⟨.nils,(by simp only[rs,rf9,am,evOp,simprocAttr]<;>rfl),by rw[if_pos qf]; exact .inl ⟨rfl,.inl rfl⟩,X5⟩
 have c0:decide (f<0)=false:=decide_eq_false qf
 refine W.seq (W.seq (W.run (by simp only[am,evOp,simprocAttr,e7,c0]<;>rfl) ?_))
 refine W.no (by simp only[am,evOp,simprocAttr]) (W.skip ?_)
 rw[if_neg qf]
 obtain⟨fk,rfl⟩:=Int.eq_ofNat_of_zero_le (Int.not_lt.1 qf)
 rw[Int.toNat_natCast]
 have hfk:fk<PS.length:=by omega
 have r6:rdCells h5 h3.next 0 1=some [vp]:=rd_at (by rw[j4.gt _ (by omega)]; exact g4) rfl
 refine W.seq (W.reg (G.gcall 1 (by simp only[am,evOp,simprocAttr,e6,r6]<;>rfl) rfl (by simp only[am,evOp,simprocAttr,e6,r6]) (by simp only[am,evOp,simprocAttr,e6,r6]<;>rfl) (sources_ok (hv4.ext j4)) fun sv h6 hq=>?_))
 obtain⟨i6,x6⟩:=hq
 have hsn:0<(srcM n E).length:=List.length_pos_iff.2 (src_ne hG)
 obtain⟨qb,qp,a1,r7,_⟩:=(IsSl.sl (f:=eI) (e:=1) (by omega) (fun _=>rfl) i6).at1 (map_at (f:=eI) hsn)
 have hs0:(srcM n E).getD 0 0=(srcM n E)[0]:=getD_el hsn
 rw[hs0]
 generalize (srcM n E)[0]=src at *
 have a1:iadrL 1 sv (.int .i64 0)=some (.ptr qb qp):=a1
 refine G.run (by simp only[am,evOp,simprocAttr,a1,r7]<;>rfl) ?_
 have n6:=x6.nx
 have n5:=j4.nx
 have X6:Ext h.next h h6:=X5.trans (x6.mono (by omega))
 have g6:h6.get h.next=some (.cells [.int .i64 (n:Nat),ev] 2 false):=by rw[x6.gt _ (by omega),j4.gt _ (by omega),x4.gt _ (by omega),x3.gt _ (by omega)]; exact g2
 have rA6:rdCells h6 h.next 0 2=some [.int .i64 (n:Nat),ev]:=by rw[rdCells_of g6]; rfl
 refine W.seq (W.seq (W.reg (G.gcall 2 (by simp only[am,evOp,simprocAttr,e1,e2,rA6]<;>rfl) rfl (by simp only[am,evOp,simprocAttr,e1,e2,rA6]) (by simp only[am,evOp,simprocAttr,e1,e2,rA6]<;>rfl) (angles_ok (n:=n) (he.ext X6 (Nat.le_refl _)) hG h0 (hT.ext X6) hT1 hT2) fun av h7 hq=>?_)))
 obtain⟨i7,x7⟩:=hq
 have sA:=IsSl.sl (f:=eA) (e:=4) (by omega) (fun _=>rfl) i7
 have lA:=sA.len
 rw[List.length_map] at lA
 obtain⟨avc,avo⟩:=sA.cells
 have n7:=x7.nx
 have X7:Ext h.next h h7:=X6.trans (x7.mono (by omega))
 have pl7:PL3 h7 h1.next pa PS:=((pl4.ext j4).ext x6).ext x7
 refine G.run (by simp only[am,evOp,simprocAttr,lA]<;>rfl) ?_
 generalize anglesF n E T=AF at *
 refine W.rng (α:=AV) (N:=AF.length) (fun _ a=>[(63,av),(4,a),(5,pa),(7,.int .i64 ((fk:Nat):Int)),(11,.int .i64 src)])
  (fun k a h'=>IsSl h' 1 h7.next a ((((AF.take k).filter fun g=>decide (g.2.1=src)&&((PS.getD fk p0).fs.map fun x=>((x:Nat):Int)).any (g.2.2.1==·)).map fun g=>g.2.2.1).flatMap eI)∧Ext h7.next h7 h') .nils (fun _ _=>rfl) (by omega) (by simp only[hl,am,evOp,simprocAttr,e4,e5,e7,avc,avo]) ⟨.inl ⟨rfl,rfl⟩,Ext.refl⟩ ?_ ?_
 ·clear e19 e1 e2 e4 e5 e6 e7
  rintro k a ts h8 hk ⟨k1,k2⟩ ⟨ei,en,e63,e4,e5,e7,e11,-⟩
  simp only at ei en e63 e4 e5 e7 e11
  have n8:=k2.nx
  obtain⟨zb,zp,a2,r2,_⟩:=(sA.ext k2 (Nat.le_refl _)).at (map_at (f:=eA) hk)
  have hst:(AF.take (k+1)).filter (fun g=>decide (g.2.1=src)&&((PS.getD fk p0).fs.map fun x=>((x:Nat):Int)).any (g.2.2.1==·))=(AF.take k).filter (fun g=>decide (g.2.1=src)&&((PS.getD fk p0).fs.map fun x=>((x:Nat):Int)).any (g.2.2.1==·))++if (decide (AF[k].2.1=src)&&((PS.getD fk p0).fs.map fun x=>((x:Nat):Int)).any (AF[k].2.2.1==·))=true then [AF[k]] else []:=by
   rw[List.take_succ_eq_append_getElem hk,List.filter_append]
   congr 1
   rw[List.filter_cons,List.filter_nil]
  have hfl:((AF.take k).filter fun g=>decide (g.2.1=src)&&((PS.getD fk p0).fs.map fun x=>((x:Nat):Int)).any (g.2.2.1==·)).length≤256:=by
   have:=List.length_filter_le (fun g:A4=>decide (g.2.1=src)&&((PS.getD fk p0).fs.map fun x=>((x:Nat):Int)).any (g.2.2.1==·)) (AF.take k)
   rw[List.length_take] at this
   omega
  generalize AF[k]=g at *
  have r2:rdCells h8 zb zp 4=some [.int .i64 g.1,.int .i64 g.2.1,.int .i64 g.2.2.1,.int .i64 g.2.2.2]:=r2
  obtain⟨h9,w9,x9,g9,n9⟩:=mk_loc (h:=h8) (z:=[.int .i64 0,.int .i64 0,.int .i64 0,.int .i64 0]) (cs:=[.int .i64 g.1,.int .i64 g.2.1,.int .i64 g.2.2.1,.int .i64 g.2.2.2]) (e:=4) rfl
  refine W.seq (W.run (by simp only[am,evOp,simprocAttr,e63,ei,a2,r2,w9]<;>rfl) ?_)
  have r3:rdCells h9 h8.next 1 1=some [.int .i64 g.2.1]:=rd_at g9 rfl
  have r4:rdCells h9 h8.next 2 1=some [.int .i64 g.2.2.1]:=rd_at g9 rfl
  have k9:=k1.ext x9 (Nat.le_refl _)
  by_cases qs:g.2.1=src
  ·have cs:decide (g.2.1=src)=true:=decide_eq_true qs
   rw[cs,Bool.true_and] at hst
   have X9:Ext h7.next h7 h9:=k2.trans (x9.mono n8)
   obtain⟨b,nn,w,b1,rfl,b2,b3',b4,b5,_,_,_⟩:=(pl7.ext X9).at hfk
   rw[getD_P hfk] at hst k9 k1 hfl ⊢
   have hps:=hPs _ (List.getElem_mem hfk)
   refine W.seq (W.reg (G.gcall 12 (by simp only[am,evOp,simprocAttr,e5,e7,e11,r3,r4,cs,b3',b5]<;>rfl) rfl (by simp only[am,evOp,simprocAttr,e5,e7,e11,r3,r4,cs,b3',b5]) (by simp only[am,evOp,simprocAttr,e5,e7,e11,r3,r4,cs,b3',b5]<;>rfl) (contI_ok (y:=g.2.2.1) (nC_sl b4.1) (by rw[List.length_map]; omega)) fun r hA hq=>?_))
   obtain⟨rfl,xA⟩:=hq
   refine G.run (by simp only[am,evOp,simprocAttr]<;>rfl) ?_
   have nA:=xA.nx
   have rA4:rdCells hA h8.next 2 1=some [.int .i64 g.2.2.1]:=by rw[rdCells_eq (xA.gt _ (by omega))]; exact r4
   have kA:=k9.ext xA (Nat.le_refl _)
   refine W.cond (t:=((PS[fk].fs.map fun x=>((x:Nat):Int)).any (g.2.2.1==·))) (by simp only[am,evOp,simprocAttr]) (fun q=>?_) fun q=>?_
   ·rw[if_pos q] at hst
    obtain⟨a',hB,y1,y2,y3,y4⟩:=kA.push (bytes:=8) (eI g.2.2.1) (by omega) (by omega) rfl rfl (by rw[len_cI,List.length_map]; unfold tooMany; omega) (by rw[len_cI,List.length_map]; unfold tooMany; omega)
    rw[show eI g.2.2.1=[.int .i64 g.2.2.1] from rfl] at y1 y2
    refine W.run (by simp only[am,evOp,simprocAttr,e4,rA4,y1]<;>rfl) ?_
    refine⟨a',⟨?_,X9.trans ((xA.mono (by omega)).trans y3)⟩,by simp only[hl,am,evOp,simprocAttr,ei,en,e63,e5,e7,e11]⟩
    rw[hst,List.map_append,List.flatMap_append]
    exact y2
   ·rw[if_neg (by rw[q]; simp)] at hst
    refine W.skip ⟨a,⟨by rw[hst,List.append_nil]; exact kA,X9.trans (xA.mono (by omega))⟩,by simp only[hl,am,evOp,simprocAttr,ei,en,e63,e4,e5,e7,e11]⟩
  ·have cs:decide (g.2.1=src)=false:=decide_eq_false qs
   rw[cs,Bool.false_and] at hst
   refine W.seq (W.reg (G.nocall 12 (by simp only[am,evOp,simprocAttr,e11,r3,cs]<;>rfl) rfl (by simp only[am,evOp,simprocAttr,cs]) ?_))
   refine G.run (by simp only[am,evOp,simprocAttr,cs]<;>rfl) ?_
   refine W.no (by simp only[am,evOp,simprocAttr]) (W.skip ⟨a,⟨?_,k2.trans (x9.mono n8)⟩,by simp only[hl,am,evOp,simprocAttr,ei,en,e63,e4,e5,e7,e11]⟩)
   rw[hst,if_neg (by simp),List.append_nil]
   exact k9
 ·rintro a ts h8 ⟨k1,k2⟩ ⟨e63,e4',e5',e7',e11',-⟩
  simp only at e4'
  rw[List.take_length] at k1
  have hfl:(AF.filter fun g=>decide (g.2.1=src)&&((PS.getD fk p0).fs.map fun x=>((x:Nat):Int)).any (g.2.2.1==·)).length≤256:=Nat.le_trans (List.length_filter_le ..) hAl
  have n8:=k2.nx
  refine W.seq (W.reg (G.gcall 1 (by simp only[am,evOp,simprocAttr,e4']<;>rfl) rfl (by simp only[am,evOp,simprocAttr,e4']) (by simp only[am,evOp,simprocAttr,e4']<;>rfl) (sortI_ok k1 n8 (by rw[List.length_map]; omega)) fun r h9 hq=>?_))
  obtain⟨i9,x9⟩:=hq
  refine G.run (by simp only[am,evOp,simprocAttr]<;>rfl) ?_
  refine W.seq (W.reg (G.gcall 1 (by simp only[am,evOp,simprocAttr,e4']<;>rfl) rfl (by simp only[am,evOp,simprocAttr,e4']) (by simp only[am,evOp,simprocAttr,e4']<;>rfl) (compI_ok i9 (by have:=x9.nx; omega) (by rw[isort_len,List.length_map]; omega)) fun r hA hq=>?_))
  obtain⟨sA',xA⟩:=hq
  have rc:=sA'.cells
  refine G.run (by simp only[am,evOp,simprocAttr]<;>rfl) ?_
  exact W.ret ⟨r,(by simp only[rs,rf9,am,evOp,simprocAttr,rc.1]<;>rfl),sA',X7.trans ((k2.trans (x9.trans xA)).mono (by omega))⟩
end Go.Proofs.YticaalcbgikjjaaGreatDoor
