/-
  angle.Angles. angle.Angles, the walk. slices.DeleteFunc, of angles and of ints.
-/
import Derived.Test.YticaalcbgikjjaaGreatDoorKOa
import Derived.Test.YticaalcbgikjjaaGreatDoorKLa
set_option linter.all false
namespace Go.Proofs.YticaalcbgikjjaaGreatDoor
open Go.Am
abbrev A4:=Int×Int×Int×Int
def eA (a:A4):List AV:=[.int .i64 a.1,.int .i64 a.2.1,.int .i64 a.2.2.1,.int .i64 a.2.2.2]
theorem splice_flat {α:Type}{f:α→List AV}{e:Nat} (hf:∀ x,(f x).length=e):∀ (xs:List α) (i:Nat) (x:α),i<xs.length→splice (xs.flatMap f) (i*e) (f x)=(xs.set i x).flatMap f
 | [],i,x,h=>absurd h (Nat.not_lt_zero _)
 | y::r,0,x,h=>by
   simp only[splice,Nat.zero_mul,List.take_zero,List.nil_append,Nat.zero_add,List.flatMap_cons,List.set_cons_zero,hf]
   rw[List.drop_left' (hf y)]
 | y::r,i+1,x,h=>by
   have ih:=splice_flat hf r i x (Nat.lt_of_succ_lt_succ h)
   simp only[splice,hf] at ih
   simp only[splice,List.flatMap_cons,List.set_cons_succ,hf]
   rw[← ih]
   have e1:(i+1)*e=(f y).length+i*e:=by rw[hf,Nat.add_mul]; omega
   rw[e1,List.take_length_add_append,Nat.add_assoc,List.drop_length_add_append]
   simp only[List.append_assoc]
theorem wr_flat {α:Type}{f:α→List AV}{e:Nat} (hf:∀ x,(f x).length=e) {h:AH}{b i:Nat}{xs:List α}{x:α} (hg:h.get b=some (.cells (xs.flatMap f) e false)) (hi:i<xs.length) :
 wrCells h b (i*e) (f x)=some (h.put b (.cells ((xs.set i x).flatMap f) e false)):=by
 have hl:=flat_len hf xs
 rw[wrCells_of hg,if_pos (by
  rw[hf,hl]
  have:(i+1)*e≤xs.length*e:=Nat.mul_le_mul_right e (by omega)
  rw[Nat.add_mul,Nat.one_mul] at this
  exact this),splice_flat hf xs i x hi]
theorem mks_A {h:AH}{n:Nat} (hn:n<2 ^ 30):mksA h [.int .i64 0,.int .i64 0,.int .i64 0,.int .i64 0] 4 32 (.int .i64 (n:Nat)) (.int .i64 (n:Nat))=some (.sl h.next 0 n n,h.new (.cells ((List.replicate n ((0,0,0,0):A4)).flatMap eA) 4 false)):=by
 rw[mksA_nat (by unfold tooMany; omega) (by unfold tooMany; omega)]
 congr 4
 induction n with
 | zero=>rfl
 | succ n ih=>rw[List.replicate_succ,List.flatMap_cons,← ih (by omega)]; rfl
def faceRow (f:Int) (fo:List Int) (l:List Nat):List Int:=l.foldl (fun fo h=>fo.set h f) fo
def faceOf (FL:List (List Nat)) (N:Nat):List Int:=(List.range FL.length).foldl (fun fo f=>faceRow ((f:Nat):Int) fo (FL.getD f [])) (List.replicate N 0)
def stepA (x:Int) (l:List Int) (fo:List Int) (out:List A4) (i:Nat):List A4 :=
 out.set (l.getD i 0).toNat (l.getD i 0,x,fo.getD (xorI (l.getD i 0) 1).toNat 0,kindF (l.getD i 0) (l.getD ((i+1) % l.length) 0))
def rowA (x:Int) (fo:List Int) (out:List A4) (l:List Int):List A4:=(List.range l.length).foldl (stepA x l fo) out
def anglesA (T:List (List Int)) (fo:List Int) (N:Nat):List A4:=(List.range T.length).foldl (fun out x=>rowA ((x:Nat):Int) fo out (T.getD x [])) (List.replicate N (0,0,0,0))
open Classical in
noncomputable def anglesF (n:Nat) (E:List (Int×Int)) (T:List (List Int)):List A4:=if askB n E T=true then anglesA T (faceOf (facesR n E T) (2*E.length)) (2*E.length) else []
theorem faceRow_ok {N M:Nat}{f:Int} (hf:0≤f∧f<(M:Nat)):∀ (l:List Nat) {fo:List Int},(fo.length=N∧∀ z∈fo,0≤z∧z<(M:Nat))→(faceRow f fo l).length=N∧∀ z∈faceRow f fo l,0≤z∧z<(M:Nat)
 | [],fo,h=>h
 | y::r,fo,h=>faceRow_ok hf r ⟨by rw[List.length_set]; exact h.1,fun z hz=>by
    rcases List.mem_or_eq_of_mem_set hz with h1|rfl
    ·exact h.2 z h1
    ·exact hf⟩
theorem faceOf_ok (FL:List (List Nat)) (N:Nat) {M:Nat} (hM:0<M) (hM2:FL.length≤M):∀ k,k≤FL.length→((List.range k).foldl (fun fo f=>faceRow ((f:Nat):Int) fo (FL.getD f [])) (List.replicate N 0)).length=N ∧
 ∀ z∈(List.range k).foldl (fun fo f=>faceRow ((f:Nat):Int) fo (FL.getD f [])) (List.replicate N 0),0≤z∧z<(M:Nat)
 | 0,_=>⟨by simp,fun z hz=>by
  obtain⟨_,rfl⟩:=List.mem_replicate.1 hz
  omega⟩
 | k+1,hk=>by
   rw[List.range_succ,List.foldl_append]
   exact faceRow_ok (by omega) _ (faceOf_ok FL N hM hM2 k (by omega))
def GoodA (n M:Nat) (a:A4):Prop:=a.2.2.2=2→0≤a.2.1∧a.2.1<(n:Nat)∧0≤a.2.2.1∧a.2.2.1<(M:Nat)
theorem rowA_ok {n M N:Nat}{x:Int}{l fo:List Int} (hx:0≤x∧x<(n:Nat)) (hM:0<M) (hfo:∀ z∈fo,0≤z∧z<(M:Nat)):∀ k,∀ {out:List A4},(out.length=N∧∀ a∈out,GoodA n M a) →
 ((List.range k).foldl (stepA x l fo) out).length=N∧∀ a∈(List.range k).foldl (stepA x l fo) out,GoodA n M a
 | 0,out,h=>h
 | k+1,out,h=>by
   rw[List.range_succ,List.foldl_append]
   obtain⟨h1,h2⟩:=rowA_ok (l:=l) hx hM hfo k h
   generalize (List.range k).foldl (stepA x l fo) out=o at *
   simp only[List.foldl_cons,List.foldl_nil,stepA]
   refine⟨by rw[List.length_set]; exact h1,fun a ha=>?_⟩
   rcases List.mem_or_eq_of_mem_set ha with h3|rfl
   ·exact h2 a h3
   ·intro _
    refine⟨hx.1,hx.2,?_⟩
    simp only
    generalize (xorI (l.getD k 0) 1).toNat=q
    by_cases hq:q<fo.length
    ·rw[List.getD_eq_getElem?_getD,List.getElem?_eq_getElem hq]
     exact hfo _ (List.getElem_mem hq)
    ·rw[List.getD_eq_getElem?_getD,List.getElem?_eq_none (by omega)]
     simp only[Option.getD_none]
     omega
theorem anglesA_ok {n M N:Nat}{T:List (List Int)}{fo:List Int} (hT:T.length≤n) (hM:0<M) (hfo:∀ z∈fo,0≤z∧z<(M:Nat)):∀ k,k≤T.length →
 ((List.range k).foldl (fun out x=>rowA ((x:Nat):Int) fo out (T.getD x [])) (List.replicate N (0,0,0,0))).length=N∧∀ a∈(List.range k).foldl (fun out x=>rowA ((x:Nat):Int) fo out (T.getD x [])) (List.replicate N (0,0,0,0)),GoodA n M a
 | 0,_=>⟨by simp,fun a ha=>by
  obtain⟨_,rfl⟩:=List.mem_replicate.1 ha
  intro h
  cases h⟩
 | k+1,hk=>by
   rw[List.range_succ,List.foldl_append]
   exact rowA_ok (by omega) hM hfo _ (anglesA_ok hT hM hfo k (by omega))
end Go.Proofs.YticaalcbgikjjaaGreatDoor
namespace Go.Proofs.YticaalcbgikjjaaGreatDoor
open Go.Am
set_option maxHeartbeats 4000000 in
theorem angles_ok {h:AH}{n:Nat}{ev tv:AV}{E:List (Int×Int)}{T:List (List Int)} (he:SlE h ev E) (hG:GoodP (n:Nat) E) (h0:0<E.length) (hT:SlL h tv T) (hT1:T.length<2 ^ 40) (hT2:∀ l∈T,l.length<2 ^ 40) :
 C prg 26 [.agg [.int .i64 (n:Nat),ev],tv] h fun r h'=>IsSl h' 4 h.next r ((anglesF n E T).flatMap eA)∧Ext h.next h h':=by
 obtain⟨ec,eo⟩:=he.cells
 obtain⟨tc,to⟩:=hT.cells
 have hm:=hG.1
 obtain⟨m1,m2,m3,m4⟩:=may_of hm
 have el:=he.len
 rw[List.length_map] at el
 have tl:=hT.len
 refine C.func pf26 ?_
 refine W.seq (W.run (by simp only[am,evOp,simprocAttr,initTm]<;>rfl) ?_)
 have x0:Ext h.next h (h.new (.cells [.int .i64 (n:Nat),ev] 2 false)):=Ext.new (Nat.le_refl _)
 have g0:(h.new (.cells [.int .i64 (n:Nat),ev] 2 false)).get h.next=some (.cells [.int .i64 (n:Nat),ev] 2 false):=by rw[AH.get_new,if_pos rfl]
 have n0:(h.new (.cells [.int .i64 (n:Nat),ev] 2 false)).next=h.next+1:=rfl
 generalize (h.new (.cells [.int .i64 (n:Nat),ev] 2 false))=h1 at *
 have rA:rdCells h1 h.next 0 2=some [.int .i64 (n:Nat),ev]:=by rw[rdCells_of g0]; rfl
 refine W.seq (W.seq (W.reg (G.gcall 2 (by simp only[am,evOp,simprocAttr,initTm,rA]<;>rfl) rfl (by simp only[am,evOp,simprocAttr,initTm,rA]) (by simp only[am,evOp,simprocAttr,initTm,rA]<;>rfl) (aasked_ok (n:=n) (he.ext x0 (Nat.le_refl _)) hG (hT.ext x0) hT1 hT2) fun r h2 hq=>?_)))
 obtain⟨rfl,x2⟩:=hq
 have n2:=x2.nx
 have X2:Ext h.next h h2:=x0.trans (x2.mono (by omega))
 have hAN:anglesF n E T=if askB n E T=true then anglesA T (faceOf (facesR n E T) (2*E.length)) (2*E.length) else []:=rfl
 rw[hAN]
 have hask:askB n E T=true→rightB n E T=true:=fun h=>by
  unfold askB at h
  rw[Bool.and_eq_true] at h
  exact h.1
 generalize askB n E T=qb at *
 refine G.run (by simp only[am,evOp,simprocAttr]<;>rfl) ?_
 cases qb with
 | false =>
   refine W.yes (by simp only[am,evOp,simprocAttr]) (W.seq (W.run (by simp only[am,evOp,simprocAttr]<;>rfl) ?_))
   exact W.ret ⟨.nils,(by simp only[rs,rf26,am,evOp,simprocAttr]<;>rfl),.inl ⟨rfl,rfl⟩,X2⟩
 | true =>
 obtain⟨hTn,hin⟩:=right_in (hask rfl)
 rw[if_pos rfl]
 refine W.no (by simp only[am,evOp,simprocAttr]) (W.skip ?_)
 have g2:h2.get h.next=some (.cells [.int .i64 (n:Nat),ev] 2 false):=by rw[x2.gt _ (by omega)]; exact g0
 have rE:rdCells h2 h.next 1 1=some [ev]:=rd_at g2 rfl
 have wd:=dbl (m:=E.length) (by omega)
 have hNb:2*E.length≤256:=by omega
 have hE2:0<2*E.length:=by omega
 obtain⟨hfl1,hfl2⟩:=facesR_ok (n:=n) (E:=E) (T:=T)
 have mk:=mks_intN (h:=h2) (n:=2*E.length) (by omega)
 refine W.seq (W.run (by simp only[am,evOp,simprocAttr,initTm,rE,el,wd,mk]<;>rfl) ?_)
 have x3:Ext h2.next h2 (h2.new (.cells ((List.replicate (2*E.length) (0:Int)).flatMap eI) 1 false)):=Ext.new (Nat.le_refl _)
 have g3:(h2.new (.cells ((List.replicate (2*E.length) (0:Int)).flatMap eI) 1 false)).get h2.next=some (.cells ((List.replicate (2*E.length) (0:Int)).flatMap eI) 1 false):=by rw[AH.get_new,if_pos rfl]
 generalize h2.new (.cells ((List.replicate (2*E.length) (0:Int)).flatMap eI) 1 false)=h3 at *
 have n3:=x3.nx
 have X3:Ext h.next h h3:=X2.trans (x3.mono (by omega))
 have G3:h3.get h.next=some (.cells [.int .i64 (n:Nat),ev] 2 false):=by rw[x3.gt _ (by omega)]; exact g2
 have rA3:rdCells h3 h.next 0 2=some [.int .i64 (n:Nat),ev]:=by rw[rdCells_of G3]; rfl
 have hfb:=AH.lt_of_get g3
 refine W.seq (W.seq (W.reg (G.gcall 2 (by simp only[am,evOp,simprocAttr,initTm,rA3]<;>rfl) rfl (by simp only[am,evOp,simprocAttr,initTm,rA3]) (by simp only[am,evOp,simprocAttr,initTm,rA3]<;>rfl) (rtfaces_ok (n:=n) (he.ext X3 (Nat.le_refl _)) hm (hT.ext X3) hT1 hT2) fun r h4 hq=>?_)))
 obtain⟨fl,x4⟩:=hq
 have fll:=fl.len
 refine G.run (by simp only[am,evOp,simprocAttr,fll]<;>rfl) ?_
 have n4:=x4.nx
 have X4:Ext h.next h h4:=X3.trans (x4.mono (by omega))
 have g4:h4.get h2.next=some (.cells ((List.replicate (2*E.length) (0:Int)).flatMap eI) 1 false):=by rw[x4.gt _ hfb]; exact g3
 have hFO:faceOf (facesR n E T) (2*E.length)=(List.range (facesR n E T).length).foldl (fun fo f=>faceRow ((f:Nat):Int) fo ((facesR n E T).getD f [])) (List.replicate (2*E.length) 0):=rfl
 have hfok:=faceOf_ok (facesR n E T) (2*E.length) hE2 hfl1
 have hfoL:=(hfok _ (Nat.le_refl _)).1
 rw[← hFO] at hfoL
 generalize faceOf (facesR n E T) (2*E.length)=FO at *
 generalize facesR n E T=FL at *
 obtain⟨flc,flo⟩:r.cells=[r]∧r.one=true:=by
  obtain⟨vs,h1,_⟩:=fl
  exact h1.cells
 refine W.rng (α:=List Int) (N:=FL.length) (fun _ _=>[(26,r),(1,tv),(2,.ptr h.next 0),(5,.sl h2.next 0 (2*E.length) (2*E.length))])
  (fun k a h'=>a=(List.range k).foldl (fun fo f=>faceRow ((f:Nat):Int) fo (FL.getD f [])) (List.replicate (2*E.length) 0)∧Mod h4.next h4 h' h2.next (.cells (a.flatMap eI) 1 false)) (List.replicate (2*E.length) 0) (fun _ _=>rfl) (by omega) (by simp only[hl,am,evOp,simprocAttr,initTm,tc,to,flc,flo]) ⟨rfl,Mod.refl g4⟩ ?_ ?_
 ·rintro k a ts h5 hk ⟨j1,j2⟩ ⟨ei,en,e26,e1,e2,e5,-⟩
  simp only at ei en e26 e1 e2 e5
  have n5:=j2.nx
  have fl5:LL h5 h3.next r FL:=fl.cong fun c q1 q2=>j2.gt c (by omega) q2
  obtain⟨qb,qp,w,a1,r1,rw1,_⟩:=fl5.at hk
  have wl:=(nC_sl rw1).len
  rw[List.length_map,List.length_map] at wl
  obtain⟨wc,wo⟩:=rw1.cells
  obtain⟨hll,hly⟩:=hfl2 _ (List.getElem_mem hk)
  refine W.seq (W.run (by simp only[am,evOp,simprocAttr,e26,ei,a1,r1]<;>rfl) ?_)
  refine W.seq (W.run (by simp only[am,evOp,simprocAttr,wl]<;>rfl) ?_)
  have haL:a.length=2*E.length:=by rw[j1]; exact (hfok k (by omega)).1
  have hsucc:(List.range (k+1)).foldl (fun fo f=>faceRow ((f:Nat):Int) fo (FL.getD f [])) (List.replicate (2*E.length) 0)=faceRow ((k:Nat):Int) a FL[k]:=by
   rw[List.range_succ,List.foldl_append,← j1]
   simp only[List.foldl_cons,List.foldl_nil]
   rw[List.getD_eq_getElem?_getD,List.getElem?_eq_getElem hk]
   rfl
  generalize FL[k]=l at *
  refine W.rng (α:=List Int) (N:=l.length) (fun _ _=>[(28,.int .i64 (k:Nat)),(27,.int .i64 (FL.length:Nat)),(26,r),(1,tv),(2,.ptr h.next 0),(5,.sl h2.next 0 (2*E.length) (2*E.length)),(6,.int .i64 (k:Nat)),(33,w)])
   (fun j b h'=>b=faceRow ((k:Nat):Int) a (l.take j)∧b.length=2*E.length∧Mod h5.next h5 h' h2.next (.cells (b.flatMap eI) 1 false)) a (fun _ _=>rfl) (by omega) (by simp only[hl,am,evOp,simprocAttr,ei,en,e26,e1,e2,e5]) ⟨rfl,haL,Mod.refl j2.get⟩ ?_ ?_
  ·clear ei en e26 e1 e2 e5 a1 r1
   rintro j b ts h6 hj ⟨i1,i2,i3⟩ ⟨e35,e34,e28,e27,e26,e1,e2,e5,e6,e33,-⟩
   simp only at e35 e34 e28 e27 e26 e1 e2 e5 e6 e33
   have rw6:SlN h6 w l:=nC_sl (rw1.cong fun c m e q=>i3.gt c (by omega) (rw1.lt e))
   obtain⟨zb,zp,a2,r2,_⟩:=Sl.at1 rw6 (i:=j) (y:=.int .i64 ((l[j]:Nat):Int)) (by simp [hj,eI])
   refine W.seq (W.run (by simp only[am,evOp,simprocAttr,e33,e35,a2,r2]<;>rfl) ?_)
   have hz:l[j]<2*E.length:=hly _ (List.getElem_mem hj)
   have hsj:faceRow ((k:Nat):Int) a (l.take (j+1))=b.set l[j] ((k:Nat):Int):=by
    rw[List.take_succ_eq_append_getElem hj,faceRow,List.foldl_append,i1]
    rfl
   generalize l[j]=z at *
   have iz:idx? ((z:Nat):Int) (2*E.length)=some z:=idx_nat hz
   have w7:=wr_at (v:=.int .i64 ((k:Nat):Int)) i3.get (show z<(b.flatMap eI).length by rw[len_cI]; omega)
   rw[set_cI] at w7
   have u7:=Upd.put (o:=.cells ((b.set z ((k:Nat):Int)).flatMap eI) 1 false) i3.get
   refine W.run (by simp only[am,evOp,simprocAttr,e5,e6,iz,Nat.mul_one,w7]<;>rfl) ?_
   exact⟨b.set z ((k:Nat):Int),⟨hsj.symm,by rw[List.length_set]; exact i2,i3.upd u7⟩,by simp only[hl,am,evOp,simprocAttr,e35,e34,e28,e27,e26,e1,e2,e5,e6,e33]⟩
  ·rintro b ts h6 ⟨i1,i2,i3⟩ ⟨e28,e27,e26,e1,e2,e5,e6,e33,-⟩
   simp only at e28 e27 e26 e1 e2 e5
   rw[List.take_length] at i1
   exact⟨b,⟨by rw[hsucc]; exact i1,j2.trans (i3.mono n5)⟩,by simp only[hl,am,evOp,simprocAttr,e28,e27,e26,e1,e2,e5]⟩
 ·rintro a ts h5 ⟨j1,j2⟩ ⟨e26,e1,e2,e5,-⟩
  simp only at e26 e1 e2 e5
  rw[← hFO] at j1
  rw[j1] at j2
  have n5:=j2.nx
  have X5:Ext h.next h h5:=X4.trans ((j2.mono (m:=h.next) (by omega)).toExt (by omega))
  have G5:h5.get h.next=some (.cells [.int .i64 (n:Nat),ev] 2 false):=by rw[j2.gt _ (by omega) (by omega),x4.gt _ (by omega)]; exact G3
  have rE5:rdCells h5 h.next 1 1=some [ev]:=rd_at G5 rfl
  have mkA:=mks_A (h:=h5) (n:=2*E.length) (by omega)
  refine W.seq (W.run (by simp only[am,evOp,simprocAttr,e2,rE5,el,wd,mkA]<;>rfl) ?_)
  have x6:Ext h5.next h5 (h5.new (.cells ((List.replicate (2*E.length) ((0,0,0,0):A4)).flatMap eA) 4 false)):=Ext.new (Nat.le_refl _)
  have g6:(h5.new (.cells ((List.replicate (2*E.length) ((0,0,0,0):A4)).flatMap eA) 4 false)).get h5.next=some (.cells ((List.replicate (2*E.length) ((0,0,0,0):A4)).flatMap eA) 4 false):=by rw[AH.get_new,if_pos rfl]
  generalize h5.new (.cells ((List.replicate (2*E.length) ((0,0,0,0):A4)).flatMap eA) 4 false)=h6 at *
  have n6:=x6.nx
  have f5:=j2.get
  have hf5:=AH.lt_of_get f5
  refine W.seq (W.seq (W.run (by simp only[am,evOp,simprocAttr,e1,tl]<;>rfl) ?_))
  have hAA:anglesA T FO (2*E.length)=(List.range T.length).foldl (fun out x=>rowA ((x:Nat):Int) FO out (T.getD x [])) (List.replicate (2*E.length) (0,0,0,0)):=rfl
  refine W.rng (α:=List A4) (N:=T.length) (fun _ _=>[(50,tv),(2,.ptr h.next 0),(5,.sl h2.next 0 (2*E.length) (2*E.length)),(10,.sl h5.next 0 (2*E.length) (2*E.length))])
   (fun k a h'=>a=(List.range k).foldl (fun out x=>rowA ((x:Nat):Int) FO out (T.getD x [])) (List.replicate (2*E.length) (0,0,0,0))∧a.length=2*E.length∧h'.get h5.next=some (.cells (a.flatMap eA) 4 false)∧Ext h5.next h5 h') (List.replicate (2*E.length) (0,0,0,0)) (fun _ _=>rfl) (by omega) (by simp only[hl,am,evOp,simprocAttr,e1,e2,e5,tc,to]) ⟨rfl,by simp,g6,x6⟩ ?_ ?_
  ·clear e26 e1 e2 e5
   rintro k a ts h7 hk ⟨i1,i2,i3,i4⟩ ⟨ei,en,e50,e2,e5,e10,-⟩
   simp only at ei en e50 e2 e5 e10
   have n7:=i4.nx
   have X7:Ext h.next h h7:=X5.trans (i4.mono (by omega))
   obtain⟨rb,rp,w,a1,r1,rw1,lb⟩:=hT.at hk
   rw[← rdCells_eq (X7.gt _ lb)] at r1
   obtain⟨wc,wo⟩:=rw1.cells
   have wl:=rw1.len
   rw[List.length_map] at wl
   have hll:=hT2 _ (List.getElem_mem hk)
   have hzin:=hin _ (List.getElem_mem hk)
   refine W.seq (W.run (by simp only[am,evOp,simprocAttr,e50,ei,a1,r1]<;>rfl) ?_)
   refine W.seq (W.run (by simp only[am,evOp,simprocAttr,wl]<;>rfl) ?_)
   have hsucc:(List.range (k+1)).foldl (fun out x=>rowA ((x:Nat):Int) FO out (T.getD x [])) (List.replicate (2*E.length) (0,0,0,0))=rowA ((k:Nat):Int) FO a T[k]:=by
    rw[List.range_succ,List.foldl_append,← i1]
    simp only[List.foldl_cons,List.foldl_nil]
    rw[List.getD_eq_getElem?_getD,List.getElem?_eq_getElem hk]
    rfl
   generalize T[k]=l at *
   refine W.rng (α:=List A4) (N:=l.length) (fun _ _=>[(52,.int .i64 (k:Nat)),(51,.int .i64 (T.length:Nat)),(50,tv),(2,.ptr h.next 0),(5,.sl h2.next 0 (2*E.length) (2*E.length)),(10,.sl h5.next 0 (2*E.length) (2*E.length)),(11,.int .i64 (k:Nat)),(12,w),(57,w)])
    (fun j b h'=>b=(List.range j).foldl (stepA ((k:Nat):Int) l FO) a∧b.length=2*E.length∧h'.get h5.next=some (.cells (b.flatMap eA) 4 false)∧Ext h5.next h5 h') a (fun _ _=>rfl) (by omega) (by simp only[hl,am,evOp,simprocAttr,ei,en,e50,e2,e5,e10]) ⟨rfl,i2,i3,i4⟩ ?_ ?_
   ·clear ei en e50 e2 e5 e10 a1 r1
    rintro j b ts h8 hj ⟨k1,k2,k3,k4⟩ ⟨e59,e58,e52,e51,e50,e2,e5,e10,e11,e12,e57,-⟩
    simp only at e59 e58 e52 e51 e50 e2 e5 e10 e11 e12 e57
    have n8:=k4.nx
    have X8:Ext h.next h h8:=X5.trans (k4.mono (by omega))
    have rw8:SlI h8 w l:=rw1.ext X8 (Nat.le_refl _)
    obtain⟨zb,zp,a2,r2,_⟩:=rw8.at1 (map_at (f:=eI) hj)
    have hj2:(j+1) % l.length<l.length:=Nat.mod_lt _ (by omega)
    obtain⟨yb,yp,a3,r3,_⟩:=rw8.at1 (map_at (f:=eI) hj2)
    refine W.seq (W.run (by simp only[am,evOp,simprocAttr,e57,e59,a2,r2]<;>rfl) ?_)
    have hz:=hzin _ (List.getElem_mem hj)
    have hsj:(List.range (j+1)).foldl (stepA ((k:Nat):Int) l FO) a=stepA ((k:Nat):Int) l FO b j:=by
     rw[List.range_succ,List.foldl_append,← k1]
     rfl
    have hsv:stepA ((k:Nat):Int) l FO b j=b.set l[j].toNat (l[j],((k:Nat):Int),FO.getD (xorI l[j] 1).toNat 0,kindF l[j] l[(j+1) % l.length]):=by
     unfold stepA
     rw[getD_el hj,getD_el hj2]
    generalize l[j]=z at *
    generalize l[(j+1) % l.length]=y at *
    obtain⟨zn,rfl⟩:=Int.eq_ofNat_of_zero_le hz.1
    obtain⟨xe,xl⟩:=xorI_nat (h:=zn) (by omega)
    have xl:=xl E.length (by omega)
    rw[xe,Int.toNat_natCast,Int.toNat_natCast] at hsv
    have ix:idx? ((zn ^^^ 1:Nat):Int) (2*E.length)=some (zn ^^^ 1):=idx_nat xl
    have iz:idx? ((zn:Nat):Int) (2*E.length)=some zn:=idx_nat (by omega)
    have w1:IntKind.i64.wrap (((j:Nat):Int)+1)=((j+1:Nat):Int):=wr64 (by omega) (by omega)
    have hnz:¬ ((l.length:Nat):Int)=0:=by omega
    have hr:(((j+1:Nat):Int)).tmod ((l.length:Nat):Int)=(((j+1) % l.length:Nat):Int):=rfl
    have gf8:h8.get h2.next=some (.cells (FO.flatMap eI) 1 false):=by rw[k4.gt _ (by omega)]; exact f5
    have rf8:=rd_at gf8 (at_cI (xs:=FO) (i:=zn ^^^ 1) (by omega))
    refine W.reg (G.gcallc 18 (by simp only[am,evOp,simprocAttr,e5,e10,e11,e12,bin_xorI,xe,ix,Nat.mul_one,rf8,w1,wl,hnz,hr,a3,r3]<;>rfl) rfl (by simp only[am,evOp,simprocAttr,e5,e10,e11,e12,bin_xorI,xe,ix,Nat.mul_one,rf8,w1,wl,hnz,hr,a3,r3]) (by simp only[am,evOp,simprocAttr,e5,e10,e11,e12,bin_xorI,xe,ix,Nat.mul_one,rf8,w1,wl,hnz,hr,a3,r3]<;>rfl) (akind_ok) fun r h9 hq=>?_)
    obtain⟨rfl,rfl⟩:=hq
    refine⟨by simp only[am,evOp,simprocAttr,rf8],?_⟩
    have w9:=wr_flat (f:=eA) (e:=4) (fun _=>rfl) (x:=((((zn:Nat):Int),((k:Nat):Int),FO.getD (zn ^^^ 1) 0,kindF ((zn:Nat):Int) y):A4)) k3 (i:=zn) (by omega)
    have w9:wrCells h9 h5.next (zn*4) [.int .i64 (zn:Nat),.int .i64 (k:Nat),.int .i64 (FO.getD (zn ^^^ 1) 0),.int .i64 (kindF ((zn:Nat):Int) y)]=_:=w9
    have u9:=Upd.put (o:=.cells ((b.set zn ((((zn:Nat):Int),((k:Nat):Int),FO.getD (zn ^^^ 1) 0,kindF ((zn:Nat):Int) y):A4)).flatMap eA) 4 false) k3
    generalize kindF ((zn:Nat):Int) y=kz at *
    refine G.run (by simp only[am,evOp,simprocAttr,iz,w9]<;>rfl) ?_
    exact⟨_,⟨by rw[hsj,hsv],by rw[List.length_set]; exact k2,u9.get,k4.trans (u9.ext (Nat.le_refl _))⟩,by simp only[hl,am,evOp,simprocAttr,e59,e58,e52,e51,e50,e2,e5,e10,e11,e12,e57]⟩
   ·rintro b ts h8 ⟨k1,k2,k3,k4⟩ ⟨e52,e51,e50,e2,e5,e10,e11,e12,e57,-⟩
    simp only at e52 e51 e50 e2 e5 e10
    exact⟨b,⟨by rw[hsucc,k1]; rfl,k2,k3,k4⟩,by simp only[hl,am,evOp,simprocAttr,e52,e51,e50,e2,e5,e10]⟩
  ·rintro a ts h7 ⟨i1,i2,i3,i4⟩ ⟨e50,e2',e5',e10,-⟩
   simp only at e10
   refine W.seq (W.run (by simp only[am,evOp,simprocAttr,e10]<;>rfl) ?_)
   refine W.ret ⟨_,(by simp only[rs,rf26,am,evOp,simprocAttr]<;>rfl),.inr ⟨h5.next,2*E.length,by omega,rfl,by rw[hAA,← i1]; exact i3,by rw[hAA,← i1,flat_len (f:=eA) (e:=4) (fun _=>rfl),i2]⟩,X5.trans (i4.mono (by omega))⟩
end Go.Proofs.YticaalcbgikjjaaGreatDoor
namespace Go.Proofs.YticaalcbgikjjaaGreatDoor
open Go.Am
theorem idxfA_ok {h:AH}{v:AV}{xs:List (A4)}{P:A4→Bool}{k:FuncId}{caps:List AV} (hv:Sl h 4 v (xs.map eA)) (hl:xs.length<2 ^ 40)
 (hf:∀ x∈xs,∀ h',Ext h.next h h'→C prg k ([.agg (eA x)]++caps) h' fun r h''=>r=.bool (P x)∧Ext h'.next h' h'') :
 C prg 99 [v,.fn k caps] h fun r h'=>r=.int .i64 (fidx P xs 0)∧Ext h.next h h':=by
 refine C.func pf99 ?_
 have hlen:=hv.len
 rw[List.length_map] at hlen
 refine W.seq (W.run (by simp only[am,evOp,simprocAttr,initTm]<;>rfl) ?_)
 refine W.seq (W.seq (W.run (by simp only[am,evOp,simprocAttr,initTm,hlen]<;>rfl) ?_))
 refine W.seq (W.cut (fun ts h1=>fidx P xs 0=-1∧Ext h.next h h1) (W.block (W.loop (fun n ts h1=>∃ i,n=xs.length-i∧i≤xs.length∧Ext h.next h h1∧fidx P (xs.drop i) i=fidx P xs 0∧tget ts 0=v∧tget ts 1=.fn k caps∧tget ts 7=.int .i64 (xs.length:Nat)∧tget ts 8=.int .i64 (i:Nat)) ?_ (n:=xs.length) ⟨0,rfl,Nat.zero_le _,Ext.refl,by rw[List.drop_zero],by simp only[am,evOp,simprocAttr,initTm],by simp only[am,evOp,simprocAttr,initTm],by simp only[am,evOp,simprocAttr,initTm],by simp only[am,evOp,simprocAttr,initTm]<;>rfl⟩)) ?_)
 ·rintro n ts h1 ⟨i,rfl,hi,ex,hF,e0,e1,e7,e8⟩
  refine W.seq (W.run (by simp only[am,evOp,simprocAttr,e7,e8]<;>rfl) ?_)
  refine W.seq (W.cond (t:=decide (i<xs.length)) (by simp only[am,evOp,simprocAttr,Int.ofNat_lt]) (fun q=>?_) fun q=>?_)
  ·have q:i<xs.length:=of_decide_eq_true q
   obtain⟨b,p,a1,r1,_,_⟩:=(hv.ext ex (Nat.le_refl _)).at (map_at (f:=eA) q)
   refine W.skip (W.seq (W.block (W.seq (W.run (by simp only[am,evOp,simprocAttr,e8]<;>rfl) ?_))))
   have hc:=hf _ (List.getElem_mem q) h1 ex
   refine W.seq (W.reg (G.gcallv 5 (by simp only[am,evOp,simprocAttr,e0,e1,e7,e8,a1,r1]<;>rfl) rfl (by simp only[am,evOp,simprocAttr,e0,e1,e7,e8,a1,r1]) (by simp only[am,evOp,simprocAttr,e0,e1,e7,e8,a1,r1]<;>rfl) (by simp only[am,evOp,simprocAttr,e0,e1,e7,e8,a1,r1]<;>rfl) (hc) fun r h2 hq=>?_))
   obtain⟨rfl,ex2⟩:=hq
   have ex3:=ex.trans (ex2.mono ex.nx)
   refine G.run (by simp only[am,evOp,simprocAttr]<;>rfl) ?_
   refine W.cond (t:=P xs[i]) (by simp only[am,evOp,simprocAttr]) (fun q2=>?_) fun q2=>?_
   ·refine W.seq (W.run (by simp only[am,evOp,simprocAttr]<;>rfl) ?_)
    refine W.ret ⟨.int .i64 (i:Nat),(by simp only[rs,rf99,am,evOp,simprocAttr]<;>rfl),?_,ex3⟩
    rw[← hF,fidx_drop P q,if_pos q2]
   ·have w1:IntKind.i64.wrap (((i:Nat):Int)+1)=((i+1:Nat):Int):=wr64 (by omega) (by omega)
    refine W.skip (W.run (by simp only[am,evOp,simprocAttr,e8,w1]<;>rfl) ?_)
    refine⟨xs.length-(i+1),by omega,i+1,rfl,by omega,ex3,?_,by simp only[am,evOp,simprocAttr,e0],by simp only[am,evOp,simprocAttr,e1],by simp only[am,evOp,simprocAttr,e7],by simp only[am,evOp,simprocAttr,e8,w1]⟩
    rw[← hF,fidx_drop P q,if_neg (by simp [q2])]
  ·have q:¬ i<xs.length:=of_decide_eq_false q
   refine W.exit ⟨fun _=>⟨?_,ex⟩,fun e=>absurd rfl e⟩
   rw[← hF,List.drop_eq_nil_of_le (by omega)]
   rfl
 ·rintro ts h1 ⟨hF,ex⟩
  refine W.seq (W.run (by simp only[am,evOp,simprocAttr]<;>rfl) ?_)
  exact W.ret ⟨.int .i64 (-1),(by simp only[rs,rf99,am,evOp,simprocAttr]<;>rfl),by rw[hF],ex⟩
theorem fidx_split {α:Type} (P:α→Bool):∀ (xs:List α) (i:Nat),(fidx P xs i=-1∧∀ x∈xs,P x=false)∨∃ a y b,xs=a++y::b∧(∀ x∈a,P x=false)∧P y=true∧fidx P xs i=((i+a.length:Nat):Int)
 | [],i=>.inl ⟨rfl,fun x h=>by cases h⟩
 | x::r,i=>by
   simp only[fidx]
   cases hp:P x with
   | true=>exact .inr ⟨[],x,r,rfl,(fun y h=>by cases h),hp,by simp⟩
   | false =>
     simp only[Bool.false_eq_true,if_false]
     rcases fidx_split P r (i+1) with ⟨h1,h2⟩|⟨a,y,b,rfl,h2,h3,h4⟩
     ·refine .inl ⟨h1,fun y hy=>?_⟩
      rcases List.mem_cons.1 hy with rfl|hy
      ·exact hp
      ·exact h2 y hy
     ·refine .inr ⟨x::a,y,b,rfl,fun z hz=>?_,h3,by rw[h4,List.length_cons]; congr 1; omega⟩
      rcases List.mem_cons.1 hz with rfl|hz
      ·exact hp
      ·exact h2 z hz
theorem keep_all {α:Type}{P:α→Bool}{xs:List α} (h:∀ x∈xs,P x=false):xs.filter (fun x=>!P x)=xs:=List.filter_eq_self.2 fun x hx=>by rw[h x hx]; rfl
theorem del_step {α:Type}{P:α→Bool}{xs ys:List α}{i j:Nat} (hl:ys.length=xs.length) (hij:i<j) (hj:j<xs.length) (ht:ys.take i=(xs.take j).filter fun x=>!P x) (hd:ys.drop j=xs.drop j) :
 ∃ hy:j<ys.length,ys[j]=xs[j]∧ys.drop (j+1)=xs.drop (j+1)∧(P xs[j]=true→ys.take i=(xs.take (j+1)).filter fun x=>!P x) ∧
   (P xs[j]=false→(ys.set i xs[j]).take (i+1)=(xs.take (j+1)).filter (fun x=>!P x)∧(ys.set i xs[j]).drop (j+1)=xs.drop (j+1)):=by
 have hy:j<ys.length:=by omega
 rw[List.drop_eq_getElem_cons hy,List.drop_eq_getElem_cons hj,List.cons.injEq] at hd
 obtain⟨h1,h2⟩:=hd
 refine⟨hy,h1,h2,fun q=>?_,fun q=>⟨?_,?_⟩⟩
 ·rw[List.take_succ_eq_append_getElem hj,List.filter_append,← ht]
  simp [q]
 ·rw[List.take_succ_eq_append_getElem hj,List.filter_append,← ht]
  rw[List.take_succ_eq_append_getElem (by rw[List.length_set]; omega),List.take_set_of_le (by omega),List.getElem_set_self]
  simp [q]
 ·rw[List.drop_set_of_lt (by omega)]
  exact h2
theorem scl_flat {α:Type}{f:α→List AV}{e:Nat} (he:0<e) {z:α} (hf:∀ x,(f x).length=e) (hone:(f z).all AV.one=true) {h:AH}{b i m:Nat}{xs:List α} (hg:h.get b=some (.cells (xs.flatMap f) e false)) (hm:xs.length=m) (hi:i<m) :
 ∃ (h':AH) (ys:List α),sclA h (f z) (.sl b (i*e) (m-i) (m-i))=some (.un,h')∧Upd h h' b (.cells (ys.flatMap f) e false)∧ys.length=m∧ys.take i=xs.take i:=by
 have hr:repl (f z) (m-i)=(List.replicate (m-i) z).flatMap f:=by
  generalize m-i=k
  induction k with
  | zero=>rfl
  | succ k ih=>rw[List.replicate_succ,List.flatMap_cons,← ih]; rfl
 have hl:=flat_len hf xs
 have hl2:=flat_len hf (List.replicate (m-i) z)
 rw[List.length_replicate] at hl2
 have hall:(repl (f z) (m-i)).all AV.one=true:=by
  rw[hr,List.all_eq_true]
  intro x hx
  obtain⟨y,hy,hx⟩:=List.mem_flatMap.1 hx
  rw[(List.mem_replicate.1 hy).2] at hx
  exact List.all_eq_true.1 hone x hx
 have hle:i*e+(m-i)*e=m*e:=by rw[← Nat.add_mul]; congr 1; omega
 refine⟨h.put b (.cells ((xs.take i++List.replicate (m-i) z).flatMap f) e false),xs.take i++List.replicate (m-i) z,?_,Upd.put hg,by simp; omega,by rw[List.take_append_of_le_length (by rw[List.length_take]; omega),List.take_take,Nat.min_self]⟩
 unfold sclA
 simp only
 rw[if_neg (by omega),if_pos hall,wrCells_of hg,if_pos (by rw[hr,hl2,hl,hm]; omega),Option.map_some]
 congr 3
 simp only[splice]
 rw[hr,hl2,hle,List.drop_eq_nil_of_le (by rw[hl,hm]; omega),List.append_nil,List.flatMap_append]
 congr 2
 have e1:(xs.take i++xs.drop i).flatMap f=xs.flatMap f:=by rw[List.take_append_drop]
 rw[← e1,List.flatMap_append,List.take_left' (by rw[flat_len hf,List.length_take]; congr 1; omega)]
set_option maxHeartbeats 1000000 in
theorem delfA_ok {h:AH}{lo:Nat}{v:AV}{xs:List A4}{P:A4→Bool}{f:FuncId}{caps:List AV} (hv:IsSl h 4 lo v (xs.flatMap eA)) (hlo:lo≤h.next) (hl34:xs.length<2 ^ 30)
 (hf:∀ x∈xs,∀ h',Ext lo h h'→C prg f ([.agg (eA x)]++caps) h' fun r h''=>r=.bool (P x)∧Ext h'.next h' h'') :
 C prg 49 [v,.fn f caps] h fun r h'=>Sl h' 4 r ((xs.filter fun x=>!P x).map eA)∧Ext lo h h'∧∀ b o n c,r=.sl b o n c→lo≤b:=by
 have hs:=IsSl.sl (f:=eA) (e:=4) (by omega) (fun _=>rfl) hv
 obtain⟨vc,vo⟩:=hs.cells
 have hvb:∀ b o n c,v=.sl b o n c→lo≤b:=fun b o n c e=>by
  rcases hv with ⟨h1,_⟩|⟨b',n',h1,h2,_⟩
  ·rw[h1] at e; cases e
  ·rw[h2] at e; cases e; exact h1
 refine C.func pf49 ?_
 refine W.seq (W.run (by simp only[am,evOp,simprocAttr,initTm]<;>rfl) ?_)
 have hidx:=idxfA_ok (h:=h) (v:=v) (xs:=xs) (P:=P) (k:=f) (caps:=caps) hs (by omega) fun x hx h' x'=>hf x hx h' (x'.mono hlo)
 refine W.seq (W.reg (G.gcall 2 (by simp only[am,evOp,simprocAttr,initTm]<;>rfl) rfl (by simp only[am,evOp,simprocAttr,initTm]) (by simp only[am,evOp,simprocAttr,initTm]<;>rfl) (hidx) fun r h1 hq=>?_))
 obtain⟨rfl,x1⟩:=hq
 refine G.run (by simp only[am,evOp,simprocAttr]<;>rfl) ?_
 have X1:Ext lo h h1:=x1.mono hlo
 have n1:=x1.nx
 have hs1:=hs.ext x1 (Nat.le_refl _)
 rcases fidx_split P xs 0 with ⟨q1,q2⟩|⟨a,y,b',rfl,q2,q3,q4⟩
 ·rw[q1]
  refine W.seq (W.seq (W.run (by simp only[am,evOp,simprocAttr,decide_true]<;>rfl) ?_))
  refine W.yes (by simp only[am,evOp,simprocAttr]) (W.seq (W.run (by simp only[am,evOp,simprocAttr,initTm]<;>rfl) ?_))
  exact W.ret ⟨v,(by simp only[rs,rf49,am,evOp,simprocAttr,vc]<;>rfl),by rw[keep_all q2]; exact hs1,X1,hvb⟩
 rw[q4,Nat.zero_add]
 have c1:decide (((a.length:Nat):Int)=-1)=false:=decide_eq_false (by omega)
 have w1:IntKind.i64.wrap (((a.length:Nat):Int)+1)=((a.length+1:Nat):Int):=wr64 (by rw[List.length_append] at hl34; omega) (by rw[List.length_append] at hl34; omega)
 refine W.seq (W.seq (W.run (by simp only[am,evOp,simprocAttr,c1]<;>rfl) ?_))
 refine W.no (by simp only[am,evOp,simprocAttr,decide_false]) (W.skip ?_)
 refine W.seq (W.seq (W.run (by simp only[am,evOp,simprocAttr,w1]<;>rfl) ?_))
 have hxl:(a++y::b').length=a.length+1+b'.length:=by simp; omega
 have hta:(a++y::b').take a.length=((a++y::b').take (a.length+1)).filter fun x=>!P x:=by
  rw[List.take_left' rfl,show a++y::b'=(a++[y])++b' by simp,List.take_left' (by simp),List.filter_append,keep_all q2]
  simp [q3]
 generalize a++y::b'=zs at *
 generalize hal:a.length=k0 at *
 rcases hv with ⟨_,hz⟩|⟨b,m,hb,rfl,gb,hbl⟩
 ·exfalso
  have:=congrArg List.length hz
  rw[flat_len (f:=eA) (e:=4) (fun _=>rfl)] at this
  have this:zs.length*4=0:=this
  omega
 have hm:zs.length=m:=by rw[flat_len (f:=eA) (e:=4) (fun _=>rfl)] at hbl; omega
 subst hm
 have hbn:=AH.lt_of_get gb
 have gb1:h1.get b=some (.cells (zs.flatMap eA) 4 false):=by rw[x1.gt _ hbn]; exact gb
 refine W.cut (fun ts h'=>∃ (i:Nat) (ys:List A4),i<zs.length∧ys.length=zs.length∧ys.take i=zs.filter (fun x=>!P x)∧h'.get b=some (.cells (ys.flatMap eA) 4 false)∧Ext lo h h'∧Held [(0,.sl b 0 zs.length zs.length),(5,.int .i64 (i:Nat))] ts) ?_ ?_
 ·refine W.block (W.loop (fun n ts h'=>∃ (i j:Nat) (ys:List A4),n=zs.length-j∧i<j∧j≤zs.length∧ys.length=zs.length∧ys.take i=(zs.take j).filter (fun x=>!P x)∧ys.drop j=zs.drop j∧h'.get b=some (.cells (ys.flatMap eA) 4 false)∧Ext lo h h' ∧
   Held [(0,.sl b 0 zs.length zs.length),(1,.fn f caps),(5,.int .i64 (i:Nat)),(6,.int .i64 (j:Nat))] ts) ?_ (n:=zs.length-(k0+1))
   ⟨k0,k0+1,zs,rfl,by omega,by omega,rfl,hta,rfl,gb1,X1,by simp only[hl,am,evOp,simprocAttr,initTm]⟩)
  rintro n ts h2 ⟨i,j,ys,rfl,p1,p2,p3,p4,p5,p6,p7,e0,e1,e5,e6,-⟩
  simp only at e0 e1 e5 e6
  have n2:=p7.nx
  refine W.seq (W.seq (W.run (by simp only[am,evOp,simprocAttr,e0,e6]<;>rfl) ?_))
  by_cases hj:j<zs.length
  ·have c2:decide (((j:Nat):Int)<((zs.length:Nat):Int))=true:=decide_eq_true (by omega)
   refine W.yes (by simp only[am,evOp,simprocAttr,c2]) (W.skip ?_)
   obtain⟨hy,k1,k2,k3,k4⟩:=del_step (P:=P) p3 p1 hj p4 p5
   have hsy:Sl h2 4 (.sl b 0 zs.length zs.length) (ys.map eA):=IsSl.sl (lo:=lo) (by omega) (fun _=>rfl) (.inr ⟨b,zs.length,hb,rfl,p6,by rw[flat_len (f:=eA) (e:=4) (fun _=>rfl),p3]⟩)
   obtain⟨qb,qp,a1,r1,_⟩:=hsy.at (map_at (f:=eA) hy)
   rw[k1] at r1
   have r1:rdCells h2 qb qp 4=some [.int .i64 zs[j].1,.int .i64 zs[j].2.1,.int .i64 zs[j].2.2.1,.int .i64 zs[j].2.2.2]:=r1
   obtain⟨h3,w5,x3,g5,n3⟩:=mk_loc (h:=h2) (z:=[.int .i64 0,.int .i64 0,.int .i64 0,.int .i64 0]) (cs:=[.int .i64 zs[j].1,.int .i64 zs[j].2.1,.int .i64 zs[j].2.2.1,.int .i64 zs[j].2.2.2]) (e:=4) rfl
   have X3:Ext lo h h3:=p7.trans (x3.mono (by omega))
   have g3:h3.get b=some (.cells (ys.flatMap eA) 4 false):=by rw[x3.gt _ (AH.lt_of_get p6)]; exact p6
   have r3:rdCells h3 h2.next 0 4=some [.int .i64 zs[j].1,.int .i64 zs[j].2.1,.int .i64 zs[j].2.2.1,.int .i64 zs[j].2.2.2]:=by rw[rdCells_of g5]; rfl
   have w3:IntKind.i64.wrap (((j:Nat):Int)+1)=((j+1:Nat):Int):=wr64 (by omega) (by omega)
   have w4:IntKind.i64.wrap (((i:Nat):Int)+1)=((i+1:Nat):Int):=wr64 (by omega) (by omega)
   have hc:=hf zs[j] (List.getElem_mem hj) h3 X3
   unfold eA at hc
   refine W.seq (W.block (W.seq (W.run (by simp only[am,evOp,simprocAttr,e0,e6,a1,r1,w5]<;>rfl) ?_)))
   refine W.seq (W.reg (G.gcallv 2 (by simp only[am,evOp,simprocAttr,e1,r3]<;>rfl) rfl (by simp only[am,evOp,simprocAttr,e1,r3]) (by simp only[am,evOp,simprocAttr,e1,r3]<;>rfl) (by simp only[am,evOp,simprocAttr,e1,r3]<;>rfl) (hc) fun r h4 hq=>?_))
   obtain⟨rfl,x4⟩:=hq
   refine G.run (by simp only[am,evOp,simprocAttr]<;>rfl) ?_
   have n4:=x4.nx
   have g4:h4.get b=some (.cells (ys.flatMap eA) 4 false):=by rw[x4.gt _ (by have:=AH.lt_of_get g3; omega)]; exact g3
   have X4:Ext lo h h4:=X3.trans (x4.mono (by omega))
   have ii:idx? ((i:Nat):Int) zs.length=some i:=idx_nat (by omega)
   cases q:P zs[j] with
   | true =>
     refine W.no (by simp only[am,evOp,simprocAttr,q]) (W.skip ?_)
     refine W.run (by simp only[am,evOp,simprocAttr,e6,w3]<;>rfl) ?_
     exact⟨zs.length-(j+1),by omega,i,j+1,ys,rfl,by omega,by omega,p3,k3 q,k2,g4,X4,by simp only[hl,am,evOp,simprocAttr,e0,e1,e5]⟩
   | false =>
     refine W.yes (by simp only[am,evOp,simprocAttr,q]) ?_
     have wq:=wr_flat (f:=eA) (e:=4) (fun _=>rfl) (x:=zs[j]) g4 (i:=i) (by omega)
     have wq:wrCells h4 b (i*4) [.int .i64 zs[j].1,.int .i64 zs[j].2.1,.int .i64 zs[j].2.2.1,.int .i64 zs[j].2.2.2]=_:=wq
     have r4:rdCells h4 h2.next 0 4=some [.int .i64 zs[j].1,.int .i64 zs[j].2.1,.int .i64 zs[j].2.2.1,.int .i64 zs[j].2.2.2]:=by rw[rdCells_eq (x4.gt _ (by omega))]; exact r3
     have u5:=Upd.put (o:=.cells ((ys.set i zs[j]).flatMap eA) 4 false) g4
     refine W.seq (W.run (by simp only[am,evOp,simprocAttr,e0,e5,r4,ii,wq]<;>rfl) ?_)
     refine W.run (by simp only[am,evOp,simprocAttr,e5,w4]<;>rfl) ?_
     refine W.run (by simp only[am,evOp,simprocAttr,e6,w3]<;>rfl) ?_
     exact⟨zs.length-(j+1),by omega,i+1,j+1,ys.set i zs[j],rfl,by omega,by omega,by rw[List.length_set]; exact p3,(k4 q).1,(k4 q).2,u5.get,X4.trans (u5.ext hb),by simp only[hl,am,evOp,simprocAttr,e0,e1]⟩
  ·have c2:decide (((j:Nat):Int)<((zs.length:Nat):Int))=false:=decide_eq_false (by omega)
   refine W.no (by simp only[am,evOp,simprocAttr,c2]) ?_
   have hjj:j=zs.length:=by omega
   subst hjj
   rw[List.take_length] at p4
   exact W.exit ⟨fun _=>⟨i,ys,p1,p3,p4,p6,p7,by simp only[hl,am,evOp,simprocAttr,e0,e5]⟩,fun e=>absurd rfl e⟩
 ·rintro ts h2 ⟨i,ys,p1,p3,p4,p6,p7,e0,e5,-⟩
  simp only at e0 e5
  obtain⟨h3,us,s1,u3,s3,s4⟩:=scl_flat (f:=eA) (e:=4) (z:=((0,0,0,0):A4)) (by omega) (fun _=>rfl) rfl p6 p3 p1
  have s1:sclA h2 [.int .i64 0,.int .i64 0,.int .i64 0,.int .i64 0] (.sl b (i*4) (zs.length-i) (zs.length-i))=some (.un,h3):=s1
  have hsy:Sl h2 4 (.sl b 0 zs.length zs.length) (ys.map eA):=IsSl.sl (lo:=lo) (by omega) (fun _=>rfl) (.inr ⟨b,zs.length,hb,rfl,p6,by rw[flat_len (f:=eA) (e:=4) (fun _=>rfl),p3]⟩)
  have hsu:Sl h3 4 (.sl b 0 zs.length zs.length) (us.map eA):=IsSl.sl (lo:=lo) (by omega) (fun _=>rfl) (.inr ⟨b,zs.length,hb,rfl,u3.get,by rw[flat_len (f:=eA) (e:=4) (fun _=>rfl),s3]⟩)
  have sv:slV h2 4 (.sl b 0 zs.length zs.length) (some (.int .i64 (i:Nat))) none none=some (.sl b (i*4) (zs.length-i) (zs.length-i)):=by
   simp only[slV,p6,if_true,bnds,bnd_nat (show i≤zs.length by omega),Option.map_some,Option.isSome_none,Bool.false_eq_true,if_false]
   rw[if_neg (by omega),Nat.zero_add]
  obtain⟨r,t1,t2,t3,_⟩:=hsu.upto (hi:=i) (by rw[List.length_map]; omega)
  rw[← List.map_take,s4,p4] at t2
  refine W.seq (W.run (by simp only[am,evOp,simprocAttr,e0,e5,slLA_eq,Option.map_none,Option.map_some,sv,s1]<;>rfl) ?_)
  refine W.seq (W.run (by simp only[am,evOp,simprocAttr,e0,e5,slLA_eq,Option.map_none,Option.map_some,t1]<;>rfl) ?_)
  have rc:=t2.cells
  refine W.ret ⟨r,(by simp only[rs,rf49,am,evOp,simprocAttr,rc.1]<;>rfl),t2,p7.trans (u3.ext hb),fun b' o n c e=>?_⟩
  have:=t3 (fun b=>lo≤b) hb
  rw[e] at this
  exact this
set_option maxHeartbeats 1000000 in
theorem delfI_ok {h:AH}{lo:Nat}{v:AV}{xs:List Int}{P:Int→Bool}{f:FuncId}{caps:List AV} (hv:IsSl h 1 lo v (xs.flatMap eI)) (hlo:lo≤h.next) (hl34:xs.length<2 ^ 30)
 (hf:∀ x∈xs,∀ h',Ext lo h h'→C prg f ([.int .i64 x]++caps) h' fun r h''=>r=.bool (P x)∧Ext h'.next h' h'') :
 C prg 20 [v,.fn f caps] h fun r h'=>Sl h' 1 r ((xs.filter fun x=>!P x).map eI)∧Ext lo h h'∧∀ b o n c,r=.sl b o n c→lo≤b:=by
 have hs:=IsSl.sl (f:=eI) (e:=1) (by omega) (fun _=>rfl) hv
 obtain⟨vc,vo⟩:=hs.cells
 have hvb:∀ b o n c,v=.sl b o n c→lo≤b:=fun b o n c e=>by
  rcases hv with ⟨h1,_⟩|⟨b',n',h1,h2,_⟩
  ·rw[h1] at e; cases e
  ·rw[h2] at e; cases e; exact h1
 refine C.func pf20 ?_
 refine W.seq (W.run (by simp only[am,evOp,simprocAttr,initTm]<;>rfl) ?_)
 have hidx:=idxfI_ok (h:=h) (v:=v) (xs:=xs) (P:=P) (k:=f) (caps:=caps) hs (by omega) fun x hx h' x'=>hf x hx h' (x'.mono hlo)
 refine W.seq (W.reg (G.gcall 2 (by simp only[am,evOp,simprocAttr,initTm]<;>rfl) rfl (by simp only[am,evOp,simprocAttr,initTm]) (by simp only[am,evOp,simprocAttr,initTm]<;>rfl) (hidx) fun r h1 hq=>?_))
 obtain⟨rfl,x1⟩:=hq
 refine G.run (by simp only[am,evOp,simprocAttr]<;>rfl) ?_
 have X1:Ext lo h h1:=x1.mono hlo
 have n1:=x1.nx
 have hs1:=hs.ext x1 (Nat.le_refl _)
 rcases fidx_split P xs 0 with ⟨q1,q2⟩|⟨a,y,b',rfl,q2,q3,q4⟩
 ·rw[q1]
  refine W.seq (W.seq (W.run (by simp only[am,evOp,simprocAttr,decide_true]<;>rfl) ?_))
  refine W.yes (by simp only[am,evOp,simprocAttr]) (W.seq (W.run (by simp only[am,evOp,simprocAttr,initTm]<;>rfl) ?_))
  exact W.ret ⟨v,(by simp only[rs,rf20,am,evOp,simprocAttr,vc]<;>rfl),by rw[keep_all q2]; exact hs1,X1,hvb⟩
 rw[q4,Nat.zero_add]
 have c1:decide (((a.length:Nat):Int)=-1)=false:=decide_eq_false (by omega)
 have w1:IntKind.i64.wrap (((a.length:Nat):Int)+1)=((a.length+1:Nat):Int):=wr64 (by rw[List.length_append] at hl34; omega) (by rw[List.length_append] at hl34; omega)
 refine W.seq (W.seq (W.run (by simp only[am,evOp,simprocAttr,c1]<;>rfl) ?_))
 refine W.no (by simp only[am,evOp,simprocAttr,decide_false]) (W.skip ?_)
 refine W.seq (W.seq (W.run (by simp only[am,evOp,simprocAttr,w1]<;>rfl) ?_))
 have hxl:(a++y::b').length=a.length+1+b'.length:=by simp; omega
 have hta:(a++y::b').take a.length=((a++y::b').take (a.length+1)).filter fun x=>!P x:=by
  rw[List.take_left' rfl,show a++y::b'=(a++[y])++b' by simp,List.take_left' (by simp),List.filter_append,keep_all q2]
  simp [q3]
 generalize a++y::b'=zs at *
 generalize hal:a.length=k0 at *
 rcases hv with ⟨_,hz⟩|⟨b,m,hb,rfl,gb,hbl⟩
 ·exfalso
  have:=congrArg List.length hz
  rw[flat_len (f:=eI) (e:=1) (fun _=>rfl)] at this
  have this:zs.length*1=0:=this
  omega
 have hm:zs.length=m:=by rw[flat_len (f:=eI) (e:=1) (fun _=>rfl)] at hbl; omega
 subst hm
 have hbn:=AH.lt_of_get gb
 have gb1:h1.get b=some (.cells (zs.flatMap eI) 1 false):=by rw[x1.gt _ hbn]; exact gb
 refine W.cut (fun ts h'=>∃ (i:Nat) (ys:List Int),i<zs.length∧ys.length=zs.length∧ys.take i=zs.filter (fun x=>!P x)∧h'.get b=some (.cells (ys.flatMap eI) 1 false)∧Ext lo h h'∧Held [(0,.sl b 0 zs.length zs.length),(5,.int .i64 (i:Nat))] ts) ?_ ?_
 ·refine W.block (W.loop (fun n ts h'=>∃ (i j:Nat) (ys:List Int),n=zs.length-j∧i<j∧j≤zs.length∧ys.length=zs.length∧ys.take i=(zs.take j).filter (fun x=>!P x)∧ys.drop j=zs.drop j∧h'.get b=some (.cells (ys.flatMap eI) 1 false)∧Ext lo h h' ∧
   Held [(0,.sl b 0 zs.length zs.length),(1,.fn f caps),(5,.int .i64 (i:Nat)),(6,.int .i64 (j:Nat))] ts) ?_ (n:=zs.length-(k0+1))
   ⟨k0,k0+1,zs,rfl,by omega,by omega,rfl,hta,rfl,gb1,X1,by simp only[hl,am,evOp,simprocAttr,initTm]⟩)
  rintro n ts h2 ⟨i,j,ys,rfl,p1,p2,p3,p4,p5,p6,p7,e0,e1,e5,e6,-⟩
  simp only at e0 e1 e5 e6
  have n2:=p7.nx
  refine W.seq (W.seq (W.run (by simp only[am,evOp,simprocAttr,e0,e6]<;>rfl) ?_))
  by_cases hj:j<zs.length
  ·have c2:decide (((j:Nat):Int)<((zs.length:Nat):Int))=true:=decide_eq_true (by omega)
   refine W.yes (by simp only[am,evOp,simprocAttr,c2]) (W.skip ?_)
   obtain⟨hy,k1,k2,k3,k4⟩:=del_step (P:=P) p3 p1 hj p4 p5
   have hsy:Sl h2 1 (.sl b 0 zs.length zs.length) (ys.map eI):=IsSl.sl (lo:=lo) (by omega) (fun _=>rfl) (.inr ⟨b,zs.length,hb,rfl,p6,by rw[flat_len (f:=eI) (e:=1) (fun _=>rfl),p3]⟩)
   obtain⟨qb,qp,a1,r1,_⟩:=hsy.at1 (map_at (f:=eI) hy)
   rw[k1] at r1
   have X3:=p7
   have g3:=p6
   have w3:IntKind.i64.wrap (((j:Nat):Int)+1)=((j+1:Nat):Int):=wr64 (by omega) (by omega)
   have w4:IntKind.i64.wrap (((i:Nat):Int)+1)=((i+1:Nat):Int):=wr64 (by omega) (by omega)
   have hc:=hf zs[j] (List.getElem_mem hj) h2 X3
   refine W.seq (W.block (W.seq (W.run (by simp only[am,evOp,simprocAttr,e0,e6,a1,r1]<;>rfl) ?_)))
   refine W.seq (W.reg (G.gcallv 2 (by simp only[am,evOp,simprocAttr,e1]<;>rfl) rfl (by simp only[am,evOp,simprocAttr,e1]) (by simp only[am,evOp,simprocAttr,e1]<;>rfl) (by simp only[am,evOp,simprocAttr,e1]<;>rfl) (hc) fun r h4 hq=>?_))
   obtain⟨rfl,x4⟩:=hq
   refine G.run (by simp only[am,evOp,simprocAttr]<;>rfl) ?_
   have n4:=x4.nx
   have g4:h4.get b=some (.cells (ys.flatMap eI) 1 false):=by rw[x4.gt _ (by have:=AH.lt_of_get g3; omega)]; exact g3
   have X4:Ext lo h h4:=X3.trans (x4.mono (by omega))
   have ii:idx? ((i:Nat):Int) zs.length=some i:=idx_nat (by omega)
   cases q:P zs[j] with
   | true =>
     refine W.no (by simp only[am,evOp,simprocAttr,q]) (W.skip ?_)
     refine W.run (by simp only[am,evOp,simprocAttr,e6,w3]<;>rfl) ?_
     exact⟨zs.length-(j+1),by omega,i,j+1,ys,rfl,by omega,by omega,p3,k3 q,k2,g4,X4,by simp only[hl,am,evOp,simprocAttr,e0,e1,e5]⟩
   | false =>
     refine W.yes (by simp only[am,evOp,simprocAttr,q]) ?_
     have wq:=wr_flat (f:=eI) (e:=1) (fun _=>rfl) (x:=zs[j]) g4 (i:=i) (by omega)
     rw[Nat.mul_one] at wq
     have wq:wrCells h4 b i [.int .i64 zs[j]]=_:=wq
     have u5:=Upd.put (o:=.cells ((ys.set i zs[j]).flatMap eI) 1 false) g4
     refine W.seq (W.run (by simp only[am,evOp,simprocAttr,e0,e5,ii,Nat.mul_one,wq]<;>rfl) ?_)
     refine W.run (by simp only[am,evOp,simprocAttr,e5,w4]<;>rfl) ?_
     refine W.run (by simp only[am,evOp,simprocAttr,e6,w3]<;>rfl) ?_
     exact⟨zs.length-(j+1),by omega,i+1,j+1,ys.set i zs[j],rfl,by omega,by omega,by rw[List.length_set]; exact p3,(k4 q).1,(k4 q).2,u5.get,X4.trans (u5.ext hb),by simp only[hl,am,evOp,simprocAttr,e0,e1]⟩
  ·have c2:decide (((j:Nat):Int)<((zs.length:Nat):Int))=false:=decide_eq_false (by omega)
   refine W.no (by simp only[am,evOp,simprocAttr,c2]) ?_
   have hjj:j=zs.length:=by omega
   subst hjj
   rw[List.take_length] at p4
   exact W.exit ⟨fun _=>⟨i,ys,p1,p3,p4,p6,p7,by simp only[hl,am,evOp,simprocAttr,e0,e5]⟩,fun e=>absurd rfl e⟩
 ·rintro ts h2 ⟨i,ys,p1,p3,p4,p6,p7,e0,e5,-⟩
  simp only at e0 e5
  obtain⟨h3,us,s1,u3,s3,s4⟩:=scl_flat (f:=eI) (e:=1) (z:=(0:Int)) (by omega) (fun _=>rfl) rfl p6 p3 p1
  have s1:sclA h2 [.int .i64 0] (.sl b (i*1) (zs.length-i) (zs.length-i))=some (.un,h3):=s1
  have hsy:Sl h2 1 (.sl b 0 zs.length zs.length) (ys.map eI):=IsSl.sl (lo:=lo) (by omega) (fun _=>rfl) (.inr ⟨b,zs.length,hb,rfl,p6,by rw[flat_len (f:=eI) (e:=1) (fun _=>rfl),p3]⟩)
  have hsu:Sl h3 1 (.sl b 0 zs.length zs.length) (us.map eI):=IsSl.sl (lo:=lo) (by omega) (fun _=>rfl) (.inr ⟨b,zs.length,hb,rfl,u3.get,by rw[flat_len (f:=eI) (e:=1) (fun _=>rfl),s3]⟩)
  have sv:slV h2 1 (.sl b 0 zs.length zs.length) (some (.int .i64 (i:Nat))) none none=some (.sl b (i*1) (zs.length-i) (zs.length-i)):=by
   simp only[slV,p6,if_true,bnds,bnd_nat (show i≤zs.length by omega),Option.map_some,Option.isSome_none,Bool.false_eq_true,if_false]
   rw[if_neg (by omega),Nat.zero_add]
  obtain⟨r,t1,t2,t3,_⟩:=hsu.upto (hi:=i) (by rw[List.length_map]; omega)
  rw[← List.map_take,s4,p4] at t2
  refine W.seq (W.run (by simp only[am,evOp,simprocAttr,e0,e5,slLA_eq,Option.map_none,Option.map_some,sv,s1]<;>rfl) ?_)
  refine W.seq (W.run (by simp only[am,evOp,simprocAttr,e0,e5,slLA_eq,Option.map_none,Option.map_some,t1]<;>rfl) ?_)
  have rc:=t2.cells
  refine W.ret ⟨r,(by simp only[rs,rf20,am,evOp,simprocAttr,rc.1]<;>rfl),t2,p7.trans (u3.ext hb),fun b' o n c e=>?_⟩
  have:=t3 (fun b=>lo≤b) hb
  rw[e] at this
  exact this
end Go.Proofs.YticaalcbgikjjaaGreatDoor
