/-
  The definition's side: cycle. The definition's side: Check, Good.
-/
import Derived.Test.YticaalcbgikjjaaGreatDoorKLh
set_option linter.all false
namespace Go.Proofs.YticaalcbgikjjaaGreatDoor
open Go.Am
theorem rcycle_ok {h:AH}{n:Nat}{ev:AV}{es:List (Int×Int)} (he:SlE h ev es) (hm:mayB (n:Nat) es=true) :
 C prg 35 [.agg [.int .i64 (n:Nat),ev]] h fun r h'=>∃ xs:List Int,SlI h' r xs∧(xs=[]↔Acy es)∧Ext h.next h h':=by
 obtain⟨m1,m2,m3,m4⟩:=may_of hm
 have el:=he.len
 rw[List.length_map] at el
 obtain⟨ec,eo⟩:=he.cells
 refine C.func pf35 ?_
 have x0:Ext h.next h (h.new (.cells [.int .i64 (n:Nat),ev] 2 false)):=Ext.new (Nat.le_refl _)
 have g0:(h.new (.cells [.int .i64 (n:Nat),ev] 2 false)).get h.next=some (.cells [.int .i64 (n:Nat),ev] 2 false):=by rw[AH.get_new,if_pos rfl]
 have n0:(h.new (.cells [.int .i64 (n:Nat),ev] 2 false)).next=h.next+1:=rfl
 refine W.seq (W.run (by simp only[am,evOp,simprocAttr,initTm]<;>rfl) ?_)
 generalize h.new (.cells [.int .i64 (n:Nat),ev] 2 false)=h0 at *
 have r0:rdCells h0 h.next 0 2=some [.int .i64 (n:Nat),ev]:=by rw[rdCells_of g0]; rfl
 refine W.seq (W.reg (G.gcall 1 (by simp only[am,evOp,simprocAttr,initTm,r0]<;>rfl) rfl (by simp only[am,evOp,simprocAttr,initTm,r0]) (by simp only[am,evOp,simprocAttr,initTm,r0]<;>rfl) (rleft_ok (he.ext x0 (Nat.le_refl _)) hm) fun r h1 hq=>?_))
 obtain⟨lb,hlb,rfl,gL,x1⟩:=hq
 refine G.run (by simp only[am,evOp,simprocAttr]<;>rfl) ?_
 have X1:=x0.trans (x1.mono x0.nx)
 have n1:=x1.nx
 have hlt:=AH.lt_of_get gL
 have G1:h1.get h.next=some (.cells [.int .i64 (n:Nat),ev] 2 false):=by rw[x1.gt _ (by omega)]; exact g0
 have rn:rdCells h1 h.next 0 1=some [.int .i64 (n:Nat)]:=rd_at G1 rfl
 have hlk:∀ {h':AH}{v:Nat},h'.get lb=some (.cells (bls (leftK n es n)) 1 false)→v<n→rdCells h' lb v 1=some [.bool (lk n es n v)]:=fun hg hv=>rd_at hg (bls_at (by rw[leftK_len]; exact hv))
 have hacy:=left_acy (n:=n) (es:=es) m4
 refine W.seq (W.run (by simp only[am,evOp,simprocAttr,initTm]<;>rfl) ?_)
 refine W.seq (W.cut (fun ts h'=>h'=h1∧∃ k,k≤n∧(∀ v,v<k→lk n es n v=false)∧(k<n→lk n es n k=true)∧Held [(1,.ptr h.next 0),(3,.sl lb 0 n n),(4,.int .i64 (k:Nat))] ts)
  (W.block (W.upto n (fun k ts h'=>h'=h1∧(∀ v,v<k→lk n es n v=false)∧Held [(1,.ptr h.next 0),(3,.sl lb 0 n n),(4,.int .i64 (k:Nat))] ts) ?_ ⟨rfl,fun v hv=>absurd hv (by omega),by simp only[hl,am,evOp,simprocAttr,initTm,Int.natCast_zero]⟩)) ?_)
 ·rintro k ts h' hk ⟨rfl,j1,e1,e3,e4,-⟩
  simp only at e1 e3 e4
  by_cases q:k<n
  ·have c1:decide (((k:Nat):Int)<((n:Nat):Int))=true:=decide_eq_true (by omega)
   have ik:idx? ((k:Nat):Int) n=some k:=idx_nat q
   have rk:=hlk gL q
   have w1:=w1_ok (k:=k) (by omega)
   refine W.seq (W.seq (W.run (by simp only[am,evOp,simprocAttr,e1,e3,e4,rn,c1,ik,rk,Nat.mul_one]<;>rfl) ?_))
   refine W.cond (t:=!lk n es n k) (by simp only[am,evOp,simprocAttr]) (fun q2=>?_) fun q2=>?_
   ·have q2:lk n es n k=false:=by simpa using q2
    refine W.skip (W.block (W.run (by simp only[am,evOp,simprocAttr,e4,w1]<;>rfl) ?_))
    refine⟨q,rfl,fun v hv=>?_,by simp only[hl,am,evOp,simprocAttr,e1,e3]⟩
    by_cases e:v=k
    ·subst e; exact q2
    ·exact j1 v (by omega)
   ·have q2:lk n es n k=true:=by simpa using q2
    exact W.exit ⟨fun _=>⟨rfl,k,by omega,j1,fun _=>q2,by simp only[hl,am,evOp,simprocAttr,e1,e3,e4]⟩,fun e=>absurd rfl e⟩
  ·have c1:decide (((k:Nat):Int)<((n:Nat):Int))=false:=decide_eq_false (by omega)
   refine W.seq (W.seq (W.run (by simp only[am,evOp,simprocAttr,e1,e4,rn,c1]<;>rfl) ?_))
   refine W.no (by simp only[am,evOp,simprocAttr]) ?_
   exact W.exit ⟨fun _=>⟨rfl,k,by omega,j1,fun q'=>absurd q' q,by simp only[hl,am,evOp,simprocAttr,e1,e3,e4]⟩,fun e=>absurd rfl e⟩
 rintro ts h' ⟨rfl,k0,hk0,j1,j2,e1,e3,e4,-⟩
 simp only at e1 e3 e4
 refine W.seq (W.seq (W.run (by simp only[am,evOp,simprocAttr,e1,e4,rn]<;>rfl) ?_))
 refine W.cond (t:=decide (k0=n)) (by simp only[am,evOp,simprocAttr]; exact congrArg AV.bool (by simp only[decide_eq_decide]; omega)) (fun q=>?_) fun q=>?_
 ·have q:k0=n:=of_decide_eq_true q
  subst q
  refine W.seq (W.run (by simp only[am,evOp,simprocAttr]<;>rfl) ?_)
  exact W.ret ⟨.nils,(by simp only[rs,rf35,am,evOp,simprocAttr]<;>rfl),[],.inl ⟨rfl,.inl rfl⟩,⟨fun _=>hacy.1 j1,fun _=>rfl⟩,X1⟩
 have q:¬ k0=n:=of_decide_eq_false q
 have hk0n:k0<n:=by omega
 have hleft:=j2 hk0n
 have hnot:¬ Acy es:=fun ha=>by rw[hacy.2 ha k0 hk0n] at hleft; cases hleft
 refine W.skip ?_
 refine W.seq (W.run (by simp only[am,evOp,simprocAttr]<;>rfl) ?_)
 have x2:Ext h'.next h' (h'.new (.cells [] 1 false)):=Ext.new (Nat.le_refl _)
 have g2:(h'.new (.cells [] 1 false)).get h'.next=some (.cells [] 1 false):=by rw[AH.get_new,if_pos rfl]
 have n2:(h'.new (.cells [] 1 false)).next=h'.next+1:=rfl
 generalize h'.new (.cells [] 1 false)=h2 at *
 refine W.seq (W.cut (fun ts h3=>∃ way:List Int,∃ (wv:AV) (a:Nat),way.length≤n∧((a:Nat):Int)∈way∧IsSl h3 1 h'.next wv (way.flatMap eI)∧Ext h'.next h' h3∧Held [(5,wv),(4,.int .i64 (a:Nat))] ts)
  (W.block (W.upto n (fun k ts h3=>∃ way:List Int,∃ (wv:AV) (a:Nat),way.length=k∧way.Nodup∧(∀ z∈way,z∈upTo n)∧a<n∧lk n es n a=true∧IsSl h3 1 h'.next wv (way.flatMap eI)∧Ext h'.next h' h3∧Held [(1,.ptr h.next 0),(3,.sl lb 0 n n),(5,wv),(4,.int .i64 (a:Nat))] ts) ?_
   ⟨[],.sl h'.next 0 0 0,k0,rfl,List.nodup_nil,by simp,hk0n,hleft,.inr ⟨h'.next,0,Nat.le_refl _,rfl,g2,rfl⟩,x2,by simp only[hl,am,evOp,simprocAttr,e1,e3,e4]⟩)) ?_)
 ·rintro k ts h3 hk ⟨way,wv,a,i1,i2,i3,ha,hla,iw,ix,e1,e3,e5,e4,-⟩
  simp only at e1 e3 e5 e4
  have sw:SlI h3 wv way:=IsSl.sl (by omega) (fun _=>rfl) iw
  refine W.seq (W.seq (W.reg (G.gcall 2 (by simp only[am,evOp,simprocAttr,e5,e4]<;>rfl) rfl (by simp only[am,evOp,simprocAttr,e5,e4]) (by simp only[am,evOp,simprocAttr,e5,e4]<;>rfl) (rhas_ok (x:=((a:Nat):Int)) sw (by omega)) fun r h4 hq=>?_)))
  obtain⟨rfl,rfl⟩:=hq
  refine G.run (by simp only[am,evOp,simprocAttr]<;>rfl) ?_
  have hlo:=(fidx_lo (((a:Nat):Int)==·) way 0).2
  rw[any_mem] at hlo
  refine W.cond (t:=decide (fidx (((a:Nat):Int)==·) way 0<0)) (by simp only[am,evOp,simprocAttr]) (fun q2=>?_) fun q2=>?_
  rotate_left
  ·have q2:((a:Nat):Int)∈way:=by
    refine Decidable.byContradiction fun hc=>?_
    exact of_decide_eq_false q2 (hlo.2 (decide_eq_false hc))
   exact W.exit ⟨fun _=>⟨way,wv,a,by omega,q2,iw,ix,by simp only[hl,am,evOp,simprocAttr,e5,e4]⟩,fun e=>absurd rfl e⟩
  have q2:¬ ((a:Nat):Int)∈way:=of_decide_eq_false (hlo.1 (of_decide_eq_true q2))
  refine W.skip (W.block ?_)
  obtain⟨s',h5,a5,i5,x5,n5⟩:=iw.push (bytes:=8) [.int .i64 ((a:Nat):Int)] ix.nx (by omega) rfl rfl (by rw[len_cI]; unfold tooMany; omega) (by rw[len_cI]; unfold tooMany; omega)
  refine W.seq (W.run (by simp only[am,evOp,simprocAttr,e5,e4,a5]<;>rfl) ?_)
  have X5:Ext h'.next h' h5:=ix.trans x5
  have rn5:rdCells h5 h.next 0 1=some [.int .i64 (n:Nat)]:=by rw[rdCells_eq (X5.gt _ (by omega))]; exact rn
  have re5:rdCells h5 h.next 1 1=some [ev]:=rd_at (by rw[X5.gt _ (by omega)]; exact G1) rfl
  have gL5:h5.get lb=some (.cells (bls (leftK n es n)) 1 false):=by rw[X5.gt _ hlt]; exact gL
  have he5:=he.ext (X1.trans (X5.mono X1.nx)) (Nat.le_refl _)
  refine W.seq (W.run (by simp only[am,evOp,simprocAttr,e1,rn5]<;>rfl) ?_)
  refine W.seq (W.seq (W.run (by simp only[am,evOp,simprocAttr]<;>rfl) ?_))
  refine W.whl (α:=Int) (N:=es.length) (fun j b=>[(1,.ptr h.next 0),(3,.sl lb 0 n n),(5,s'),(4,.int .i64 (a:Nat)),(6,.int .i64 b),(7,.int .i64 (j:Nat))])
   (fun j b h6=>h6=h5∧((b=n∧∀ e∈es.take j,¬ (e.2=((a:Nat):Int)∧lk n es n e.1.toNat=true))∨(0≤b∧b<n∧lk n es n b.toNat=true))) ((n:Nat):Int) (by simp only[hl,am,evOp,simprocAttr,e1,e3,e4,Int.natCast_zero]) ⟨rfl,.inl ⟨rfl,by simp⟩⟩ ?_ ?_ ?_
  ·rintro j b ts h6 hj ⟨rfl,jb⟩ ⟨e1,e3,e5,e4,e6,e7,-⟩
   simp only at e1 e3 e5 e4 e6 e7
   exact⟨_,(by simp only[am,evOp,simprocAttr,e1,e7,re5,el,Int.ofNat_lt]<;>rfl),by simp only[am,evOp,simprocAttr],by simp only[hl,am,evOp,simprocAttr,e1,e3,e5,e4,e6,e7]⟩
  ·rintro j b ts h6 hj ⟨rfl,jb⟩ ⟨e1,e3,e5,e4,e6,e7,-⟩
   simp only at e1 e3 e5 e4 e6 e7
   obtain⟨b1,p1,a1,_,rr,_⟩:=he5.at (map_at (f:=eE) hj)
   have ra:rdCells h6 b1 p1 1=some [.int .i64 es[j].1]:=rr 0 _ rfl
   have rb:rdCells h6 b1 (p1+1) 1=some [.int .i64 es[j].2]:=rr 1 _ rfl
   obtain⟨ea,eb,hab,hea,heb⟩:=okE_nat (List.all_eq_true.1 m4 _ (List.getElem_mem hj))
   rw[hab] at ra rb
   simp only at ra rb
   have ia:idx? ((ea:Nat):Int) n=some ea:=idx_nat hea
   have la:=hlk gL5 hea
   have w1:=w1_ok (k:=j) (by omega)
   have htk:es.take (j+1)=es.take j++[(((ea:Nat):Int),((eb:Nat):Int))]:=by rw[List.take_succ_eq_append_getElem hj,hab]
   have keep:(¬ (((eb:Nat):Int)=((a:Nat):Int)∧lk n es n ea=true))→((b=n∧∀ e∈es.take (j+1),¬ (e.2=((a:Nat):Int)∧lk n es n e.1.toNat=true))∨(0≤b∧b<n∧lk n es n b.toNat=true)):=fun hne=>by
    rcases jb with ⟨jb,ja⟩|jb
    ·refine .inl ⟨jb,fun e hee=>?_⟩
     rw[htk,List.mem_append] at hee
     rcases hee with hee|hee
     ·exact ja e hee
     ·simp only[List.mem_cons,List.not_mem_nil,or_false] at hee
      subst hee
      exact hne
    ·exact .inr jb
   by_cases q3:((eb:Nat):Int)=((a:Nat):Int)
   ·have c3:decide (((eb:Nat):Int)=((a:Nat):Int))=true:=decide_eq_true q3
    refine W.seq (W.run (by simp only[am,evOp,simprocAttr,e1,e3,e4,e7,re5,a1,ra,rb,c3,ia,la,Nat.mul_one]<;>rfl) ?_)
    refine W.cond (t:=lk n es n ea) (by simp only[am,evOp,simprocAttr]) (fun q4=>?_) fun q4=>?_
    ·refine W.run (by simp only[am,evOp,simprocAttr,e1,e6,e7,re5,a1,ra,mn2]<;>rfl) ?_
     refine⟨if ((ea:Nat):Int)<b then ((ea:Nat):Int) else b,⟨rfl,.inr ?_⟩,_,(by simp only[am,evOp,simprocAttr,e7,w1]<;>rfl),by simp only[hl,am,evOp,simprocAttr,e1,e3,e5,e4]⟩
     have hb':b=n∨(0≤b∧b<n∧lk n es n b.toNat=true):=by
      rcases jb with ⟨jb,_⟩|jb
      ·exact .inl jb
      ·exact .inr jb
     split
     ·exact⟨by omega,by omega,by rw[Int.toNat_natCast]; exact q4⟩
     ·rcases hb' with hb'|hb'
      ·omega
      ·exact hb'
    ·exact W.skip ⟨b,⟨rfl,keep (fun hh=>by rw[hh.2] at q4; cases q4)⟩,_,(by simp only[am,evOp,simprocAttr,e7,w1]<;>rfl),by simp only[hl,am,evOp,simprocAttr,e1,e3,e5,e4,e6]⟩
   ·have c3:decide (((eb:Nat):Int)=((a:Nat):Int))=false:=decide_eq_false q3
    refine W.seq (W.run (by simp only[am,evOp,simprocAttr,e1,e3,e4,e7,re5,a1,ra,rb,c3]<;>rfl) ?_)
    refine W.no (by simp only[am,evOp,simprocAttr]) (W.skip ⟨b,⟨rfl,keep (fun hh=>q3 hh.1)⟩,_,(by simp only[am,evOp,simprocAttr,e7,w1]<;>rfl),by simp only[hl,am,evOp,simprocAttr,e1,e3,e5,e4,e6]⟩)
  ·rintro b ts h6 ⟨rfl,jb⟩ ⟨e1,e3,e5,e4,e6,e7,-⟩
   simp only at e1 e3 e5 e4 e6 e7
   rw[List.take_length] at jb
   have hb:0≤b∧b<n∧lk n es n b.toNat=true:=by
    rcases jb with ⟨_,ja⟩|jb
    ·obtain⟨e,hee,h1,h2⟩:=left_pred hla
     have:=okE_in (List.all_eq_true.1 m4 e hee)
     exact absurd ⟨by omega,h1⟩ (ja e hee)
    ·exact jb
   obtain⟨bb,rfl⟩:∃ bb:Nat,b=bb:=⟨b.toNat,by omega⟩
   refine W.run (by simp only[am,evOp,simprocAttr,e6]<;>rfl) ?_
   have hnd:(way++[((a:Nat):Int)]).Nodup:=by
    rw[List.nodup_append]
    refine⟨i2,by simp,fun x hx y hy e=>?_⟩
    simp only[List.mem_cons,List.not_mem_nil,or_false] at hy
    subst hy
    exact q2 (e▸hx)
   have hup:∀ z∈way++[((a:Nat):Int)],z∈upTo n:=fun z hz=>by
    rcases List.mem_append.1 hz with hz|hz
    ·exact i3 z hz
    ·simp only[List.mem_cons,List.not_mem_nil,or_false] at hz
     subst hz
     exact mem_upTo.2 ⟨by omega,by omega⟩
   have hle:=nd_len hnd hup
   rw[upTo_len,List.length_append] at hle
   refine⟨?_,way++[((a:Nat):Int)],s',bb,by rw[List.length_append,i1]; rfl,hnd,hup,by omega,by have:=hb.2.2; rwa [Int.toNat_natCast] at this,?_,X5,by simp only[hl,am,evOp,simprocAttr,e1,e3,e5]⟩
   ·simp only[List.length_cons,List.length_nil] at hle
    omega
   ·rw[List.flatMap_append]
    exact i5
 rintro ts h3 ⟨way,wv,a,hwl,ham,iw,ix,e5,e4,-⟩
 simp only at e5 e4
 have sw:SlI h3 wv way:=IsSl.sl (by omega) (fun _=>rfl) iw
 obtain⟨i,hi1,hi2⟩:=fidx_mem ham
 obtain⟨v',s1,s2,_⟩:=sw.from (lo:=i) (by rw[List.length_map]; omega)
 rw[← List.map_drop] at s2
 have X3:Ext h.next h h3:=X1.trans (ix.mono X1.nx)
 refine W.seq (W.reg (G.gcall 3 (by simp only[am,evOp,simprocAttr,e5,e4]<;>rfl) rfl (by simp only[am,evOp,simprocAttr,e5,e4]) (by simp only[am,evOp,simprocAttr,e5,e4]<;>rfl) (rhas_ok (x:=((a:Nat):Int)) sw (by omega)) fun r h4 hq=>?_))
 obtain⟨rfl,rfl⟩:=hq
 rw[hi1]
 refine G.run (by simp only[am,evOp,simprocAttr,slLA_eq,Option.map_none,s1]<;>rfl) ?_
 have l2:=s2.len
 rw[List.length_map] at l2
 have hml:0<(way.drop i).length:=by rw[List.length_drop]; omega
 have hml2:(way.drop i).length≤64:=by rw[List.length_drop]; omega
 generalize way.drop i=ws at *
 refine W.seq (W.run (by simp only[am,evOp,simprocAttr]<;>rfl) ?_)
 refine W.seq (W.seq (W.run (by simp only[am,evOp,simprocAttr]<;>rfl) ?_))
 refine W.whl (α:=Nat) (N:=ws.length) (fun k l=>[(5,v'),(8,.int .i64 (l:Nat)),(9,.int .i64 (k:Nat))]) (fun k l h5=>h5=h4∧l<ws.length) 0 (by simp only[hl,am,evOp,simprocAttr,Int.natCast_zero]) ⟨rfl,hml⟩ ?_ ?_ ?_
 ·rintro k l ts h5 hk ⟨rfl,jl⟩ ⟨e5,e8,e9,-⟩
  simp only at e5 e8 e9
  exact⟨_,(by simp only[am,evOp,simprocAttr,e5,e9,l2,Int.ofNat_lt]<;>rfl),by simp only[am,evOp,simprocAttr],by simp only[hl,am,evOp,simprocAttr,e5,e8,e9]⟩
 ·rintro k l ts h5 hk ⟨rfl,jl⟩ ⟨e5,e8,e9,-⟩
  simp only at e5 e8 e9
  obtain⟨b1,p1,a1,r1,_⟩:=s2.at1 (map_at (f:=eI) hk)
  obtain⟨b2,p2,a2,r2,_⟩:=s2.at1 (map_at (f:=eI) jl)
  have w1:=w1_ok (k:=k) (by omega)
  refine W.seq (W.run (by simp only[am,evOp,simprocAttr,e5,e8,e9,a1,a2,r1,r2]<;>rfl) ?_)
  refine W.cond (t:=decide (ws[k]<ws[l])) (by simp only[am,evOp,simprocAttr]) (fun q=>?_) fun q=>?_
  ·refine W.run (by simp only[am,evOp,simprocAttr,e9]<;>rfl) ?_
   exact⟨k,⟨rfl,hk⟩,_,(by simp only[am,evOp,simprocAttr,e9,w1]<;>rfl),by simp only[hl,am,evOp,simprocAttr,e5]⟩
  ·exact W.skip ⟨l,⟨rfl,jl⟩,_,(by simp only[am,evOp,simprocAttr,e9,w1]<;>rfl),by simp only[hl,am,evOp,simprocAttr,e5,e8]⟩
 ·rintro l ts h5 ⟨rfl,jl⟩ ⟨e5,e8,e9,-⟩
  simp only at e5 e8
  refine W.seq (W.run (by simp only[am,evOp,simprocAttr]<;>rfl) ?_)
  have x6:Ext h5.next h5 (h5.new (.cells [] 1 false)):=Ext.new (Nat.le_refl _)
  have g6:(h5.new (.cells [] 1 false)).get h5.next=some (.cells [] 1 false):=by rw[AH.get_new,if_pos rfl]
  have n6:(h5.new (.cells [] 1 false)).next=h5.next+1:=rfl
  generalize h5.new (.cells [] 1 false)=h6 at *
  refine W.seq (W.seq (W.run (by simp only[am,evOp,simprocAttr]<;>rfl) ?_))
  refine W.whl (α:=AV×List Int) (N:=ws.length) (fun k a=>[(5,v'),(8,.int .i64 (l:Nat)),(10,a.1),(11,.int .i64 (k:Nat))]) (fun k a h7=>a.2.length=k∧IsSl h7 1 h5.next a.1 (a.2.flatMap eI)∧Ext h5.next h5 h7) (.sl h5.next 0 0 0,[]) (by simp only[hl,am,evOp,simprocAttr,e5,e8,Int.natCast_zero])
   ⟨rfl,.inr ⟨h5.next,0,Nat.le_refl _,rfl,g6,rfl⟩,x6⟩ ?_ ?_ ?_
  ·rintro k ⟨av,ys⟩ ts h7 hk ⟨k1,k2,kx⟩ ⟨e5,e8,e10,e11,-⟩
   simp only at e5 e8 e10 e11 k1 k2
   exact⟨_,(by simp only[am,evOp,simprocAttr,e5,e11,l2,Int.ofNat_lt]<;>rfl),by simp only[am,evOp,simprocAttr],by simp only[hl,am,evOp,simprocAttr,e5,e8,e10,e11]⟩
  ·rintro k ⟨av,ys⟩ ts h7 hk ⟨k1,k2,kx⟩ ⟨e5,e8,e10,e11,-⟩
   simp only at e5 e8 e10 e11 k1 k2
   have hidx:(l+ws.length-k) % ws.length<ws.length:=Nat.mod_lt _ hml
   have s7:=s2.ext kx (Nat.le_refl _)
   obtain⟨b1,p1,a1,r1,_⟩:=s7.at1 (map_at (f:=eI) hidx)
   have w1:=w1_ok (k:=k) (by omega)
   have wa:IntKind.i64.wrap (((l:Nat):Int)+((ws.length:Nat):Int))=((l+ws.length:Nat):Int):=by rw[wr64 (by omega) (by omega)]; omega
   have wb:IntKind.i64.wrap (((l+ws.length:Nat):Int)-((k:Nat):Int))=((l+ws.length-k:Nat):Int):=by rw[wr64 (by omega) (by omega)]; omega
   have wc:((l+ws.length-k:Nat):Int).tmod ((ws.length:Nat):Int)=(((l+ws.length-k) % ws.length:Nat):Int):=rfl
   have wd:(if ((ws.length:Nat):Int)=0 then (none:Option AV) else some (.int .i64 (((l+ws.length-k:Nat):Int).tmod ((ws.length:Nat):Int))))=some (.int .i64 (((l+ws.length-k) % ws.length:Nat):Int)):=by rw[if_neg (by omega),wc]
   obtain⟨s'',h8,a8,i8,x8,n8⟩:=k2.push (bytes:=8) [.int .i64 (ws[(l+ws.length-k) % ws.length])] kx.nx (by omega) rfl rfl (by rw[len_cI]; unfold tooMany; omega) (by rw[len_cI]; unfold tooMany; omega)
   refine W.run (by simp only[am,evOp,simprocAttr,e5,e8,e10,e11,l2,wa,wb,wd,a1,r1,a8]<;>rfl) ?_
   refine⟨(s'',ys++[ws[(l+ws.length-k) % ws.length]]),⟨by simp [k1],?_,kx.trans x8⟩,_,(by simp only[am,evOp,simprocAttr,e11,w1]<;>rfl),by simp only[hl,am,evOp,simprocAttr,e5,e8]⟩
   simp only
   rw[List.flatMap_append]
   exact i8
  ·rintro⟨av,ys⟩ ts h7 ⟨k1,k2,kx⟩ ⟨e5,e8,e10,e11,-⟩
   simp only at e10 k1 k2
   refine W.seq (W.run (by simp only[am,evOp,simprocAttr,e10]<;>rfl) ?_)
   refine W.ret ⟨av,(by simp only[rs,rf35,am,evOp,simprocAttr]<;>rfl),ys,IsSl.sl (by omega) (fun _=>rfl) k2,⟨fun h=>?_,fun h=>absurd h hnot⟩,X3.trans (kx.mono X3.nx)⟩
   rw[h] at k1
   simp only[List.length_nil] at k1
   omega
end Go.Proofs.YticaalcbgikjjaaGreatDoor
namespace Go.Proofs.YticaalcbgikjjaaGreatDoor
open Go.Am
theorem rcheck_ok {h:AH}{n:Int}{ev:AV}{es:List (Int×Int)} (he:SlE h ev es) (hl:es.length<2 ^ 30) :
 C prg 15 [.agg [.int .i64 n,ev]] h fun r h'=>(∃ c a v,r=.tup [.int .i64 c,a,v]∧(c=0↔GoodP n es))∧Ext h.next h h':=by
 have el:=he.len
 rw[List.length_map] at el
 obtain⟨ec,eo⟩:=he.cells
 refine C.func pf15 ?_
 have x0:Ext h.next h (h.new (.cells [.int .i64 n,ev] 2 false)):=Ext.new (Nat.le_refl _)
 have g0:(h.new (.cells [.int .i64 n,ev] 2 false)).get h.next=some (.cells [.int .i64 n,ev] 2 false):=by rw[AH.get_new,if_pos rfl]
 have n0:(h.new (.cells [.int .i64 n,ev] 2 false)).next=h.next+1:=rfl
 refine W.seq (W.run (by simp only[am,evOp,simprocAttr,initTm]<;>rfl) ?_)
 generalize h.new (.cells [.int .i64 n,ev] 2 false)=h0 at *
 have r0:rdCells h0 h.next 0 2=some [.int .i64 n,ev]:=by rw[rdCells_of g0]; rfl
 refine W.seq (W.seq (W.reg (G.gcall 1 (by simp only[am,evOp,simprocAttr,initTm,r0]<;>rfl) rfl (by simp only[am,evOp,simprocAttr,initTm,r0]) (by simp only[am,evOp,simprocAttr,initTm,r0]<;>rfl) (rmay_ok (he.ext x0 (Nat.le_refl _)) (by omega)) fun r h1 hq=>?_)))
 obtain⟨rfl,x1⟩:=hq
 refine G.run (by simp only[am,evOp,simprocAttr]<;>rfl) ?_
 have X1:=x0.trans (x1.mono x0.nx)
 have n1:=x1.nx
 refine W.cond (t:=!mayB n es) (by simp only[am,evOp,simprocAttr]) (fun q=>?_) fun q=>?_
 ·have q:mayB n es=false:=by simpa using q
  refine W.seq (W.run (by simp only[am,evOp,simprocAttr]<;>rfl) ?_)
  exact W.ret ⟨.tup [.int .i64 1,.int .i64 0,.nils],(by simp only[rs,rf15,am,evOp,simprocAttr]<;>rfl),⟨1,_,_,rfl,⟨fun h=>(by omega),fun h=>by rw[h.1] at q; cases q⟩⟩,X1⟩
 have hm:mayB n es=true:=by simpa using q
 obtain⟨nn,rfl⟩:∃ nn:Nat,n=nn:=⟨n.toNat,by
  simp only[mayB,Bool.and_eq_true,decide_eq_true_eq] at hm; omega⟩
 refine W.skip ?_
 have G1:h1.get h.next=some (.cells [.int .i64 (nn:Nat),ev] 2 false):=by rw[x1.gt _ (by omega)]; exact g0
 have re:rdCells h1 h.next 1 1=some [ev]:=rd_at G1 rfl
 have he1:=he.ext X1 (Nat.le_refl _)
 refine W.seq (W.seq (W.run (by simp only[am,evOp,simprocAttr]<;>rfl) ?_))
 refine W.whl (α:=Unit) (N:=es.length) (fun k _=>[(1,.ptr h.next 0),(5,.int .i64 (k:Nat))]) (fun k _ h'=>h'=h1∧∀ e∈es.take k,e.1≠e.2) () (by simp only[held_cons,held_nil,am,evOp,↓reduceIte,Nat.reduceEqDiff,Int.reduceEq,Nat.reduceAdd,Nat.reduceLeDiff,reduceCtorEq,initTm,Int.natCast_zero]) ⟨rfl,by simp⟩ ?_ ?_ ?_
 ·rintro k _ ts h2 hk ⟨rfl,j1⟩ ⟨e1,e5,-⟩
  simp only at e1 e5
  exact⟨_,(by simp only[am,evOp,↓reduceIte,Nat.reduceEqDiff,Int.reduceEq,Nat.reduceAdd,Nat.reduceLeDiff,reduceCtorEq,e1,e5,re,el,Int.ofNat_lt]<;>rfl),by simp only[am,evOp,↓reduceIte,Nat.reduceEqDiff,Int.reduceEq,Nat.reduceAdd,Nat.reduceLeDiff,reduceCtorEq],by simp only[held_cons,held_nil,am,evOp,↓reduceIte,Nat.reduceEqDiff,Int.reduceEq,Nat.reduceAdd,Nat.reduceLeDiff,reduceCtorEq,e1,e5]⟩
 ·rintro k _ ts h2 hk ⟨rfl,j1⟩ ⟨e1,e5,-⟩
  simp only at e1 e5
  obtain⟨b1,p1,a1,_,rr,_⟩:=he1.at (map_at (f:=eE) hk)
  have ra:rdCells h2 b1 p1 1=some [.int .i64 es[k].1]:=rr 0 _ rfl
  have rb:rdCells h2 b1 (p1+1) 1=some [.int .i64 es[k].2]:=rr 1 _ rfl
  have w1:=w1_ok (k:=k) (by omega)
  refine W.seq (W.run (by simp only[am,evOp,simprocAttr,e1,e5,re,a1,ra,rb]<;>rfl) ?_)
  refine W.cond (t:=decide (es[k].1=es[k].2)) (by simp only[am,evOp,simprocAttr]) (fun q=>?_) fun q=>?_
  ·have q:es[k].1=es[k].2:=of_decide_eq_true q
   refine W.seq (W.run (by simp only[am,evOp,simprocAttr,e5]<;>rfl) ?_)
   exact W.ret ⟨.tup [.int .i64 13,.int .i64 (k:Nat),.nils],(by simp only[rs,rf15,am,evOp,simprocAttr,e5]<;>rfl),⟨13,_,_,rfl,⟨fun h=>(by omega),fun h=>absurd q (h.2.1 _ (List.getElem_mem hk))⟩⟩,X1⟩
  ·have q:¬ es[k].1=es[k].2:=of_decide_eq_false q
   refine W.skip ⟨(),⟨rfl,fun e hee=>?_⟩,_,(by simp only[am,evOp,↓reduceIte,Nat.reduceEqDiff,Int.reduceEq,Nat.reduceAdd,Nat.reduceLeDiff,reduceCtorEq,e5,w1]<;>rfl),by simp only[held_cons,held_nil,am,evOp,↓reduceIte,Nat.reduceEqDiff,Int.reduceEq,Nat.reduceAdd,Nat.reduceLeDiff,reduceCtorEq,e1]⟩
   rw[List.take_succ_eq_append_getElem hk,List.mem_append] at hee
   rcases hee with hee|hee
   ·exact j1 e hee
   ·simp only[List.mem_cons,List.not_mem_nil,or_false] at hee
    subst hee
    exact q
 rintro _ ts h2 ⟨rfl,j1⟩ ⟨e1,-⟩
 simp only at e1
 rw[List.take_length] at j1
 refine W.seq (W.seq (W.run (by simp only[am,evOp,simprocAttr]<;>rfl) ?_))
 refine W.whl (α:=Unit) (N:=es.length) (fun k _=>[(1,.ptr h.next 0),(6,.int .i64 (k:Nat))]) (fun k _ h'=>h'=h2∧(es.take k).Nodup) () (by simp only[held_cons,held_nil,am,evOp,↓reduceIte,Nat.reduceEqDiff,Int.reduceEq,Nat.reduceAdd,Nat.reduceLeDiff,reduceCtorEq,e1,Int.natCast_zero]) ⟨rfl,by simp⟩ ?_ ?_ ?_
 ·rintro k _ ts h3 hk ⟨rfl,j2⟩ ⟨e1,e6,-⟩
  simp only at e1 e6
  exact⟨_,(by simp only[am,evOp,↓reduceIte,Nat.reduceEqDiff,Int.reduceEq,Nat.reduceAdd,Nat.reduceLeDiff,reduceCtorEq,e1,e6,re,el,Int.ofNat_lt]<;>rfl),by simp only[am,evOp,↓reduceIte,Nat.reduceEqDiff,Int.reduceEq,Nat.reduceAdd,Nat.reduceLeDiff,reduceCtorEq],by simp only[held_cons,held_nil,am,evOp,↓reduceIte,Nat.reduceEqDiff,Int.reduceEq,Nat.reduceAdd,Nat.reduceLeDiff,reduceCtorEq,e1,e6]⟩
 ·rintro k _ ts h3 hk ⟨rfl,j2⟩ ⟨e1,e6,-⟩
  simp only at e1 e6
  have w1:=w1_ok (k:=k) (by omega)
  obtain⟨b2,p2,a2,r2,_⟩:=he1.at (map_at (f:=eE) hk)
  refine W.seq (W.run (by simp only[am,evOp,simprocAttr]<;>rfl) ?_)
  refine W.whl (α:=Unit) (N:=k) (fun j _=>[(1,.ptr h.next 0),(6,.int .i64 (k:Nat)),(7,.int .i64 (j:Nat))]) (fun j _ h'=>h'=h3∧es[k]∉es.take j) () (by simp only[held_cons,held_nil,am,evOp,↓reduceIte,Nat.reduceEqDiff,Int.reduceEq,Nat.reduceAdd,Nat.reduceLeDiff,reduceCtorEq,e1,e6,Int.natCast_zero]) ⟨rfl,by simp⟩ ?_ ?_ ?_
  ·rintro j _ ts h4 hj ⟨rfl,j3⟩ ⟨e1,e6,e7,-⟩
   simp only at e1 e6 e7
   exact⟨_,(by simp only[am,evOp,↓reduceIte,Nat.reduceEqDiff,Int.reduceEq,Nat.reduceAdd,Nat.reduceLeDiff,reduceCtorEq,e6,e7,Int.ofNat_lt]<;>rfl),by simp only[am,evOp,↓reduceIte,Nat.reduceEqDiff,Int.reduceEq,Nat.reduceAdd,Nat.reduceLeDiff,reduceCtorEq],by simp only[held_cons,held_nil,am,evOp,↓reduceIte,Nat.reduceEqDiff,Int.reduceEq,Nat.reduceAdd,Nat.reduceLeDiff,reduceCtorEq,e1,e6,e7]⟩
  ·rintro j _ ts h4 hj ⟨rfl,j3⟩ ⟨e1,e6,e7,-⟩
   simp only at e1 e6 e7
   have hjl:j<es.length:=by omega
   have w2:=w1_ok (k:=j) (by omega)
   obtain⟨b1,p1,a1,r1,_⟩:=he1.at (map_at (f:=eE) hjl)
   refine W.seq (W.run (by simp only[am,evOp,simprocAttr,e1,e6,e7,re,a1,a2,r1,r2,eq_flat2]<;>rfl) ?_)
   refine W.cond (t:=es[j]==es[k]) (by simp only[am,evOp,simprocAttr]) (fun q=>?_) fun q=>?_
   ·have q:es[j]=es[k]:=by simpa using q
    refine W.seq (W.run (by simp only[am,evOp,simprocAttr,e6]<;>rfl) ?_)
    refine W.ret ⟨.tup [.int .i64 14,.int .i64 (k:Nat),.nils],(by simp only[rs,rf15,am,evOp,simprocAttr,e6]<;>rfl),⟨14,_,_,rfl,⟨fun h=>(by omega),fun h=>?_⟩⟩,X1⟩
    exfalso
    have:=h.2.2.1
    rw[← List.take_append_drop k es,List.drop_eq_getElem_cons hk,List.nodup_append] at this
    refine this.2.2 es[k] ?_ _ (List.mem_cons_self ..) rfl
    rw[← q]
    exact List.mem_take_iff_getElem.2 ⟨j,by omega,rfl⟩
   ·have q:¬ es[j]=es[k]:=by simpa using q
    refine W.skip ⟨(),⟨rfl,?_⟩,_,(by simp only[am,evOp,↓reduceIte,Nat.reduceEqDiff,Int.reduceEq,Nat.reduceAdd,Nat.reduceLeDiff,reduceCtorEq,e7,w2]<;>rfl),by simp only[held_cons,held_nil,am,evOp,↓reduceIte,Nat.reduceEqDiff,Int.reduceEq,Nat.reduceAdd,Nat.reduceLeDiff,reduceCtorEq,e1,e6]⟩
    rw[List.take_succ_eq_append_getElem hjl,List.mem_append]
    rintro (h|h)
    ·exact j3 h
    ·simp only[List.mem_cons,List.not_mem_nil,or_false] at h
     exact q h.symm
  ·rintro _ ts h4 ⟨rfl,j3⟩ ⟨e1,e6,e7,-⟩
   simp only at e1 e6
   refine⟨(),⟨rfl,?_⟩,_,(by simp only[am,evOp,↓reduceIte,Nat.reduceEqDiff,Int.reduceEq,Nat.reduceAdd,Nat.reduceLeDiff,reduceCtorEq,e6,w1]<;>rfl),by simp only[held_cons,held_nil,am,evOp,↓reduceIte,Nat.reduceEqDiff,Int.reduceEq,Nat.reduceAdd,Nat.reduceLeDiff,reduceCtorEq,e1]⟩
   rw[List.take_succ_eq_append_getElem hk,List.nodup_append]
   refine⟨j2,by simp,fun x hx y hy e=>?_⟩
   simp only[List.mem_cons,List.not_mem_nil,or_false] at hy
   subst hy
   exact j3 (e▸hx)
 rintro _ ts h3 ⟨rfl,j2⟩ ⟨e1,-⟩
 simp only at e1
 rw[List.take_length] at j2
 have r3:rdCells h3 h.next 0 2=some [.int .i64 (nn:Nat),ev]:=by rw[rdCells_of G1]; rfl
 refine W.seq (W.reg (G.gcall 1 (by simp only[am,evOp,simprocAttr,e1,r3]<;>rfl) rfl (by simp only[am,evOp,simprocAttr,e1,r3]) (by simp only[am,evOp,simprocAttr,e1,r3]<;>rfl) (rcycle_ok he1 hm) fun r h4 hq=>?_))
 obtain⟨xs,sx,hxa,x4⟩:=hq
 refine G.run (by simp only[am,evOp,simprocAttr]<;>rfl) ?_
 have X4:=X1.trans (x4.mono X1.nx)
 have lx:=sx.len
 rw[List.length_map] at lx
 refine W.seq (W.seq (W.run (by simp only[am,evOp,simprocAttr,lx]<;>rfl) ?_))
 refine W.cond (t:=decide (0<xs.length)) (by simp only[am,evOp,simprocAttr]; exact congrArg AV.bool (by simp only[decide_eq_decide]; omega)) (fun q=>?_) fun q=>?_
 ·have q:0<xs.length:=of_decide_eq_true q
  refine W.seq (W.run (by simp only[am,evOp,simprocAttr]<;>rfl) ?_)
  refine W.ret ⟨.tup [.int .i64 15,.int .i64 0,r],(by simp only[rs,rf15,am,evOp,simprocAttr]<;>rfl),⟨15,_,_,rfl,⟨fun h=>(by omega),fun h=>?_⟩⟩,X4⟩
  exfalso
  have:=hxa.2 h.2.2.2.1
  subst this
  simp at q
 have q:¬ 0<xs.length:=of_decide_eq_false q
 have hacy:=hxa.1 (List.length_eq_zero_iff.1 (by omega))
 refine W.skip ?_
 have r4:rdCells h4 h.next 0 2=some [.int .i64 (nn:Nat),ev]:=by rw[rdCells_eq (x4.gt _ (by omega))]; exact r3
 have hn64:=(may_of hm).2.1
 refine W.seq (W.reg (G.gcall 1 (by simp only[am,evOp,simprocAttr,e1,r4]<;>rfl) rfl (by simp only[am,evOp,simprocAttr,e1,r4]) (by simp only[am,evOp,simprocAttr,e1,r4]<;>rfl) (rbare_ok (he.ext X4 (Nat.le_refl _)) hl hn64) fun sv h5 hq=>?_))
 obtain⟨is,x5⟩:=hq
 refine G.run (by simp only[am,evOp,simprocAttr]<;>rfl) ?_
 have X5:=X4.trans (x5.mono X4.nx)
 have ss:SlI h5 sv (srcM nn es):=IsSl.sl (by omega) (fun _=>rfl) is
 have ls:=ss.len
 rw[List.length_map] at ls
 refine W.seq (W.seq (W.run (by simp only[am,evOp,simprocAttr,ls]<;>rfl) ?_))
 refine W.cond (t:=decide (1<(srcM nn es).length)) (by simp only[am,evOp,simprocAttr]; exact congrArg AV.bool (by simp only[decide_eq_decide]; omega)) (fun q2=>?_) fun q2=>?_
 ·have q2:1<(srcM nn es).length:=of_decide_eq_true q2
  obtain⟨v',s1,_,_⟩:=ss.upto (hi:=2) (by rw[List.length_map]; omega)
  have s1:slV h5 1 sv none (some (.int .i64 2)) none=some v':=s1
  refine W.seq (W.run (by simp only[am,evOp,simprocAttr,slLA_eq,Option.map_none,s1]<;>rfl) ?_)
  refine W.ret ⟨.tup [.int .i64 16,.int .i64 0,v'],(by simp only[rs,rf15,am,evOp,simprocAttr]<;>rfl),⟨16,_,_,rfl,⟨fun h=>(by omega),fun h=>?_⟩⟩,X5⟩
  exfalso
  have:=h.2.2.2.2
  rw[Int.toNat_natCast] at this
  omega
 ·have q2:¬ 1<(srcM nn es).length:=of_decide_eq_false q2
  refine W.skip (W.seq (W.run (by simp only[am,evOp,simprocAttr]<;>rfl) ?_))
  exact W.ret ⟨.tup [.int .i64 0,.int .i64 0,.nils],(by simp only[rs,rf15,am,evOp,simprocAttr]<;>rfl),⟨0,_,_,rfl,⟨fun _=>⟨hm,j1,j2,hacy,by rw[Int.toNat_natCast]; omega⟩,fun _=>rfl⟩⟩,X5⟩
theorem rgood_ok {h:AH}{n:Int}{ev:AV}{es:List (Int×Int)} (he:SlE h ev es) (hl:es.length<2 ^ 30) :
 C prg 6 [.agg [.int .i64 n,ev]] h fun r h'=>(∃ b,r=.bool b∧(b=true↔GoodP n es))∧Ext h.next h h':=by
 obtain⟨ec,eo⟩:=he.cells
 refine C.func pf6 ?_
 have x0:Ext h.next h (h.new (.cells [.int .i64 n,ev] 2 false)):=Ext.new (Nat.le_refl _)
 have g0:(h.new (.cells [.int .i64 n,ev] 2 false)).get h.next=some (.cells [.int .i64 n,ev] 2 false):=by rw[AH.get_new,if_pos rfl]
 refine W.seq (W.run (by simp only[am,evOp,simprocAttr,initTm]<;>rfl) ?_)
 generalize h.new (.cells [.int .i64 n,ev] 2 false)=h0 at *
 have r0:rdCells h0 h.next 0 2=some [.int .i64 n,ev]:=by rw[rdCells_of g0]; rfl
 refine W.seq (W.reg (G.gcall 1 (by simp only[am,evOp,simprocAttr,initTm,r0]<;>rfl) rfl (by simp only[am,evOp,simprocAttr,initTm,r0]) (by simp only[am,evOp,simprocAttr,initTm,r0]<;>rfl) (rcheck_ok (he.ext x0 (Nat.le_refl _)) hl) fun r h1 hq=>?_))
 obtain⟨⟨c,a,v,rfl,hc⟩,x1⟩:=hq
 refine G.run (by simp only[am,evOp,simprocAttr]<;>rfl) ?_
 refine W.seq (W.run (by simp only[am,evOp,simprocAttr]<;>rfl) ?_)
 exact W.ret ⟨.bool (decide (c=0)),(by simp only[rs,rf6,am,evOp,simprocAttr]<;>rfl),⟨_,rfl,by rw[decide_eq_true_eq]; exact hc⟩,x0.trans (x1.mono x0.nx)⟩
end Go.Proofs.YticaalcbgikjjaaGreatDoor
