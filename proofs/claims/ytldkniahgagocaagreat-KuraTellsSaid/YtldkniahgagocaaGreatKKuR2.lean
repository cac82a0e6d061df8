/-
  arborref08.What, the walk.
-/
import Derived.Test.YtldkniahgagocaaGreatKKe
set_option linter.all false
namespace Go.Proofs.YtldkniahgagocaaGreat
open Go.Am
open Go.Kur
def ToldR (N:Nat) (l:List (Nat×Nat)) (r:AV):Prop:=(doc5 N l∧r=.int .i64 5)∨(¬ doc5 N l∧doc33 N l∧r=.int .i64 33)∨(¬ doc5 N l∧¬ doc33 N l∧r=.int .i64 0)
def AnsR (n:Int) (E:List (Int×Int)) (L:List Int) (r:AV):Prop:=(¬ LayR n E L∧r=.int .i64 0)∨(LayR n E L∧((finP (l0 E L) n.toNat=none∧r=.int .i64 0)∨∃ l,finP (l0 E L) n.toNat=some l∧ToldR n.toNat l r))
theorem min_N (a b:Nat):(if ((b:Nat):Int)<((a:Nat):Int) then ((b:Nat):Int) else ((a:Nat):Int))=((min a b:Nat):Int):=by split<;>omega
theorem max_N (a b:Nat):(if ((a:Nat):Int)<((b:Nat):Int) then ((b:Nat):Int) else ((a:Nat):Int))=((max a b:Nat):Int):=by split<;>omega
set_option maxHeartbeats 8000000 in
theorem rkwhat_ok {h:AH}{n:Int}{ev lv:AV}{E:List (Int×Int)}{L:List Int} (he:SlE h ev E) (hL:SlI h lv L) (hel:E.length<2 ^ 28) (hll:L.length<2 ^ 28) (hn:n<2 ^ 28) :
 C prg 6 [.agg [.int .i64 n,ev],lv] h fun r h'=>Ext h.next h h'∧AnsR n E L r:=by
 obtain⟨ec,eo⟩:=he.cells
 have hEl:=he.len
 have hLl:=hL.len
 rw[List.length_map] at hEl hLl
 refine C.func pf6 ?_
 refine W.seq (W.run (by simp only[am,evOp,simprocAttr,initTm]<;>rfl) ?_)
 have x0:Ext h.next h (h.new (.cells [.int .i64 n,ev] 2 false)):=Ext.new (Nat.le_refl _)
 have g0:(h.new (.cells [.int .i64 n,ev] 2 false)).get h.next=some (.cells [.int .i64 n,ev] 2 false):=by rw[AH.get_new,if_pos rfl]
 have n0:(h.new (.cells [.int .i64 n,ev] 2 false)).next=h.next+1:=rfl
 generalize h.new (.cells [.int .i64 n,ev] 2 false)=h1 at *
 have x1:Ext h1.next h1 (h1.new (.cells [] 2 false)):=Ext.new (Nat.le_refl _)
 have g1:(h1.new (.cells [] 2 false)).get h1.next=some (.cells [] 2 false):=by rw[AH.get_new,if_pos rfl]
 have n1:(h1.new (.cells [] 2 false)).next=h1.next+1:=rfl
 refine W.seq (W.run (by simp only[am,evOp,simprocAttr,initTm]<;>rfl) ?_)
 generalize h1.new (.cells [] 2 false)=hA at *
 have mem:∀ {h':AH},Ext h1.next h1 h'→Ext h.next h h'∧h'.get h.next=some (.cells [.int .i64 n,ev] 2 false)∧SlE h' ev E∧SlI h' lv L:=fun {h'} x=>by
  have X:Ext h.next h h':=x0.trans (x.mono (by omega))
  exact⟨X,by rw[x.gt _ (by omega)]; exact g0,he.ext X (Nat.le_refl _),hL.ext X (Nat.le_refl _)⟩
 refine W.seq (W.seq (W.run (by simp only[am,evOp,simprocAttr]<;>rfl) ?_))
 refine W.whl (α:=AV) (N:=L.length) (fun k a=>[(1,lv),(2,.ptr h.next 0),(5,a),(6,.int .i64 (k:Nat))])
  (fun k a h'=>(∀ (j:Nat) (hj:j<L.length),j<k→OkR n E L[j]∧L[j]∉L.take j)∧IsSl h' 2 h1.next a (pC (l0 E (L.take k)))∧Ext h1.next h1 h') (.sl h1.next 0 0 0) (by simp only[hl,am,evOp,simprocAttr,initTm,Int.natCast_zero])
  ⟨fun j hj hk=>absurd hk (Nat.not_lt_zero _),.inr ⟨h1.next,0,Nat.le_refl _,rfl,g1,rfl⟩,x1⟩ ?_ ?_ ?_
 ·rintro k a ts h2 hk _ ⟨e1,e2,e5,e6,-⟩
  simp only at e1 e2 e5 e6
  exact⟨_,(by simp only[am,evOp,simprocAttr,e1,e6,hLl,Int.ofNat_lt]<;>rfl),by simp only[am,evOp,simprocAttr],by simp only[hl,am,evOp,simprocAttr,e1,e2,e5,e6]⟩
 ·rintro k a ts h2 hk ⟨j1,j2,j3⟩ ⟨e1,e2,e5,e6,-⟩
  simp only at e1 e2 e5 e6
  obtain⟨X2,g2,he2,hL2⟩:=mem j3
  have n2:=j3.nx
  obtain⟨b1,p1,a1,a2,_⟩:=hL2.at1 (map_at (f:=eI) hk)
  have rv:rdCells h2 h.next 1 1=some [ev]:=rd_at g2 rfl
  generalize hz:L[k]=z at *
  have hnot:∀ {h':AH},Ext h1.next h1 h'→¬ (OkR n E z∧z∉L.take k)→Ext h.next h h'∧AnsR n E L (.int .i64 0):=fun {h'} x hb=>⟨(mem x).1,.inl ⟨fun hp=>hb (hz▸hp k hk),rfl⟩⟩
  refine W.seq (W.seq ?_)
  by_cases q1:z<0
  ·have c1:decide (z<0)=true:=decide_eq_true q1
   refine W.run (by simp only[am,evOp,simprocAttr,e1,e6,a1,a2,c1]<;>rfl) ?_
   refine W.yes (by simp only[am,evOp,simprocAttr]) (W.seq (W.run (by simp only[am,evOp,simprocAttr]<;>rfl) ?_))
   exact W.ret ⟨_,(by simp only[rs,rf6,am,evOp,simprocAttr]<;>rfl),hnot j3 fun q=>by have:=q.1.1.1; omega⟩
  have c1:decide (z<0)=false:=decide_eq_false q1
  obtain⟨i,rfl⟩:=Int.eq_ofNat_of_zero_le (show 0≤z by omega)
  by_cases q2:E.length≤i
  ·have c2:decide (((E.length:Nat):Int)≤((i:Nat):Int))=true:=decide_eq_true (by omega)
   refine W.run (by simp only[am,evOp,simprocAttr,e1,e6,a1,a2,c1,e2,rv,hEl,c2]<;>rfl) ?_
   refine W.yes (by simp only[am,evOp,simprocAttr]) (W.seq (W.run (by simp only[am,evOp,simprocAttr]<;>rfl) ?_))
   exact W.ret ⟨_,(by simp only[rs,rf6,am,evOp,simprocAttr]<;>rfl),hnot j3 fun q=>by have:=q.1.1.2.1; omega⟩
  have c2:decide (((E.length:Nat):Int)≤((i:Nat):Int))=false:=decide_eq_false (by omega)
  have hiE:i<E.length:=by omega
  refine W.run (by simp only[am,evOp,simprocAttr,e1,e6,a1,a2,c1,e2,rv,hEl,c2]<;>rfl) ?_
  refine W.no (by simp only[am,evOp,simprocAttr]) (W.skip ?_)
  refine W.seq (W.seq (W.run (by simp only[am,evOp,simprocAttr]<;>rfl) ?_))
  refine W.whl (α:=Unit) (N:=k) (fun m _=>[(1,lv),(2,.ptr h.next 0),(5,a),(6,.int .i64 (k:Nat)),(7,.int .i64 (m:Nat))])
   (fun m _ h'=>h'=h2∧∀ (j:Nat) (hj:j<L.length),j<m→L[j]≠((i:Nat):Int)) () (by simp only[hl,am,evOp,simprocAttr,e1,e2,e5,e6,Int.natCast_zero]) ⟨rfl,fun j hj hm=>absurd hm (Nat.not_lt_zero _)⟩ ?_ ?_ ?_
  ·rintro m _ ts h3 hm ⟨rfl,_⟩ ⟨f1,f2,f5,f6,f7,-⟩
   simp only at f1 f2 f5 f6 f7
   exact⟨_,(by simp only[am,evOp,simprocAttr,f7,f6,Int.ofNat_lt]<;>rfl),by simp only[am,evOp,simprocAttr],by simp only[hl,am,evOp,simprocAttr,f1,f2,f5,f6,f7]⟩
  ·rintro m _ ts h3 hm ⟨rfl,jm⟩ ⟨f1,f2,f5,f6,f7,-⟩
   simp only at f1 f2 f5 f6 f7
   obtain⟨b2,p2,d1,d2,_⟩:=hL2.at1 (map_at (f:=eI) (show m<L.length by omega))
   have w1:IntKind.i64.wrap (((m:Nat):Int)+1)=((m+1:Nat):Int):=wr64 (by omega) (by omega)
   by_cases q3:L[m]=((i:Nat):Int)
   ·have c3:decide (L[m]=((i:Nat):Int))=true:=decide_eq_true q3
    refine W.seq (W.run (by simp only[am,evOp,simprocAttr,f1,f6,f7,d1,d2,a1,a2,c3]<;>rfl) ?_)
    refine W.yes (by simp only[am,evOp,simprocAttr]) (W.seq (W.run (by simp only[am,evOp,simprocAttr]<;>rfl) ?_))
    exact W.ret ⟨_,(by simp only[rs,rf6,am,evOp,simprocAttr]<;>rfl),hnot j3 fun q=>q.2 (by rw[← q3,List.mem_take_iff_getElem]; exact⟨m,by omega,rfl⟩)⟩
   ·have c3:decide (L[m]=((i:Nat):Int))=false:=decide_eq_false q3
    refine W.seq (W.run (by simp only[am,evOp,simprocAttr,f1,f6,f7,d1,d2,a1,a2,c3]<;>rfl) ?_)
    refine W.no (by simp only[am,evOp,simprocAttr]) (W.skip ⟨(),⟨rfl,fun j hj hjm=>?_⟩,_,(by simp only[am,evOp,simprocAttr,f7,w1]<;>rfl),by simp only[hl,am,evOp,simprocAttr,f1,f2,f5,f6]⟩)
    by_cases hjm':j=m
    ·subst hjm'; exact q3
    ·exact jm j hj (by omega)
  rintro _ ts h3 ⟨rfl,jm⟩ ⟨f1,f2,f5,f6,f7,-⟩
  simp only at f1 f2 f5 f6
  have hnk:((i:Nat):Int)∉L.take k:=fun hm=>by
   obtain⟨j,hj,e⟩:=List.mem_take_iff_getElem.1 hm
   exact jm j (by omega) (by omega) e
  obtain⟨b3,p3,d1,d2,_⟩:=he2.at (map_at (f:=eE) hiE)
  have hgd:E.getD i (0,0)=E[i]:=by rw[List.getD_eq_getElem?_getD,List.getElem?_eq_getElem hiE]; rfl
  have hok:OkR n E ((i:Nat):Int)↔0≤E[i].1∧0≤E[i].2∧E[i].1<n∧E[i].2<n∧E[i].1≠E[i].2:=by
   unfold OkR OkE
   rw[Int.toNat_natCast,hgd]
   constructor
   ·rintro⟨⟨_,_,a,b,c,d⟩,e⟩; exact⟨a,b,c,d,e⟩
   ·rintro⟨a,b,c,d,e⟩; exact⟨⟨by omega,by omega,a,b,c,d⟩,e⟩
  have htl:tlK E i=E[i].1.toNat:=by unfold tlK; rw[hgd]
  have hhd:hdK E i=E[i].2.toNat:=by unfold hdK; rw[hgd]
  generalize E[i]=p at *
  obtain⟨pa,pb⟩:=p
  simp only at hok htl hhd
  obtain⟨h4,w4,x4,g4,n4⟩:=mk_loc (h:=h3) (z:=[.int .i64 0,.int .i64 0]) (cs:=[.int .i64 pa,.int .i64 pb]) (e:=2) rfl
  refine W.seq (W.run (by simp only[am,evOp,simprocAttr,f1,f6,f2,rv,a1,a2,d1,d2,eE,w4]<;>rfl) ?_)
  have X4:Ext h1.next h1 h4:=j3.trans (x4.mono (by omega))
  have s0:rdCells h4 h3.next 0 1=some [.int .i64 pa]:=rd_at g4 rfl
  have s1:rdCells h4 h3.next 1 1=some [.int .i64 pb]:=rd_at g4 rfl
  have rn4:rdCells h4 h.next 0 1=some [.int .i64 n]:=rd_at (mem X4).2.1 rfl
  refine W.seq (W.seq ?_)
  by_cases q4:pa<0
  ·have c4:decide (pa<0)=true:=decide_eq_true q4
   refine W.run (by simp only[am,evOp,simprocAttr,s0,c4]<;>rfl) ?_
   refine W.yes (by simp only[am,evOp,simprocAttr]) (W.seq (W.run (by simp only[am,evOp,simprocAttr]<;>rfl) ?_))
   exact W.ret ⟨_,(by simp only[rs,rf6,am,evOp,simprocAttr]<;>rfl),hnot X4 fun q=>by have:=hok.1 q.1; omega⟩
  have c4:decide (pa<0)=false:=decide_eq_false q4
  by_cases q5:pb<0
  ·have c5:decide (pb<0)=true:=decide_eq_true q5
   refine W.run (by simp only[am,evOp,simprocAttr,s0,c4,s1,c5]<;>rfl) ?_
   refine W.yes (by simp only[am,evOp,simprocAttr]) (W.seq (W.run (by simp only[am,evOp,simprocAttr]<;>rfl) ?_))
   exact W.ret ⟨_,(by simp only[rs,rf6,am,evOp,simprocAttr]<;>rfl),hnot X4 fun q=>by have:=hok.1 q.1; omega⟩
  have c5:decide (pb<0)=false:=decide_eq_false q5
  by_cases q6:n≤pa
  ·have c6:decide (n≤pa)=true:=decide_eq_true q6
   refine W.run (by simp only[am,evOp,simprocAttr,s0,c4,s1,c5,f2,rn4,c6]<;>rfl) ?_
   refine W.yes (by simp only[am,evOp,simprocAttr]) (W.seq (W.run (by simp only[am,evOp,simprocAttr]<;>rfl) ?_))
   exact W.ret ⟨_,(by simp only[rs,rf6,am,evOp,simprocAttr]<;>rfl),hnot X4 fun q=>by have:=hok.1 q.1; omega⟩
  have c6:decide (n≤pa)=false:=decide_eq_false q6
  by_cases q7:n≤pb
  ·have c7:decide (n≤pb)=true:=decide_eq_true q7
   refine W.run (by simp only[am,evOp,simprocAttr,s0,c4,s1,c5,f2,rn4,c6,c7]<;>rfl) ?_
   refine W.yes (by simp only[am,evOp,simprocAttr]) (W.seq (W.run (by simp only[am,evOp,simprocAttr]<;>rfl) ?_))
   exact W.ret ⟨_,(by simp only[rs,rf6,am,evOp,simprocAttr]<;>rfl),hnot X4 fun q=>by have:=hok.1 q.1; omega⟩
  have c7:decide (n≤pb)=false:=decide_eq_false q7
  by_cases q8:pa=pb
  ·have c8:decide (pa=pb)=true:=decide_eq_true q8
   refine W.run (by simp only[am,evOp,simprocAttr,s0,c4,s1,c5,f2,rn4,c6,c7,c8]<;>rfl) ?_
   refine W.yes (by simp only[am,evOp,simprocAttr]) (W.seq (W.run (by simp only[am,evOp,simprocAttr]<;>rfl) ?_))
   exact W.ret ⟨_,(by simp only[rs,rf6,am,evOp,simprocAttr]<;>rfl),hnot X4 fun q=>by have:=hok.1 q.1; omega⟩
  have c8:decide (pa=pb)=false:=decide_eq_false q8
  refine W.run (by simp only[am,evOp,simprocAttr,s0,c4,s1,c5,f2,rn4,c6,c7,c8]<;>rfl) ?_
  refine W.no (by simp only[am,evOp,simprocAttr]) (W.skip ?_)
  obtain⟨a',rfl⟩:=Int.eq_ofNat_of_zero_le (show 0≤pa by omega)
  obtain⟨b',rfl⟩:=Int.eq_ofNat_of_zero_le (show 0≤pb by omega)
  have htl:tlK E i=a':=htl
  have hhd:hdK E i=b':=hhd
  have w1:IntKind.i64.wrap (((k:Nat):Int)+1)=((k+1:Nat):Int):=wr64 (by omega) (by omega)
  have hl0:(l0 E (L.take k)).length=k:=by unfold l0 nL; rw[List.length_map,List.length_map,List.length_take]; omega
  have i4:IsSl h4 2 h1.next a (pC (l0 E (L.take k))):=j2.ext x4 (Nat.le_refl _)
  obtain⟨v',h5,t1,t2,t3,t4⟩:=i4.push (bytes:=16) [.int .i64 ((min a' b':Nat):Int),.int .i64 ((max a' b':Nat):Int)] (by omega) (by omega) rfl rfl (by rw[pC_len,hl0,Nat.mul_div_cancel _ (by omega)]; unfold tooMany; omega) (by rw[pC_len,hl0,Nat.mul_div_cancel _ (by omega)]; unfold tooMany; omega)
  refine W.run (by simp only[am,evOp,simprocAttr,f5,s0,s1,mn2,mx2,min_N,max_N,t1]<;>rfl) ?_
  refine⟨v',⟨fun j hj hjk=>?_,?_,X4.trans t3⟩,_,(by simp only[am,evOp,simprocAttr,f6,w1]<;>rfl),by simp only[hl,am,evOp,simprocAttr,f1,f2]⟩
  ·by_cases hjk':j=k
   ·subst hjk'
    rw[hz]
    exact⟨hok.2 (by omega),hnk⟩
   ·exact j1 j hj (by omega)
  ·rw[l0_succ hk hz,pC_app]
   have:pC [pr0 E i]=[.int .i64 ((min a' b':Nat):Int),.int .i64 ((max a' b':Nat):Int)]:=by
    unfold pC pr0
    rw[htl,hhd]
    rfl
   rw[this]
   exact t2
 rintro a ts h2 ⟨j1,j2,j3⟩ ⟨e1,e2,e5,e6,-⟩
 simp only at e1 e2 e5
 rw[List.take_length] at j2
 have hR:LayR n E L:=fun k hk=>j1 k hk hk
 have hb:=below_of hR.lay
 have h0:=ini_nc hR
 have hfp:∀ {k:Nat}{l:List (Nat×Nat)},finP (l0 E L) k=some l→Srt l∧Bel n.toNat l∧l.length≤L.length:=fun {k l} q=>by
  have q':=q
  rw[← ini_l0 (h:=hR.lay.nodup.1)] at q'
  obtain⟨_,_,q3,q4⟩:=finP_facts hb h0 q'
  refine⟨q3,q4,Nat.le_trans (finP_len q) ?_⟩
  unfold l0 nL
  rw[List.length_map,List.length_map]
  exact Nat.le_refl _
 have hlt:∀ k:Nat,decide (((k:Nat):Int)<n)=decide (k<n.toNat):=fun k=>by rw[decide_eq_decide]; omega
 refine W.seq (W.seq (W.run (by simp only[am,evOp,simprocAttr]<;>rfl) ?_))
 refine W.whl (α:=AV×List (Nat×Nat)) (N:=n.toNat) (fun k s=>[(2,.ptr h.next 0),(5,s.1),(9,.int .i64 (k:Nat))])
  (fun k s h'=>finP (l0 E L) k=some s.2∧IsSl h' 2 h1.next s.1 (pC s.2)∧Ext h1.next h1 h') (a,l0 E L) (by simp only[hl,am,evOp,simprocAttr,e2,e5,Int.natCast_zero]) ⟨rfl,j2,j3⟩ ?_ ?_ ?_
 ·rintro k ⟨a,l⟩ ts h3 hk ⟨_,_,x3⟩ ⟨e2,e5,e9,-⟩
  simp only at e2 e5 e9
  have rn3:rdCells h3 h.next 0 1=some [.int .i64 n]:=rd_at (mem x3).2.1 rfl
  exact⟨_,(by simp only[am,evOp,simprocAttr,e2,e9,rn3,hlt]<;>rfl),by simp only[am,evOp,simprocAttr],by simp only[hl,am,evOp,simprocAttr,e2,e5,e9]⟩
 ·rintro x ⟨a,l⟩ ts h3 hx ⟨k1,k2,k3⟩ ⟨e2,e5,e9,-⟩
  simp only at k1 k2 e2 e5 e9
  obtain⟨hS,hB,hlen⟩:=hfp k1
  have n3:=k3.nx
  have w1x:IntKind.i64.wrap (((x:Nat):Int)+1)=((x+1:Nat):Int):=wr64 (by omega) (by omega)
  have x4:Ext h3.next h3 (h3.new (.cells [] 1 false)):=Ext.new (Nat.le_refl _)
  have g4:(h3.new (.cells [] 1 false)).get h3.next=some (.cells [] 1 false):=by rw[AH.get_new,if_pos rfl]
  have n4:(h3.new (.cells [] 1 false)).next=h3.next+1:=rfl
  refine W.seq (W.run (by simp only[am,evOp,simprocAttr]<;>rfl) ?_)
  generalize h3.new (.cells [] 1 false)=h4 at *
  have lenA:lenLA a=some (.int .i64 (l.length:Nat)):=by
   have:=(pC_sl k2).len
   rw[List.length_map,List.length_map] at this
   exact this
  refine W.seq (W.seq (W.run (by simp only[am,evOp,simprocAttr]<;>rfl) ?_))
  refine W.whl (α:=AV) (N:=l.length) (fun m b=>[(2,.ptr h.next 0),(5,a),(9,.int .i64 (x:Nat)),(10,b),(11,.int .i64 (m:Nat))])
   (fun m b h'=>IsSl h' 1 h3.next b (nC (atI l x m))∧Ext h3.next h3 h') (.sl h3.next 0 0 0) (by simp only[hl,am,evOp,simprocAttr,e2,e5,e9,Int.natCast_zero]) ⟨.inr ⟨h3.next,0,Nat.le_refl _,rfl,g4,rfl⟩,x4⟩ ?_ ?_ ?_
  ·rintro m b ts h5 hm _ ⟨f2,f5,f9,f10,f11,-⟩
   simp only at f2 f5 f9 f10 f11
   exact⟨_,(by simp only[am,evOp,simprocAttr,f11,f5,lenA,Int.ofNat_lt]<;>rfl),by simp only[am,evOp,simprocAttr],by simp only[hl,am,evOp,simprocAttr,f2,f5,f9,f10,f11]⟩
  ·rintro m b ts h5 hm ⟨i5,x5⟩ ⟨f2,f5,f9,f10,f11,-⟩
   simp only at f2 f5 f9 f10 f11
   have n5:=x5.nx
   have sl5:SlE h5 a (l.map pE):=pC_sl (k2.ext x5 (Nat.le_refl _))
   obtain⟨b5,p5,a5,_,rr,_⟩:=sl5.at (i:=m) (x:=eE (pE l[m])) (by rw[List.getElem?_map,List.getElem?_map,List.getElem?_eq_getElem hm]; rfl)
   have ra:rdCells h5 b5 p5 1=some [.int .i64 ((l[m].1:Nat):Int)]:=rr 0 _ rfl
   have rb:rdCells h5 b5 (p5+1) 1=some [.int .i64 ((l[m].2:Nat):Int)]:=rr 1 _ rfl
   have w1:IntKind.i64.wrap (((m:Nat):Int)+1)=((m+1:Nat):Int):=wr64 (by omega) (by omega)
   have hst:=atI_succ l x hm
   have hal:(atI l x m).length≤m:=by
    unfold atI
    refine Nat.le_trans (List.length_filter_le _ _) ?_
    rw[List.length_range]
    exact Nat.le_refl _
   obtain⟨b',h6,t1,t2,t3,t4⟩:=i5.push (bytes:=8) [.int .i64 ((m:Nat):Int)] (by omega) (by omega) rfl rfl (by rw[nC_len]; unfold tooMany; omega) (by rw[nC_len]; unfold tooMany; omega)
   refine W.seq ?_
   by_cases c1:l[m].1=x
   ·have d1:decide (((l[m].1:Nat):Int)=((x:Nat):Int))=true:=decide_eq_true (by omega)
    have hp:atP x l[m]=true:=decide_eq_true (.inl c1)
    refine W.run (by simp only[am,evOp,simprocAttr,f5,f11,f9,a5,ra,d1]<;>rfl) ?_
    refine W.yes (by simp only[am,evOp,simprocAttr]) (W.run (by simp only[am,evOp,simprocAttr,f10,f11,t1]<;>rfl) ?_)
    refine⟨b',⟨?_,x5.trans t3⟩,_,(by simp only[am,evOp,simprocAttr,f11,w1]<;>rfl),by simp only[hl,am,evOp,simprocAttr,f2,f5,f9]⟩
    rw[hst,if_pos hp,nC_app]
    exact t2
   ·have d1:decide (((l[m].1:Nat):Int)=((x:Nat):Int))=false:=decide_eq_false (by omega)
    by_cases c2:l[m].2=x
    ·have d2:decide (((l[m].2:Nat):Int)=((x:Nat):Int))=true:=decide_eq_true (by omega)
     have hp:atP x l[m]=true:=decide_eq_true (.inr c2)
     refine W.run (by simp only[am,evOp,simprocAttr,f5,f11,f9,a5,ra,d1,rb,d2]<;>rfl) ?_
     refine W.yes (by simp only[am,evOp,simprocAttr]) (W.run (by simp only[am,evOp,simprocAttr,f10,f11,t1]<;>rfl) ?_)
     refine⟨b',⟨?_,x5.trans t3⟩,_,(by simp only[am,evOp,simprocAttr,f11,w1]<;>rfl),by simp only[hl,am,evOp,simprocAttr,f2,f5,f9]⟩
     rw[hst,if_pos hp,nC_app]
     exact t2
    ·have d2:decide (((l[m].2:Nat):Int)=((x:Nat):Int))=false:=decide_eq_false (by omega)
     have hp:atP x l[m]=false:=decide_eq_false (by omega)
     refine W.run (by simp only[am,evOp,simprocAttr,f5,f11,f9,a5,ra,d1,rb,d2]<;>rfl) ?_
     refine W.no (by simp only[am,evOp,simprocAttr]) (W.skip ⟨b,⟨?_,x5⟩,_,(by simp only[am,evOp,simprocAttr,f11,w1]<;>rfl),by simp only[hl,am,evOp,simprocAttr,f2,f5,f9,f10]⟩)
     rw[hst,if_neg (by simp [hp])]
     exact i5
  rintro b ts h5 ⟨i5,x5⟩ ⟨f2,f5,f9,f10,f11,-⟩
  simp only at f2 f5 f9 f10
  have n5:=x5.nx
  have hflt:=atI_flt l x
  have lenB:lenLA b=some (.int .i64 ((atI l x l.length).length:Nat)):=by
   have:=(nC_sl i5).len
   rw[List.length_map,List.length_map] at this
   exact this
  have X5:Ext h1.next h1 h5:=k3.trans (x5.mono (by omega))
  have i2:IsSl h5 2 h1.next a (pC l):=k2.ext x5 (Nat.le_refl _)
  refine W.seq (W.seq ?_)
  by_cases c2:(atI l x l.length).length=2
  case neg =>
   have d2:decide ((((atI l x l.length).length:Nat):Int)=2)=false:=decide_eq_false (by omega)
   refine W.run (by simp only[am,evOp,simprocAttr,f10,lenB,d2]<;>rfl) ?_
   refine W.yes (by simp only[am,evOp,simprocAttr]) (W.exit ⟨fun _=>⟨(a,l),⟨?_,i2,X5⟩,_,(by simp only[am,evOp,simprocAttr,f9,w1x]<;>rfl),by simp only[hl,am,evOp,simprocAttr,f2,f5]⟩,fun e=>absurd rfl e⟩)
   rw[finP_succ,k1]
   show smP x l=some l
   unfold smP
   rw[hflt]
   match hq:atI l x l.length,c2 with
   | [],_=>rfl
   | [_],_=>rfl
   | [_,_],c=>exact absurd rfl c
   | _::_::_::_,_=>rfl
  have d2:decide ((((atI l x l.length).length:Nat):Int)=2)=true:=decide_eq_true (by omega)
  refine W.run (by simp only[am,evOp,simprocAttr,f10,lenB,d2]<;>rfl) ?_
  refine W.no (by simp only[am,evOp,simprocAttr]) (W.skip ?_)
  obtain⟨i,j,hij⟩:∃ i j,atI l x l.length=[i,j]:=by
   match hq:atI l x l.length,c2 with
   | [i,j],_=>exact⟨i,j,rfl⟩
  obtain⟨hi,hpi⟩:=atI_lt (l:=l) (x:=x) (k:=l.length) (i:=i) (by rw[hij]; simp)
  obtain⟨hj,hpj⟩:=atI_lt (l:=l) (x:=x) (k:=l.length) (i:=j) (by rw[hij]; simp)
  have gi:l.getD i (0,0)=l[i]:=by rw[List.getD_eq_getElem?_getD,List.getElem?_eq_getElem hi]; rfl
  have gj:l.getD j (0,0)=l[j]:=by rw[List.getD_eq_getElem?_getD,List.getElem?_eq_getElem hj]; rfl
  rw[gi] at hpi
  rw[gj] at hpj
  have hpi:l[i].1=x∨l[i].2=x:=of_decide_eq_true hpi
  have hpj:l[j].1=x∨l[j].2=x:=of_decide_eq_true hpj
  obtain⟨bi1,bi2⟩:=hB l[i] (List.getElem_mem hi)
  obtain⟨bj1,bj2⟩:=hB l[j] (List.getElem_mem hj)
  have hsm:smP x l=if l[i].1+l[i].2-x=l[j].1+l[j].2-x then none else some (restI l i j l.length++[(min (l[i].1+l[i].2-x) (l[j].1+l[j].2-x),max (l[i].1+l[i].2-x) (l[j].1+l[j].2-x))]):=by
   unfold smP
   rw[hflt,hij,← restI_flt hij]
   simp only[List.map_cons,List.map_nil,gi,gj]
  have sb:=nC_sl i5
  rw[hij] at sb
  have sl5:SlE h5 a (l.map pE):=pC_sl i2
  obtain⟨q1,q2,q3,q4,_⟩:=sb.at1 (i:=0) (y:=.int .i64 ((i:Nat):Int)) rfl
  obtain⟨r1,r2,r3,r4,_⟩:=sb.at1 (i:=1) (y:=.int .i64 ((j:Nat):Int)) rfl
  have q3:iadrL 1 b (.int .i64 0)=some (.ptr q1 q2):=q3
  have r3:iadrL 1 b (.int .i64 1)=some (.ptr r1 r2):=r3
  obtain⟨u1,u2,u3,_,ur,_⟩:=sl5.at (i:=i) (x:=eE (pE l[i])) (by rw[List.getElem?_map,List.getElem?_map,List.getElem?_eq_getElem hi]; rfl)
  obtain⟨v1,v2,v3,_,vr,_⟩:=sl5.at (i:=j) (x:=eE (pE l[j])) (by rw[List.getElem?_map,List.getElem?_map,List.getElem?_eq_getElem hj]; rfl)
  have ua:rdCells h5 u1 u2 1=some [.int .i64 ((l[i].1:Nat):Int)]:=ur 0 _ rfl
  have ub:rdCells h5 u1 (u2+1) 1=some [.int .i64 ((l[i].2:Nat):Int)]:=ur 1 _ rfl
  have va:rdCells h5 v1 v2 1=some [.int .i64 ((l[j].1:Nat):Int)]:=vr 0 _ rfl
  have vb:rdCells h5 v1 (v2+1) 1=some [.int .i64 ((l[j].2:Nat):Int)]:=vr 1 _ rfl
  have wi1:IntKind.i64.wrap (((l[i].1:Nat):Int)+((l[i].2:Nat):Int))=((l[i].1+l[i].2:Nat):Int):=by rw[wr64 (by omega) (by omega)]; omega
  have wi2:IntKind.i64.wrap (((l[i].1+l[i].2:Nat):Int)-((x:Nat):Int))=((l[i].1+l[i].2-x:Nat):Int):=by rw[wr64 (by omega) (by omega)]; omega
  have wj1:IntKind.i64.wrap (((l[j].1:Nat):Int)+((l[j].2:Nat):Int))=((l[j].1+l[j].2:Nat):Int):=by rw[wr64 (by omega) (by omega)]; omega
  have wj2:IntKind.i64.wrap (((l[j].1+l[j].2:Nat):Int)-((x:Nat):Int))=((l[j].1+l[j].2-x:Nat):Int):=by rw[wr64 (by omega) (by omega)]; omega
  refine W.seq (W.run (by simp only[am,evOp,simprocAttr,f5,f9,f10,q3,q4,u3,ua,ub,wi1,wi2]<;>rfl) ?_)
  refine W.seq (W.run (by simp only[am,evOp,simprocAttr,f5,f9,f10,r3,r4,v3,va,vb,wj1,wj2]<;>rfl) ?_)
  generalize l[i].1+l[i].2-x=A at *
  generalize l[j].1+l[j].2-x=B at *
  refine W.seq (W.seq ?_)
  by_cases cab:A=B
  ·have d3:decide (((A:Nat):Int)=((B:Nat):Int))=true:=decide_eq_true (by omega)
   refine W.run (by simp only[am,evOp,simprocAttr,d3]<;>rfl) ?_
   refine W.yes (by simp only[am,evOp,simprocAttr]) (W.seq (W.run (by simp only[am,evOp,simprocAttr]<;>rfl) ?_))
   refine W.ret ⟨_,(by simp only[rs,rf6,am,evOp,simprocAttr]<;>rfl),(mem X5).1,.inr ⟨hR,.inl ⟨finP_none (k:=x+1) ?_ hx,rfl⟩⟩⟩
   rw[finP_succ,k1]
   show smP x l=none
   rw[hsm,if_pos cab]
  have d3:decide (((A:Nat):Int)=((B:Nat):Int))=false:=decide_eq_false (by omega)
  refine W.run (by simp only[am,evOp,simprocAttr,d3]<;>rfl) ?_
  refine W.no (by simp only[am,evOp,simprocAttr]) (W.skip ?_)
  have x6:Ext h5.next h5 (h5.new (.cells [] 2 false)):=Ext.new (Nat.le_refl _)
  have g6:(h5.new (.cells [] 2 false)).get h5.next=some (.cells [] 2 false):=by rw[AH.get_new,if_pos rfl]
  have n6:(h5.new (.cells [] 2 false)).next=h5.next+1:=rfl
  refine W.seq (W.run (by simp only[am,evOp,simprocAttr]<;>rfl) ?_)
  generalize h5.new (.cells [] 2 false)=h6 at *
  refine W.seq (W.seq (W.run (by simp only[am,evOp,simprocAttr]<;>rfl) ?_))
  refine W.whl (α:=AV) (N:=l.length) (fun m c=>[(2,.ptr h.next 0),(5,a),(9,.int .i64 (x:Nat)),(10,b),(12,.int .i64 (A:Nat)),(13,.int .i64 (B:Nat)),(14,c),(15,.int .i64 (m:Nat))])
   (fun m c h'=>IsSl h' 2 h5.next c (pC (restI l i j m))∧Ext h5.next h5 h') (.sl h5.next 0 0 0) (by simp only[hl,am,evOp,simprocAttr,f2,f5,f9,f10,Int.natCast_zero]) ⟨.inr ⟨h5.next,0,Nat.le_refl _,rfl,g6,rfl⟩,x6⟩ ?_ ?_ ?_
  ·rintro m c ts h7 hm _ ⟨t2,t5,t9,t10,t12,t13,t14,t15,-⟩
   simp only at t2 t5 t9 t10 t12 t13 t14 t15
   exact⟨_,(by simp only[am,evOp,simprocAttr,t15,t5,lenA,Int.ofNat_lt]<;>rfl),by simp only[am,evOp,simprocAttr],by simp only[hl,am,evOp,simprocAttr,t2,t5,t9,t10,t12,t13,t14,t15]⟩
  ·rintro m c ts h7 hm ⟨i7,x7⟩ ⟨t2,t5,t9,t10,t12,t13,t14,t15,-⟩
   simp only at t2 t5 t9 t10 t12 t13 t14 t15
   have n7:=x7.nx
   have sl7:SlE h7 a (l.map pE):=pC_sl (i2.ext x7 (Nat.le_refl _))
   have sb7:SlN h7 b [i,j]:=Sl.ext sb x7 (Nat.le_refl _)
   obtain⟨q1,q2,q3,q4,_⟩:=sb7.at1 (i:=0) (y:=.int .i64 ((i:Nat):Int)) rfl
   obtain⟨r1,r2,r3,r4,_⟩:=sb7.at1 (i:=1) (y:=.int .i64 ((j:Nat):Int)) rfl
   have q3:iadrL 1 b (.int .i64 0)=some (.ptr q1 q2):=q3
   have r3:iadrL 1 b (.int .i64 1)=some (.ptr r1 r2):=r3
   obtain⟨u1,u2,u3,u4,_,_⟩:=sl7.at (i:=m) (x:=eE (pE l[m])) (by rw[List.getElem?_map,List.getElem?_map,List.getElem?_eq_getElem hm]; rfl)
   have w1:IntKind.i64.wrap (((m:Nat):Int)+1)=((m+1:Nat):Int):=wr64 (by omega) (by omega)
   have hst:=restI_succ l i j hm
   have hrl:(restI l i j m).length≤m:=by
    unfold restI
    rw[List.length_map]
    refine Nat.le_trans (List.length_filter_le _ _) ?_
    rw[List.length_range]
    exact Nat.le_refl _
   obtain⟨c',h8,y1,y2,y3,y4⟩:=i7.push (bytes:=16) [.int .i64 ((l[m].1:Nat):Int),.int .i64 ((l[m].2:Nat):Int)] (by omega) (by omega) rfl rfl (by rw[pC_len,Nat.mul_div_cancel _ (by omega)]; unfold tooMany; omega) (by rw[pC_len,Nat.mul_div_cancel _ (by omega)]; unfold tooMany; omega)
   refine W.seq ?_
   by_cases c1:m=i
   ·have d4:decide (((m:Nat):Int)=((i:Nat):Int))=true:=decide_eq_true (by omega)
    refine W.run (by simp only[am,evOp,simprocAttr,t15,t10,q3,q4,d4]<;>rfl) ?_
    refine W.no (by simp only[am,evOp,simprocAttr]) (W.skip ⟨c,⟨?_,x7⟩,_,(by simp only[am,evOp,simprocAttr,t15,w1]<;>rfl),by simp only[hl,am,evOp,simprocAttr,t2,t5,t9,t10,t12,t13,t14]⟩)
    rw[hst,if_neg (by omega)]
    exact i7
   ·have d4:decide (((m:Nat):Int)=((i:Nat):Int))=false:=decide_eq_false (by omega)
    by_cases c2:m=j
    ·have d5:decide (((m:Nat):Int)=((j:Nat):Int))=true:=decide_eq_true (by omega)
     refine W.run (by simp only[am,evOp,simprocAttr,t15,t10,q3,q4,d4,r3,r4,d5]<;>rfl) ?_
     refine W.no (by simp only[am,evOp,simprocAttr]) (W.skip ⟨c,⟨?_,x7⟩,_,(by simp only[am,evOp,simprocAttr,t15,w1]<;>rfl),by simp only[hl,am,evOp,simprocAttr,t2,t5,t9,t10,t12,t13,t14]⟩)
     rw[hst,if_neg (by omega)]
     exact i7
    ·have d5:decide (((m:Nat):Int)=((j:Nat):Int))=false:=decide_eq_false (by omega)
     refine W.run (by simp only[am,evOp,simprocAttr,t15,t10,q3,q4,d4,r3,r4,d5]<;>rfl) ?_
     refine W.yes (by simp only[am,evOp,simprocAttr]) (W.run (by simp only[am,evOp,simprocAttr,t14,t5,t15,u3,u4,pE,eE,y1]<;>rfl) ?_)
     refine⟨c',⟨?_,x7.trans y3⟩,_,(by simp only[am,evOp,simprocAttr,t15,w1]<;>rfl),by simp only[hl,am,evOp,simprocAttr,t2,t5,t9,t10,t12,t13]⟩
     rw[hst,if_pos ⟨c1,c2⟩,pC_app]
     exact y2
  rintro c ts h7 ⟨i7,x7⟩ ⟨t2,t5,t9,t10,t12,t13,t14,t15,-⟩
  simp only at t2 t9 t12 t13 t14
  have n7:=x7.nx
  have hrl:(restI l i j l.length).length≤l.length:=by
   unfold restI
   rw[List.length_map]
   refine Nat.le_trans (List.length_filter_le _ _) ?_
   rw[List.length_range]
   exact Nat.le_refl _
  obtain⟨c',h8,y1,y2,y3,y4⟩:=i7.push (bytes:=16) [.int .i64 ((min A B:Nat):Int),.int .i64 ((max A B:Nat):Int)] (by omega) (by omega) rfl rfl (by rw[pC_len,Nat.mul_div_cancel _ (by omega)]; unfold tooMany; omega) (by rw[pC_len,Nat.mul_div_cancel _ (by omega)]; unfold tooMany; omega)
  refine W.run (by simp only[am,evOp,simprocAttr,t12,t13,t14,mn2,mx2,min_N,max_N,y1]<;>rfl) ?_
  refine⟨(c',restI l i j l.length++[(min A B,max A B)]),⟨?_,?_,X5.trans ((x7.trans y3).mono (by omega))⟩,_,(by simp only[am,evOp,simprocAttr,t9,w1x]<;>rfl),by simp only[hl,am,evOp,simprocAttr,t2]⟩
  ·rw[finP_succ,k1]
   show smP x l=_
   rw[hsm,if_neg cab]
  ·rw[pC_app]
   exact y2.mono (by omega)
 rintro⟨a,l⟩ ts h3 ⟨k1,k2,k3⟩ ⟨e2,e5,e9,-⟩
 simp only at k1 k2 e2 e5
 obtain⟨hS,hB,hlen⟩:=hfp k1
 generalize hNd:n.toNat=N at *
 have ans:∀ {h':AH}{r:AV},Ext h1.next h1 h'→ToldR N l r→Ext h.next h h'∧AnsR n E L r:=fun {h' r} x t=>⟨(mem x).1,.inr ⟨hR,.inr ⟨l,by rw[hNd]; exact k1,by rw[hNd]; exact t⟩⟩⟩
 have lenA:lenLA a=some (.int .i64 (l.length:Nat)):=by
  have:=(pC_sl k2).len
  rw[List.length_map,List.length_map] at this
  exact this
 have n3:=k3.nx
 have x4:Ext h3.next h3 (h3.new (.cells [] 1 false)):=Ext.new (Nat.le_refl _)
 have g4:(h3.new (.cells [] 1 false)).get h3.next=some (.cells [] 1 false):=by rw[AH.get_new,if_pos rfl]
 have n4:(h3.new (.cells [] 1 false)).next=h3.next+1:=rfl
 refine W.seq (W.run (by simp only[am,evOp,simprocAttr]<;>rfl) ?_)
 generalize h3.new (.cells [] 1 false)=h4 at *
 have X4:Ext h1.next h1 h4:=k3.trans (x4.mono (by omega))
 have rn4:rdCells h4 h.next 0 1=some [.int .i64 n]:=rd_at (mem X4).2.1 rfl
 have hmx:(if n<0 then (0:Int) else n)=((N:Nat):Int):=by split<;>omega
 have hmk:=mksA_nat (h:=h4) (z:=[.int .i64 0]) (e:=1) (bytes:=8) (n:=N) (by unfold tooMany; omega) (by unfold tooMany; omega)
 rw[repl_rep,cntC_zero] at hmk
 have x5:Ext h4.next h4 (h4.new (.cells (cntC N []) 1 false)):=Ext.new (Nat.le_refl _)
 have g5:(h4.new (.cells (cntC N []) 1 false)).get h4.next=some (.cells (cntC N []) 1 false):=by rw[AH.get_new,if_pos rfl]
 have n5:(h4.new (.cells (cntC N []) 1 false)).next=h4.next+1:=rfl
 refine W.seq (W.run (by simp only[am,evOp,simprocAttr,e2,rn4,mx2,hmx,hmk]<;>rfl) ?_)
 generalize h4.new (.cells (cntC N []) 1 false)=h5 at *
 have X5:Ext h1.next h1 h5:=X4.trans (x5.mono (by omega))
 have i5:IsSl h5 2 h1.next a (pC l):=(k2.ext x4 (Nat.le_refl _)).ext x5 (Nat.le_refl _)
 have al5:∀ b o m c,a=.sl b o m c→b<h3.next:=fun b o m c e=>k2.lt e
 have slA:∀ {h':AH},(∀ c,c<h3.next→h'.get c=h5.get c)→SlE h' a (l.map pE):=fun {h'} q=>pC_sl (i5.cong fun b m e _=>q b (al5 b 0 m m e))
 refine W.seq (W.seq (W.run (by simp only[am,evOp,simprocAttr]<;>rfl) ?_))
 refine W.whl (α:=Unit) (N:=l.length) (fun k _=>[(2,.ptr h.next 0),(5,a),(16,.sl h3.next 0 0 0),(17,.sl h4.next 0 N N),(18,.int .i64 (k:Nat))])
  (fun k _ h'=>Mod h5.next h5 h' h4.next (.cells (cntC N (l.take k)) 1 false)∧(l.take k).Nodup) () (by simp only[hl,am,evOp,simprocAttr,e2,e5,Int.natCast_zero]) ⟨by rw[List.take_zero]; exact Mod.refl g5,by rw[List.take_zero]; exact List.nodup_nil⟩ ?_ ?_ ?_
 ·rintro k _ ts h6 hk _ ⟨e2,e5,e16,e17,e18,-⟩
  simp only at e2 e5 e16 e17 e18
  exact⟨_,(by simp only[am,evOp,simprocAttr,e18,e5,lenA,Int.ofNat_lt]<;>rfl),by simp only[am,evOp,simprocAttr],by simp only[hl,am,evOp,simprocAttr,e2,e5,e16,e17,e18]⟩
 ·rintro k _ ts h6 hk ⟨m6,nd6⟩ ⟨e2,e5,e16,e17,e18,-⟩
  simp only at e2 e5 e16 e17 e18
  have w1k:IntKind.i64.wrap (((k:Nat):Int)+1)=((k+1:Nat):Int):=wr64 (by omega) (by omega)
  have s6:=slA (h':=h6) fun c hc=>m6.gt c (by omega) (by omega)
  have atE:∀ {h':AH},SlE h' a (l.map pE)→∀ (m:Nat) (hm:m<l.length),∃ b q,iadrL 2 a (.int .i64 (m:Nat))=some (.ptr b q)∧rdCells h' b q 1=some [.int .i64 ((l[m].1:Nat):Int)]∧rdCells h' b (q+1) 1=some [.int .i64 ((l[m].2:Nat):Int)]∧rdCells h' b q 2=some (eE (pE l[m])):=fun {h'} s m hm=>by
   obtain⟨b,q,a1,a2,rr,_⟩:=s.at (i:=m) (x:=eE (pE l[m])) (by rw[List.getElem?_map,List.getElem?_map,List.getElem?_eq_getElem hm]; rfl)
   exact⟨b,q,a1,rr 0 _ rfl,rr 1 _ rfl,a2⟩
  obtain⟨b6,q6,a6,ra6,rb6,_⟩:=atE s6 k hk
  have hS':=hS l[k] (List.getElem_mem hk)
  obtain⟨hB1,hB2⟩:=hB l[k] (List.getElem_mem hk)
  have hnl:∀ v,(nb (l.take k) v).length≤2*k:=fun v=>by
   rw[nb_len]
   refine Nat.le_trans List.count_le_length ?_
   have:∀ (m:List (Nat×Nat)),(m.flatMap fun p=>[p.1,p.2]).length=2*m.length:=fun m=>by
    induction m with
    | nil=>rfl
    | cons p r ih=>rw[List.flatMap_cons,List.length_append,ih]; simp only[List.length_cons,List.length_nil]; omega
   rw[this,List.length_take]
   omega
  have c1:rdCells h6 h4.next l[k].1 1=some [.int .i64 (((nb (l.take k) l[k].1).length:Nat):Int)]:=rd_at m6.get (cntC_at hB1)
  have i1:idx? ((l[k].1:Nat):Int) N=some l[k].1:=idx_nat hB1
  have i2:idx? ((l[k].2:Nat):Int) N=some l[k].2:=idx_nat hB2
  have wA:IntKind.i64.wrap ((((nb (l.take k) l[k].1).length:Nat):Int)+1)=(((nb (l.take k) l[k].1).length+1:Nat):Int):=by have:=hnl l[k].1; rw[wr64 (by omega) (by omega)]; omega
  have wB:IntKind.i64.wrap ((((nb (l.take k) l[k].2).length:Nat):Int)+1)=(((nb (l.take k) l[k].2).length+1:Nat):Int):=by have:=hnl l[k].2; rw[wr64 (by omega) (by omega)]; omega
  have w7:=wr_at (v:=.int .i64 (((nb (l.take k) l[k].1).length+1:Nat):Int)) m6.get (show l[k].1<(cntC N (l.take k)).length by rw[cntC_len]; exact hB1)
  have u7:=Upd.put (o:=.cells ((cntC N (l.take k)).set l[k].1 (.int .i64 (((nb (l.take k) l[k].1).length+1:Nat):Int))) 1 false) m6.get
  refine W.seq (W.run (by simp only[am,evOp,simprocAttr,e5,e17,e18,a6,ra6,i1,Nat.mul_one,c1,wA,w7]<;>rfl) ?_)
  generalize h6.put h4.next (.cells ((cntC N (l.take k)).set l[k].1 (.int .i64 (((nb (l.take k) l[k].1).length+1:Nat):Int))) 1 false)=h7 at *
  have s7:=slA (h':=h7) fun c hc=>by rw[u7.ne (by omega)]; exact m6.gt c (by omega) (by omega)
  obtain⟨b7,q7,a7,ra7,rb7,_⟩:=atE s7 k hk
  have c2:rdCells h7 h4.next l[k].2 1=some [.int .i64 (((nb (l.take k) l[k].2).length:Nat):Int)]:=rd_at u7.get (by rw[List.getElem?_set_ne (by omega)]; exact cntC_at hB2)
  have w8:=wr_at (v:=.int .i64 (((nb (l.take k) l[k].2).length+1:Nat):Int)) u7.get (show l[k].2<((cntC N (l.take k)).set l[k].1 (.int .i64 (((nb (l.take k) l[k].1).length+1:Nat):Int))).length by rw[List.length_set,cntC_len]; exact hB2)
  rw[cntC_step hS' hB2,← List.take_succ_eq_append_getElem hk] at w8
  have u8:=Upd.put (o:=.cells (cntC N (l.take (k+1))) 1 false) u7.get
  refine W.seq (W.run (by simp only[am,evOp,simprocAttr,e5,e17,e18,a7,rb7,i2,Nat.mul_one,c2,wB,w8]<;>rfl) ?_)
  generalize h7.put h4.next (.cells (cntC N (l.take (k+1))) 1 false)=h8 at *
  have m8:Mod h5.next h5 h8 h4.next (.cells (cntC N (l.take (k+1))) 1 false):=(m6.upd u7).upd u8
  have X8:Ext h1.next h1 h8:=X5.trans ((m8.mono (m:=h1.next) (by omega)).toExt (by omega))
  have s8:=slA (h':=h8) fun c hc=>m8.gt c (by omega) (by omega)
  refine W.seq (W.run (by simp only[am,evOp,simprocAttr]<;>rfl) ?_)
  refine W.whl (α:=Unit) (N:=k) (fun m _=>[(2,.ptr h.next 0),(5,a),(16,.sl h3.next 0 0 0),(17,.sl h4.next 0 N N),(18,.int .i64 (k:Nat)),(19,.int .i64 (m:Nat))])
   (fun m _ h'=>h'=h8∧∀ (j:Nat) (hj:j<l.length),j<m→l[j]≠l[k]) () (by simp only[hl,am,evOp,simprocAttr,e2,e5,e16,e17,e18,Int.natCast_zero]) ⟨rfl,fun j hj hm=>absurd hm (Nat.not_lt_zero _)⟩ ?_ ?_ ?_
  ·rintro m _ ts h9 hm ⟨rfl,_⟩ ⟨f2,f5,f16,f17,f18,f19,-⟩
   simp only at f2 f5 f16 f17 f18 f19
   exact⟨_,(by simp only[am,evOp,simprocAttr,f19,f18,Int.ofNat_lt]<;>rfl),by simp only[am,evOp,simprocAttr],by simp only[hl,am,evOp,simprocAttr,f2,f5,f16,f17,f18,f19]⟩
  ·rintro m _ ts h9 hm ⟨rfl,jm⟩ ⟨f2,f5,f16,f17,f18,f19,-⟩
   simp only at f2 f5 f16 f17 f18 f19
   have w1:IntKind.i64.wrap (((m:Nat):Int)+1)=((m+1:Nat):Int):=wr64 (by omega) (by omega)
   have hml:m<l.length:=by omega
   obtain⟨b9,q9,a9,_,_,r9⟩:=atE s8 m hml
   obtain⟨bk,qk,ak,_,_,rk⟩:=atE s8 k hk
   by_cases q:l[m]=l[k]
   ·have c3:(pE l[m]==pE l[k])=true:=by rw[pE_beq]; exact decide_eq_true q
    refine W.seq (W.run (by simp only[am,evOp,simprocAttr,f5,f18,f19,a9,r9,ak,rk,eq_flat2,c3]<;>rfl) ?_)
    refine W.yes (by simp only[am,evOp,simprocAttr]) (W.seq (W.run (by simp only[am,evOp,simprocAttr]<;>rfl) ?_))
    have hnn:¬ l.Nodup:=fun hn=>by
     exact List.pairwise_iff_getElem.1 hn m k hml hk hm q
    exact W.ret ⟨_,(by simp only[rs,rf6,am,evOp,simprocAttr]<;>rfl),ans X8 (.inr (.inr ⟨fun d=>hnn d.1,fun d=>hnn d.1,rfl⟩))⟩
   ·have c3:(pE l[m]==pE l[k])=false:=by rw[pE_beq]; exact decide_eq_false q
    refine W.seq (W.run (by simp only[am,evOp,simprocAttr,f5,f18,f19,a9,r9,ak,rk,eq_flat2,c3]<;>rfl) ?_)
    refine W.no (by simp only[am,evOp,simprocAttr]) (W.skip ⟨(),⟨rfl,fun j hj hjm=>?_⟩,_,(by simp only[am,evOp,simprocAttr,f19,w1]<;>rfl),by simp only[hl,am,evOp,simprocAttr,f2,f5,f16,f17,f18]⟩)
    by_cases hjm':j=m
    ·subst hjm'; exact q
    ·exact jm j hj (by omega)
  rintro _ ts h9 ⟨rfl,jm⟩ ⟨f2,f5,f16,f17,f18,f19,-⟩
  simp only at f2 f5 f16 f17 f18
  refine⟨(),⟨m8,?_⟩,_,(by simp only[am,evOp,simprocAttr,f18,w1k]<;>rfl),by simp only[hl,am,evOp,simprocAttr,f2,f5,f16,f17]⟩
  rw[List.take_succ_eq_append_getElem hk,List.nodup_append]
  refine⟨nd6,by simp,fun x hx y hy=>?_⟩
  rw[List.mem_singleton] at hy
  subst hy
  obtain⟨j,hj,rfl⟩:=List.mem_take_iff_getElem.1 hx
  exact jm j (by omega) (by omega)
 rintro _ ts h6 ⟨m6,nd6⟩ ⟨e2,e5,e16,e17,e18,-⟩
 simp only at e2 e5 e16 e17
 rw[List.take_length] at m6 nd6
 have n6:=m6.nx
 have X6:Ext h1.next h1 h6:=X5.trans ((m6.mono (m:=h1.next) (by omega)).toExt (by omega))
 have g6:h6.get h3.next=some (.cells [] 1 false):=by rw[m6.gt _ (by omega) (by omega),x5.gt _ (by omega)]; exact g4
 refine W.seq (W.seq (W.run (by simp only[am,evOp,simprocAttr]<;>rfl) ?_))
 let hdK:Nat→List Nat:=fun k=>(List.range k).filter fun v=>decide (0<(nb l v).length)
 refine W.whl (α:=AV) (N:=N) (fun k b=>[(2,.ptr h.next 0),(5,a),(16,b),(17,.sl h4.next 0 N N),(20,.int .i64 (k:Nat))])
  (fun k b h'=>IsSl h' 1 h3.next b (nC (hdK k))∧(∀ m,b≠.sl h4.next 0 m m)∧Ext h3.next h6 h'∧h'.get h4.next=some (.cells (cntC N l) 1 false)) (.sl h3.next 0 0 0) (by simp only[hl,am,evOp,simprocAttr,e2,e5,e16,e17,Int.natCast_zero])
  ⟨.inr ⟨h3.next,0,Nat.le_refl _,rfl,g6,rfl⟩,(fun m e=>by simp only[AV.sl.injEq] at e; omega),Ext.refl,m6.get⟩ ?_ ?_ ?_
 ·rintro k b ts h7 hk _ ⟨e2,e5,e16,e17,e20,-⟩
  simp only at e2 e5 e16 e17 e20
  exact⟨_,(by simp only[am,evOp,simprocAttr,e20,e17,Int.ofNat_lt]<;>rfl),by simp only[am,evOp,simprocAttr],by simp only[hl,am,evOp,simprocAttr,e2,e5,e16,e17,e20]⟩
 ·rintro k b ts h7 hk ⟨j1,j2,j3,j4⟩ ⟨e2,e5,e16,e17,e20,-⟩
  simp only at e2 e5 e16 e17 e20
  have n7:=j3.nx
  have w1:IntKind.i64.wrap (((k:Nat):Int)+1)=((k+1:Nat):Int):=wr64 (by omega) (by omega)
  have ik:idx? ((k:Nat):Int) N=some k:=idx_nat hk
  have ck:rdCells h7 h4.next k 1=some [.int .i64 (((nb l k).length:Nat):Int)]:=rd_at j4 (cntC_at hk)
  have hst:hdK (k+1)=if 0<(nb l k).length then hdK k++[k] else hdK k:=by
   show (List.range (k+1)).filter _=_
   rw[List.range_succ,List.filter_append,List.filter_cons]
   by_cases q:0<(nb l k).length
   ·rw[if_pos q,if_pos (decide_eq_true q)]; rfl
   ·rw[if_neg q,if_neg (by simpa using q),List.filter_nil,List.append_nil]
  have hkl:(hdK k).length≤k:=by
   show ((List.range k).filter _).length≤k
   refine Nat.le_trans (List.length_filter_le _ _) ?_
   rw[List.length_range]
   exact Nat.le_refl _
  by_cases q:0<(nb l k).length
  ·have c1:decide ((0:Int)<(((nb l k).length:Nat):Int))=true:=decide_eq_true (by omega)
   refine W.seq (W.run (by simp only[am,evOp,simprocAttr,e17,e20,ik,Nat.mul_one,ck,c1]<;>rfl) ?_)
   obtain⟨b',h8,t1,t2,t3,t4,t5,t6⟩:=push2 (bytes:=8) [.int .i64 ((k:Nat):Int)] j1 (by omega) (by omega) rfl rfl (by rw[nC_len]; unfold tooMany; omega) (by rw[nC_len]; unfold tooMany; omega)
   refine W.yes (by simp only[am,evOp,simprocAttr]) (W.run (by simp only[am,evOp,simprocAttr,e16,e20,t1]<;>rfl) ?_)
   have h4l:=AH.lt_of_get j4
   refine⟨b',⟨?_,fun m e=>by have:=t6 _ _ e; omega,j3.trans t3,by rw[t5 _ h4l j2]; exact j4⟩,_,(by simp only[am,evOp,simprocAttr,e20,w1]<;>rfl),by simp only[hl,am,evOp,simprocAttr,e2,e5,e17]⟩
   rw[hst,if_pos q,nC_app]
   exact t2
  ·have c1:decide ((0:Int)<(((nb l k).length:Nat):Int))=false:=decide_eq_false (by omega)
   refine W.seq (W.run (by simp only[am,evOp,simprocAttr,e17,e20,ik,Nat.mul_one,ck,c1]<;>rfl) ?_)
   refine W.no (by simp only[am,evOp,simprocAttr]) (W.skip ⟨b,⟨?_,j2,j3,j4⟩,_,(by simp only[am,evOp,simprocAttr,e20,w1]<;>rfl),by simp only[hl,am,evOp,simprocAttr,e2,e5,e16,e17]⟩)
   rw[hst,if_neg q]
   exact j1
 rintro b ts h7 ⟨j1,j2,j3,j4⟩ ⟨e2,e5,e16,e17,e20,-⟩
 simp only at e2 e5 e16
 have n7:=j3.nx
 have hH:hdK N=hds N l:=rfl
 rw[hH] at j1
 have X7:Ext h1.next h1 h7:=X6.trans (j3.mono (by omega))
 have lenB:lenLA b=some (.int .i64 ((hds N l).length:Nat)):=by
  have:=(nC_sl j1).len
  rw[List.length_map,List.length_map] at this
  exact this
 refine W.seq ?_
 by_cases c5:l.length=10∧(hds N l).length=5
 ·have d1:decide (((l.length:Nat):Int)=10)=true:=decide_eq_true (by omega)
  have d2:decide ((((hds N l).length:Nat):Int)=5)=true:=decide_eq_true (by omega)
  refine W.seq (W.run (by simp only[am,evOp,simprocAttr,e5,lenA,d1,e16,lenB,d2]<;>rfl) ?_)
  refine W.yes (by simp only[am,evOp,simprocAttr]) (W.seq (W.run (by simp only[am,evOp,simprocAttr]<;>rfl) ?_))
  exact W.ret ⟨_,(by simp only[rs,rf6,am,evOp,simprocAttr]<;>rfl),ans X7 (.inl ⟨⟨nd6,c5⟩,rfl⟩)⟩
 have n5':¬ doc5 N l:=fun d=>c5 d.2
 refine W.cut (fun ts' h'=>h'=h7∧Held [(2,.ptr h.next 0),(5,a),(16,b)] ts') ?_ ?_
 ·by_cases c51:l.length=10
  ·have d1:decide (((l.length:Nat):Int)=10)=true:=decide_eq_true (by omega)
   have d2:decide ((((hds N l).length:Nat):Int)=5)=false:=decide_eq_false (by omega)
   refine W.seq (W.run (by simp only[am,evOp,simprocAttr,e5,lenA,d1,e16,lenB,d2]<;>rfl) ?_)
   exact W.no (by simp only[am,evOp,simprocAttr]) (W.skip ⟨rfl,by simp only[hl,am,evOp,simprocAttr,e2,e5,e16]⟩)
  ·have d1:decide (((l.length:Nat):Int)=10)=false:=decide_eq_false (by omega)
   refine W.seq (W.run (by simp only[am,evOp,simprocAttr,e5,lenA,d1]<;>rfl) ?_)
   exact W.no (by simp only[am,evOp,simprocAttr]) (W.skip ⟨rfl,by simp only[hl,am,evOp,simprocAttr,e2,e5,e16]⟩)
 rintro ts hX ⟨hq,e2,e5,e16,-⟩
 have hq':=hq.symm
 clear hq
 subst hq'
 simp only at e2 e5 e16
 refine W.seq ?_
 by_cases c9:l.length=9
 case neg =>
  have d1:decide (((l.length:Nat):Int)=9)=false:=decide_eq_false (by omega)
  refine W.seq (W.run (by simp only[am,evOp,simprocAttr,e5,lenA,d1]<;>rfl) ?_)
  refine W.yes (by simp only[am,evOp,simprocAttr]) (W.seq (W.run (by simp only[am,evOp,simprocAttr]<;>rfl) ?_))
  exact W.ret ⟨_,(by simp only[rs,rf6,am,evOp,simprocAttr]<;>rfl),ans X7 (.inr (.inr ⟨n5',fun d=>c9 d.2.1,rfl⟩))⟩
 have d1:decide (((l.length:Nat):Int)=9)=true:=decide_eq_true (by omega)
 by_cases c6:(hds N l).length=6
 case neg =>
  have d2:decide ((((hds N l).length:Nat):Int)=6)=false:=decide_eq_false (by omega)
  refine W.seq (W.run (by simp only[am,evOp,simprocAttr,e5,lenA,d1,e16,lenB,d2]<;>rfl) ?_)
  refine W.yes (by simp only[am,evOp,simprocAttr]) (W.seq (W.run (by simp only[am,evOp,simprocAttr]<;>rfl) ?_))
  refine W.ret ⟨_,(by simp only[rs,rf6,am,evOp,simprocAttr]<;>rfl),ans X7 (.inr (.inr ⟨n5',fun d=>?_,rfl⟩))⟩
  obtain⟨_,_,h0,r,q1,q2,_⟩:=d
  rw[q1] at c6
  simp at c6
  omega
 have d2:decide ((((hds N l).length:Nat):Int)=6)=true:=decide_eq_true (by omega)
 refine W.seq (W.run (by simp only[am,evOp,simprocAttr,e5,lenA,d1,e16,lenB,d2]<;>rfl) ?_)
 refine W.no (by simp only[am,evOp,simprocAttr]) (W.skip ?_)
 obtain⟨y0,r0,hcons⟩:∃ y0 r0,hds N l=y0::r0:=by
  cases hq:hds N l with
  | nil=>rw[hq] at c6; simp at c6
  | cons a r=>exact⟨a,r,rfl⟩
 have hrl:r0.length=5:=by rw[hcons] at c6; simpa using c6
 have hNn:n=((N:Nat):Int):=by
  have:0<N:=by
   cases N with
   | zero=>unfold hds at hcons; simp at hcons
   | succ N=>omega
  omega
 have rn7:rdCells h7 h.next 0 1=some [.int .i64 ((N:Nat):Int)]:=by rw[← hNn]; exact rd_at (mem X7).2.1 rfl
 have hNb:N<2 ^ 28:=by omega
 have hmk7:=mksA_nat (h:=h7) (z:=[.bool false]) (e:=1) (bytes:=1) (n:=N) (by unfold tooMany; omega) (by unfold tooMany; omega)
 rw[repl_rep,sidC_zero N y0] at hmk7
 have x8:Ext h7.next h7 (h7.new (.cells (sidC N [] y0) 1 false)):=Ext.new (Nat.le_refl _)
 have g8:(h7.new (.cells (sidC N [] y0) 1 false)).get h7.next=some (.cells (sidC N [] y0) 1 false):=by rw[AH.get_new,if_pos rfl]
 have n8:(h7.new (.cells (sidC N [] y0) 1 false)).next=h7.next+1:=rfl
 refine W.seq (W.run (by simp only[am,evOp,simprocAttr,e2,rn7,hmk7]<;>rfl) ?_)
 generalize h7.new (.cells (sidC N [] y0) 1 false)=h8 at *
 have X8:Ext h1.next h1 h8:=X7.trans (x8.mono (by omega))
 have ia8:IsSl h8 2 h1.next a (pC l):=((i5.cong (h':=h6) fun b m e _=>m6.gt b (by have:=al5 b 0 m m e; omega) (by have:=al5 b 0 m m e; omega)).cong (h':=h7) fun b m e _=>j3.gt b (al5 b 0 m m e)).ext x8 (Nat.le_refl _)
 have ib8:IsSl h8 1 h3.next b (nC (hds N l)):=j1.ext x8 (Nat.le_refl _)
 have atE:∀ {h':AH},Mod h8.next h8 h' h7.next (.cells (sidC N [] y0) 1 false)∨(∃ o,Mod h8.next h8 h' h7.next o)→∀ (m:Nat) (hm:m<l.length),(∃ b q,iadrL 2 a (.int .i64 (m:Nat))=some (.ptr b q)∧rdCells h' b q 1=some [.int .i64 ((l[m].1:Nat):Int)]∧rdCells h' b (q+1) 1=some [.int .i64 ((l[m].2:Nat):Int)]) ∧
  ∃ b' q,iadrL 1 b (.int .i64 0)=some (.ptr b' q)∧rdCells h' b' q 1=some [.int .i64 ((y0:Nat):Int)]:=fun {h'} hM m hm=>by
  obtain⟨o,hM⟩:∃ o,Mod h8.next h8 h' h7.next o:=hM.elim (fun q=>⟨_,q⟩) fun q=>q
  have al8:∀ b o m c,a=.sl b o m c→b<h7.next:=fun b o m c e=>by have:=al5 b o m c e; omega
  have bl8:∀ b' o m c,b=.sl b' o m c→b'<h7.next:=fun b' o m c e=>j1.lt e
  obtain⟨b5,q5,a5,_,rr,_⟩:=(pC_sl (ia8.cong (h':=h') fun b m e _=>hM.gt b (by have:=al8 b 0 m m e; omega) (by have:=al8 b 0 m m e; omega))).at (i:=m) (x:=eE (pE l[m])) (by rw[List.getElem?_map,List.getElem?_map,List.getElem?_eq_getElem hm]; rfl)
  have sb:=nC_sl (ib8.cong (h':=h') fun b m e _=>hM.gt b (by have:=bl8 b 0 m m e; omega) (by have:=bl8 b 0 m m e; omega))
  rw[hcons] at sb
  obtain⟨q1,q2,q3,q4,_⟩:=sb.at1 (i:=0) (y:=.int .i64 ((y0:Nat):Int)) rfl
  exact⟨⟨b5,q5,a5,rr 0 _ rfl,rr 1 _ rfl⟩,q1,q2,q3,q4⟩
 refine W.seq (W.run (by simp only[am,evOp,simprocAttr]<;>rfl) ?_)
 refine W.seq (W.seq (W.run (by simp only[am,evOp,simprocAttr]<;>rfl) ?_))
 refine W.whl (α:=Unit) (N:=l.length) (fun k _=>[(5,a),(16,b),(21,.sl h7.next 0 N N),(22,.int .i64 ((nb (l.take k) y0).length:Nat)),(23,.int .i64 (k:Nat))])
  (fun k _ h'=>Mod h8.next h8 h' h7.next (.cells (sidC N (l.take k) y0) 1 false)) () (by simp only[hl,am,evOp,simprocAttr,e5,e16,Int.natCast_zero,List.take_zero,show (nb [] y0).length=0 from rfl]) (by rw[List.take_zero]; exact Mod.refl g8) ?_ ?_ ?_
 ·rintro k _ ts h9 hk _ ⟨e5,e16,e21,e22,e23,-⟩
  simp only at e5 e16 e21 e22 e23
  exact⟨_,(by simp only[am,evOp,simprocAttr,e23,e5,lenA,Int.ofNat_lt]<;>rfl),by simp only[am,evOp,simprocAttr],by simp only[hl,am,evOp,simprocAttr,e5,e16,e21,e22,e23]⟩
 ·rintro k _ ts h9 hk m9 ⟨e5,e16,e21,e22,e23,-⟩
  simp only at m9 e5 e16 e21 e22 e23
  have w1k:IntKind.i64.wrap (((k:Nat):Int)+1)=((k+1:Nat):Int):=wr64 (by omega) (by omega)
  obtain⟨⟨b5,q5,a5,ra,rb⟩,q1,q2,q3,q4⟩:=atE (h':=h9) (.inr ⟨_,m9⟩) k hk
  have hS':=hS l[k] (List.getElem_mem hk)
  obtain⟨hB1,hB2⟩:=hB l[k] (List.getElem_mem hk)
  have hnl:(nb (l.take k) y0).length≤2*k:=by
   rw[nb_len]
   refine Nat.le_trans List.count_le_length ?_
   have:∀ (m:List (Nat×Nat)),(m.flatMap fun p=>[p.1,p.2]).length=2*m.length:=fun m=>by
    induction m with
    | nil=>rfl
    | cons p r ih=>rw[List.flatMap_cons,List.length_append,ih]; simp only[List.length_cons,List.length_nil]; omega
   rw[this,List.length_take]
   omega
  have wn:IntKind.i64.wrap ((((nb (l.take k) y0).length:Nat):Int)+1)=(((nb (l.take k) y0).length+1:Nat):Int):=by rw[wr64 (by omega) (by omega)]; omega
  have hts:=List.take_succ_eq_append_getElem hk
  by_cases ca:l[k].1=y0
  ·have cb:¬ l[k].2=y0:=by omega
   have d3:decide (((l[k].1:Nat):Int)=((y0:Nat):Int))=true:=decide_eq_true (by omega)
   have d4:decide (((l[k].2:Nat):Int)=((y0:Nat):Int))=false:=decide_eq_false (by omega)
   have i2:idx? ((l[k].2:Nat):Int) N=some l[k].2:=idx_nat hB2
   have hy:nb (l.take k++[l[k]]) y0=nb (l.take k) y0++[l[k].2]:=by rw[nb_snoc,if_pos ca,if_neg cb]; rfl
   have w8:=wr_at (v:=.bool true) m9.get (show l[k].2<(sidC N (l.take k) y0).length by rw[sidC_len]; exact hB2)
   rw[sidC_step hy hB2,← hts] at w8
   have u8:=Upd.put (o:=.cells (sidC N (l.take (k+1)) y0) 1 false) m9.get
   refine W.seq (W.seq (W.run (by simp only[am,evOp,simprocAttr,e5,e23,a5,ra,e16,q3,q4,d3]<;>rfl) ?_))
   refine W.yes (by simp only[am,evOp,simprocAttr]) (W.seq (W.run (by simp only[am,evOp,simprocAttr,e21,e5,e23,a5,rb,i2,Nat.mul_one,w8]<;>rfl) ?_))
   generalize h9.put h7.next (.cells (sidC N (l.take (k+1)) y0) 1 false)=h10 at *
   have m10:=m9.upd u8
   obtain⟨⟨b5',q5',a5',ra',rb'⟩,q1',q2',q3',q4'⟩:=atE (h':=h10) (.inr ⟨_,m10⟩) k hk
   refine W.run (by simp only[am,evOp,simprocAttr,e22,wn]<;>rfl) ?_
   refine W.seq (W.run (by simp only[am,evOp,simprocAttr,e5,e23,a5',rb',e16,q3',q4',d4]<;>rfl) ?_)
   refine W.no (by simp only[am,evOp,simprocAttr]) (W.skip ⟨(),m10,_,(by simp only[am,evOp,simprocAttr,e23,w1k]<;>rfl),?_⟩)
   have hl10:(nb (l.take (k+1)) y0).length=(nb (l.take k) y0).length+1:=by rw[hts,hy,List.length_append]; rfl
   exact by simp only[hl,am,evOp,simprocAttr,e5,e16,e21,hl10]
  ·have d3:decide (((l[k].1:Nat):Int)=((y0:Nat):Int))=false:=decide_eq_false (by omega)
   refine W.seq (W.seq (W.run (by simp only[am,evOp,simprocAttr,e5,e23,a5,ra,e16,q3,q4,d3]<;>rfl) ?_))
   refine W.no (by simp only[am,evOp,simprocAttr]) (W.skip ?_)
   by_cases cb:l[k].2=y0
   ·have d4:decide (((l[k].2:Nat):Int)=((y0:Nat):Int))=true:=decide_eq_true (by omega)
    have i1:idx? ((l[k].1:Nat):Int) N=some l[k].1:=idx_nat hB1
    have hy:nb (l.take k++[l[k]]) y0=nb (l.take k) y0++[l[k].1]:=by rw[nb_snoc,if_neg ca,if_pos cb]; rfl
    have w8:=wr_at (v:=.bool true) m9.get (show l[k].1<(sidC N (l.take k) y0).length by rw[sidC_len]; exact hB1)
    rw[sidC_step hy hB1,← hts] at w8
    have u8:=Upd.put (o:=.cells (sidC N (l.take (k+1)) y0) 1 false) m9.get
    refine W.seq (W.run (by simp only[am,evOp,simprocAttr,e5,e23,a5,rb,e16,q3,q4,d4]<;>rfl) ?_)
    refine W.yes (by simp only[am,evOp,simprocAttr]) (W.seq (W.run (by simp only[am,evOp,simprocAttr,e21,e5,e23,a5,ra,i1,Nat.mul_one,w8]<;>rfl) ?_))
    refine W.run (by simp only[am,evOp,simprocAttr,e22,wn]<;>rfl) ?_
    refine⟨(),m9.upd u8,_,(by simp only[am,evOp,simprocAttr,e23,w1k]<;>rfl),?_⟩
    have hl10:(nb (l.take (k+1)) y0).length=(nb (l.take k) y0).length+1:=by rw[hts,hy,List.length_append]; rfl
    exact by simp only[hl,am,evOp,simprocAttr,e5,e16,e21,hl10]
   ·have d4:decide (((l[k].2:Nat):Int)=((y0:Nat):Int))=false:=decide_eq_false (by omega)
    obtain⟨z1,z2⟩:=sidC_same (N:=N) (l:=l.take k) ca cb
    rw[← hts] at z1 z2
    refine W.seq (W.run (by simp only[am,evOp,simprocAttr,e5,e23,a5,rb,e16,q3,q4,d4]<;>rfl) ?_)
    refine W.no (by simp only[am,evOp,simprocAttr]) (W.skip ⟨(),by rw[z1]; exact m9,_,(by simp only[am,evOp,simprocAttr,e23,w1k]<;>rfl),?_⟩)
    exact by simp only[hl,am,evOp,simprocAttr,e5,e16,e21,e22,z2]
 rintro _ ts h9 m9 ⟨e5,e16,e21,e22,e23,-⟩
 simp only at m9 e5 e16 e21 e22
 rw[List.take_length] at m9 e22
 have X9:Ext h1.next h1 h9:=X8.trans ((m9.mono (m:=h1.next) (by omega)).toExt (by omega))
 refine W.seq (W.seq (W.run (by simp only[am,evOp,simprocAttr]<;>rfl) ?_))
 refine W.whl (α:=Unit) (N:=l.length) (fun k _=>[(5,a),(21,.sl h7.next 0 N N),(22,.int .i64 ((nb l y0).length:Nat)),(24,.int .i64 (k:Nat))])
  (fun k _ h'=>h'=h9∧∀ (j:Nat) (hj:j<l.length),j<k→sideB l y0 l[j].1≠sideB l y0 l[j].2) () (by simp only[hl,am,evOp,simprocAttr,e5,e21,e22,Int.natCast_zero]) ⟨rfl,fun j hj hk=>absurd hk (Nat.not_lt_zero _)⟩ ?_ ?_ ?_
 ·rintro k _ ts h10 hk _ ⟨e5,e21,e22,e24,-⟩
  simp only at e5 e21 e22 e24
  exact⟨_,(by simp only[am,evOp,simprocAttr,e24,e5,lenA,Int.ofNat_lt]<;>rfl),by simp only[am,evOp,simprocAttr],by simp only[hl,am,evOp,simprocAttr,e5,e21,e22,e24]⟩
 ·rintro k _ ts h10 hk ⟨rfl,jm⟩ ⟨e5,e21,e22,e24,-⟩
  simp only at e5 e21 e22 e24
  have w1k:IntKind.i64.wrap (((k:Nat):Int)+1)=((k+1:Nat):Int):=wr64 (by omega) (by omega)
  obtain⟨⟨b5,q5,a5,ra,rb⟩,_⟩:=atE (h':=h10) (.inr ⟨_,m9⟩) k hk
  obtain⟨hB1,hB2⟩:=hB l[k] (List.getElem_mem hk)
  have i1:idx? ((l[k].1:Nat):Int) N=some l[k].1:=idx_nat hB1
  have i2:idx? ((l[k].2:Nat):Int) N=some l[k].2:=idx_nat hB2
  have s1:rdCells h10 h7.next l[k].1 1=some [.bool (sideB l y0 l[k].1)]:=rd_at m9.get (sidC_at hB1)
  have s2:rdCells h10 h7.next l[k].2 1=some [.bool (sideB l y0 l[k].2)]:=rd_at m9.get (sidC_at hB2)
  by_cases q:sideB l y0 l[k].1=sideB l y0 l[k].2
  ·have c3:(sideB l y0 l[k].1==sideB l y0 l[k].2)=true:=by rw[beq_iff_eq]; exact q
   refine W.seq (W.run (by simp only[am,evOp,simprocAttr,e5,e21,e24,a5,ra,rb,i1,i2,Nat.mul_one,s1,s2,bin_beql,c3]<;>rfl) ?_)
   refine W.yes (by simp only[am,evOp,simprocAttr]) (W.seq (W.run (by simp only[am,evOp,simprocAttr]<;>rfl) ?_))
   refine W.ret ⟨_,(by simp only[rs,rf6,am,evOp,simprocAttr]<;>rfl),ans X9 (.inr (.inr ⟨n5',fun d=>?_,rfl⟩))⟩
   obtain⟨_,_,h0,r,t1,t2,t3,_⟩:=d
   rw[hcons] at t1
   cases t1
   exact t3 l[k] (List.getElem_mem hk) q
  ·have c3:(sideB l y0 l[k].1==sideB l y0 l[k].2)=false:=by rw[beq_eq_false_iff_ne]; exact q
   refine W.seq (W.run (by simp only[am,evOp,simprocAttr,e5,e21,e24,a5,ra,rb,i1,i2,Nat.mul_one,s1,s2,bin_beql,c3]<;>rfl) ?_)
   refine W.no (by simp only[am,evOp,simprocAttr]) (W.skip ⟨(),⟨rfl,fun j hj hjm=>?_⟩,_,(by simp only[am,evOp,simprocAttr,e24,w1k]<;>rfl),by simp only[hl,am,evOp,simprocAttr,e5,e21,e22]⟩)
   by_cases hjm':j=k
   ·subst hjm'; exact q
   ·exact jm j hj (by omega)
 rintro _ ts h10 ⟨rfl,jm⟩ ⟨e5,e21,e22,e24,-⟩
 simp only at e22
 refine W.seq ?_
 by_cases c3:(nb l y0).length=3
 ·have d3:decide ((((nb l y0).length:Nat):Int)=3)=true:=decide_eq_true (by omega)
  refine W.seq (W.run (by simp only[am,evOp,simprocAttr,e22,d3]<;>rfl) ?_)
  refine W.no (by simp only[am,evOp,simprocAttr]) (W.skip ?_)
  refine W.seq (W.run (by simp only[am,evOp,simprocAttr]<;>rfl) ?_)
  refine W.ret ⟨_,(by simp only[rs,rf6,am,evOp,simprocAttr]<;>rfl),ans X9 (.inr (.inl ⟨n5',⟨nd6,c9,y0,r0,hcons,hrl,fun p hp=>?_,c3⟩,rfl⟩))⟩
  obtain⟨j,hj,rfl⟩:=List.getElem_of_mem hp
  exact jm j hj hj
 ·have d3:decide ((((nb l y0).length:Nat):Int)=3)=false:=decide_eq_false (by omega)
  refine W.seq (W.run (by simp only[am,evOp,simprocAttr,e22,d3]<;>rfl) ?_)
  refine W.yes (by simp only[am,evOp,simprocAttr]) (W.seq (W.run (by simp only[am,evOp,simprocAttr]<;>rfl) ?_))
  refine W.ret ⟨_,(by simp only[rs,rf6,am,evOp,simprocAttr]<;>rfl),ans X9 (.inr (.inr ⟨n5',fun d=>?_,rfl⟩))⟩
  obtain⟨_,_,h0,r,t1,t2,_,t4⟩:=d
  rw[hcons] at t1
  cases t1
  exact c3 t4
end Go.Proofs.YtldkniahgagocaaGreat
