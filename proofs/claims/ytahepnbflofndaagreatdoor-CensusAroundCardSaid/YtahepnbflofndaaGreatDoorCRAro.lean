/-
  arborref15.Around: how many cyclic orders there are.
-/
import Derived.Test.YtahepnbflofndaaGreatDoorCOrd2
import Derived.Test.YtahepnbflofndaaGreatDoorCCen2
set_option linter.all false
namespace Go.Proofs.YtahepnbflofndaaGreatDoor
open Go.Am
open Go.Aro (nth orders picks blkOf blkF from1 goodO keptM t1 aroundM)
theorem blkF_snoc (s:Nat):∀ (l:List Nat) (k:Nat),blkF k (l++[s])=blkF k l++List.replicate s (k+l.length)
 | [],k=>by simp [blkF]
 | a::l,k=>by
   rw[List.cons_append,blkF,blkF,blkF_snoc s l (k+1),List.append_assoc,List.length_cons,show k+1+l.length=k+(l.length+1) by omega]
theorem blk_step {ns:List Nat}{k:Nat} (hk:k<ns.length):blkOf (ns.take (k+1))=blkOf (ns.take k)++List.replicate (nth ns k) k:=by
 have:ns.take (k+1)=ns.take k++[nth ns k]:=by rw[List.take_add_one,nth_get ns k hk]; rfl
 unfold blkOf
 rw[this,blkF_snoc,List.length_take,Nat.min_eq_left (by omega),Nat.zero_add]
theorem blkF_len:∀ (l:List Nat) (k:Nat),(blkF k l).length=l.sum
 | [],_=>rfl
 | a::l,k=>by rw[blkF,List.length_append,List.length_replicate,blkF_len l,List.sum_cons]
theorem sum_take_le {ns:List Nat} (k:Nat):(ns.take k).sum≤ns.sum:=by
 conv=>rhs; rw[← List.take_append_drop k ns,List.sum_append]
 omega
theorem sum_nth {ns:List Nat}{k:Nat} (hk:k<ns.length):(ns.take k).sum+nth ns k≤ns.sum:=by
 have:ns.take (k+1)=ns.take k++[nth ns k]:=by rw[List.take_add_one,nth_get ns k hk]; rfl
 have h:=sum_take_le (ns:=ns) (k+1)
 rw[this,List.sum_append] at h
 simpa using h
theorem from1_step (i n:Nat):from1 i (n+1)=from1 i n++[i+n]:=by
 induction n generalizing i with
 | zero=>simp [from1]
 | succ n ih =>
   show i::from1 (i+1) (n+1)=i::from1 (i+1) n++[i+(n+1)]
   rw[ih (i+1),List.cons_append,show i+1+n=i+(n+1) by omega]
theorem from1_in {x:Nat}:∀ (n i:Nat),x∈from1 i n→i≤x∧x<i+n
 | 0,_,h=>by cases h
 | n+1,i,h=>by
   rcases List.mem_cons.1 h with rfl|h
   ·omega
   ·have:=from1_in n (i+1) h
    omega
theorem orders_sub:∀ (f:Nat) (l x:List Nat),x∈orders f l→∀ y∈x,y∈l
 | 0,l,x,h,y,hy=>by
   have:x=[]:=by simpa [orders] using h
   rw[this] at hy; cases hy
 | f+1,[],x,h,y,hy=>by
   have:x=[]:=by simpa [orders] using h
   rw[this] at hy; cases hy
 | f+1,a::r,x,h,y,hy=>by
   rw[orders_out (by simp)] at h
   unfold outK at h
   rw[List.mem_flatMap] at h
   obtain⟨p,hp,h⟩:=h
   obtain⟨z,hz,rfl⟩:=List.mem_map.1 h
   obtain⟨j,hj,rfl⟩:=List.mem_map.1 hp
   have hj:=List.mem_range.1 hj
   rcases List.mem_cons.1 hy with rfl|hy
   ·exact nth_mem _ _ hj
   ·have:=orders_sub f _ z hz y hy
    rcases List.mem_append.1 this with q|q
    ·exact List.mem_of_mem_take q
    ·exact List.mem_of_mem_drop q
set_option maxHeartbeats 2000000 in
theorem raround_ok {h:AH}{v:AV}{ns:List Nat} (hv:SlN h v ns) (h1:∀ a∈ns,1≤a) (h2:ns.sum≤7):C prg 10 [v] h fun r h'=>r=.int .i64 (aroundM ns:Nat)∧Ext h.next h h':=by
 have el:=Sl.len hv
 rw[List.length_map,List.length_map] at el
 have hlen:ns.length≤ns.sum:=by
  clear h2 hv el
  induction ns with
  | nil=>simp
  | cons a l ih =>
    have:=h1 a (List.mem_cons_self ..)
    have:=ih fun b hb=>h1 b (List.mem_cons_of_mem _ hb)
    rw[List.sum_cons,List.length_cons]
    omega
 refine C.func pf10 ?_
 refine W.seq (W.run (by simp only[am,evOp,simprocAttr,initTm]<;>rfl) ?_)
 have x1:Ext h.next h (h.new (.cells [] 1 false)):=Ext.new (Nat.le_refl _)
 have g1:(h.new (.cells [] 1 false)).get h.next=some (.cells [] 1 false):=by rw[AH.get_new,if_pos rfl]
 have n1:(h.new (.cells [] 1 false)).next=h.next+1:=rfl
 refine W.seq (W.run (by simp only[am,evOp,simprocAttr,initTm]<;>rfl) ?_)
 generalize (h.new (.cells [] 1 false))=h1 at *
 refine W.seq (W.seq (W.run (by simp only[am,evOp,simprocAttr]<;>rfl) ?_))
 refine W.whl (α:=AV) (N:=ns.length) (fun k a=>[(0,v),(3,a),(4,.int .i64 (k:Nat))]) (fun k a h'=>IsSl h' 1 h.next a (nC (blkOf (ns.take k)))∧Ext h.next h h') (.sl h.next 0 0 0) (by simp only[hl,am,evOp,simprocAttr,initTm,Int.natCast_zero])
  ⟨.inr ⟨h.next,0,Nat.le_refl _,rfl,g1,rfl⟩,x1⟩ ?_ ?_ ?_
 ·rintro k a ts h2 hk _ ⟨e0,e3,e4,-⟩
  simp only at e0 e3 e4
  exact⟨_,(by simp only[am,evOp,simprocAttr,e0,e4,el,Int.ofNat_lt]<;>rfl),by simp only[am,evOp,simprocAttr],by simp only[hl,am,evOp,simprocAttr,e0,e3,e4]⟩
 ·rintro k a ts h2 hk ⟨j1,jx⟩ ⟨e0,e3,e4,-⟩
  simp only at e0 e3 e4
  have wk:IntKind.i64.wrap (((k:Nat):Int)+1)=((k+1:Nat):Int):=wr64 (by omega) (by omega)
  have hst:=blk_step hk
  have hsn:=sum_nth hk
  have hbl:(blkOf (ns.take k)).length=(ns.take k).sum:=blkF_len _ _
  refine W.seq (W.run (by simp only[am,evOp,simprocAttr]<;>rfl) ?_)
  refine W.whl (α:=AV) (N:=nth ns k) (fun i a=>[(0,v),(3,a),(4,.int .i64 (k:Nat)),(5,.int .i64 (i:Nat))]) (fun i a h'=>IsSl h' 1 h.next a (nC (blkOf (ns.take k)++List.replicate i k))∧Ext h.next h h') a (by simp only[hl,am,evOp,simprocAttr,e0,e3,e4,Int.natCast_zero])
   ⟨by simpa using j1,jx⟩ ?_ ?_ ?_
  ·clear e0 e3 e4
   rintro i b ts h3 hi ⟨_,kx⟩ ⟨e0,e3,e4,e5,-⟩
   simp only at e0 e3 e4 e5
   obtain⟨b1,p1,a1,r1⟩:=SlN.at (hv.ext kx (Nat.le_refl _)) hk
   exact⟨_,(by simp only[am,evOp,simprocAttr,e0,e4,e5,a1,r1,Int.ofNat_lt]<;>rfl),by simp only[am,evOp,simprocAttr],by simp only[hl,am,evOp,simprocAttr,e0,e3,e4,e5]⟩
  ·clear e0 e3 e4
   rintro i b ts h3 hi ⟨k1,kx⟩ ⟨e0,e3,e4,e5,-⟩
   simp only at e0 e3 e4 e5
   have wi:IntKind.i64.wrap (((i:Nat):Int)+1)=((i+1:Nat):Int):=wr64 (by omega) (by omega)
   obtain⟨s',h4,a4,i4,x4,n4⟩:=k1.push (bytes:=8) [.int .i64 (k:Nat)] kx.nx (by omega) rfl rfl (by rw[nC_len,List.length_append,List.length_replicate,Nat.div_one]; unfold tooMany; omega) (by rw[nC_len,List.length_append,List.length_replicate,Nat.div_one]; unfold tooMany; omega)
   refine W.run (by simp only[am,evOp,simprocAttr,e3,e4,a4]<;>rfl) ?_
   refine⟨s',⟨?_,kx.trans x4⟩,_,(by simp only[am,evOp,simprocAttr,e5,wi]<;>rfl),by simp only[hl,am,evOp,simprocAttr,e0,e4]⟩
   rw[List.replicate_succ',← List.append_assoc,nC_app]
   exact i4
  ·clear e0 e3 e4
   rintro b ts h3 ⟨k1,kx⟩ ⟨e0,e3,e4,e5,-⟩
   simp only at e0 e3 e4
   rw[← hst] at k1
   exact⟨b,⟨k1,kx⟩,_,(by simp only[am,evOp,simprocAttr,e4,wk]<;>rfl),by simp only[hl,am,evOp,simprocAttr,e0,e3]⟩
 rintro a ts h2 ⟨j1,jx⟩ ⟨e0,e3,e4,-⟩
 simp only at e0 e3
 rw[List.take_length] at j1
 have hbl:(blkOf ns).length=ns.sum:=blkF_len _ _
 have sb:=nC_sl j1
 have lb:=Sl.len sb
 rw[List.length_map,List.length_map] at lb
 by_cases h0:ns.sum=0
 ·have hb0:blkOf ns=[]:=List.length_eq_zero_iff.1 (by omega)
  rw[hb0] at lb
  simp only[List.length_nil] at lb
  refine W.seq (W.seq (W.run (by simp only[am,evOp,simprocAttr,e3,lb,Int.natCast_zero,decide_true]<;>rfl) ?_))
  refine W.yes (by simp only[am,evOp,simprocAttr]) (W.seq (W.run (by simp only[am,evOp,simprocAttr]<;>rfl) ?_))
  refine W.ret ⟨.int .i64 1,(by simp only[rs,rf10,am,evOp,simprocAttr]<;>rfl),?_,jx⟩
  unfold aroundM
  rw[hb0]
  rfl
 have c0:decide ((((blkOf ns).length:Nat):Int)=0)=false:=decide_eq_false (by omega)
 refine W.seq (W.seq (W.run (by simp only[am,evOp,simprocAttr,e3,lb,c0]<;>rfl) ?_))
 refine W.no (by simp only[am,evOp,simprocAttr]) (W.skip ?_)
 have n2:=jx.nx
 have x3:Ext h2.next h2 (h2.new (.cells [] 1 false)):=Ext.new (Nat.le_refl _)
 have g3:(h2.new (.cells [] 1 false)).get h2.next=some (.cells [] 1 false):=by rw[AH.get_new,if_pos rfl]
 refine W.seq (W.run (by simp only[am,evOp,simprocAttr]<;>rfl) ?_)
 generalize (h2.new (.cells [] 1 false))=h3 at *
 refine W.seq (W.seq (W.run (by simp only[am,evOp,simprocAttr]<;>rfl) ?_))
 refine W.whl (α:=AV) (N:=(blkOf ns).length-1) (fun k b=>[(0,v),(3,a),(6,b),(7,.int .i64 ((1+k:Nat):Int))]) (fun k b h'=>IsSl h' 1 h2.next b (nC (from1 1 k))∧Ext h2.next h2 h') (.sl h2.next 0 0 0) (by simp only[hl,am,evOp,simprocAttr,e0,e3])
  ⟨.inr ⟨h2.next,0,Nat.le_refl _,rfl,g3,rfl⟩,x3⟩ ?_ ?_ ?_
 ·clear e0 e3 e4
  rintro k b ts h4 hk _ ⟨e0,e3,e6,e7,-⟩
  simp only at e0 e3 e6 e7
  have c1:decide (((1+k:Nat):Int)<(((blkOf ns).length:Nat):Int))=decide (k<(blkOf ns).length-1):=by simp only[decide_eq_decide]; omega
  exact⟨_,(by simp only[am,evOp,simprocAttr,e3,e7,lb,c1]<;>rfl),by simp only[am,evOp,simprocAttr],by simp only[hl,am,evOp,simprocAttr,e0,e3,e6,e7]⟩
 ·clear e0 e3 e4
  rintro k b ts h4 hk ⟨k1,kx⟩ ⟨e0,e3,e6,e7,-⟩
  simp only at e0 e3 e6 e7
  have wi:IntKind.i64.wrap (((1+k:Nat):Int)+1)=((1+(k+1):Nat):Int):=wr64 (by omega) (by omega)
  obtain⟨s',h5,a5,i5,x5,n5⟩:=k1.push (bytes:=8) [.int .i64 ((1+k:Nat):Int)] kx.nx (by omega) rfl rfl (by rw[nC_len,from1_len,Nat.div_one]; unfold tooMany; omega) (by rw[nC_len,from1_len,Nat.div_one]; unfold tooMany; omega)
  refine W.run (by simp only[am,evOp,simprocAttr,e6,e7,a5]<;>rfl) ?_
  refine⟨s',⟨?_,kx.trans x5⟩,_,(by simp only[am,evOp,simprocAttr,e7,wi]<;>rfl),by simp only[hl,am,evOp,simprocAttr,e0,e3]⟩
  rw[from1_step,nC_app]
  exact i5
 clear e0 e3 e4
 rintro b ts h4 ⟨k1,kx⟩ ⟨e0,e3,e6,e7,-⟩
 simp only at e0 e3 e6
 have n4:=kx.nx
 have sr:=nC_sl k1
 have hrl:=from1_len ((blkOf ns).length-1) 1
 refine W.seq (W.run (by simp only[am,evOp,simprocAttr]<;>rfl) ?_)
 refine W.seq (W.reg (G.gcall 1 (by simp only[am,evOp,simprocAttr,e6]<;>rfl) rfl (by simp only[am,evOp,simprocAttr,e6]) (by simp only[am,evOp,simprocAttr,e6]<;>rfl) (orders_ok ((blkOf ns).length-1) (by omega) (by rw[hrl]; exact Nat.le_refl _) sr) fun r h5 hq=>?_))
 obtain⟨t5,x5⟩:=hq
 refine G.run (by simp only[am,evOp,simprocAttr]<;>rfl) ?_
 have n5:=x5.nx
 have X5:Ext h2.next h2 h5:=kx.trans (x5.mono n4)
 have hA:aroundM ns=((orders ((blkOf ns).length-1) (from1 1 ((blkOf ns).length-1))).filter (goodO (blkOf ns) ns.length)).length:=by
  unfold aroundM
  cases hb:blkOf ns with
  | nil=>rw[hb] at hbl; simp at hbl; omega
  | cons x r=>rfl
 rw[hA]
 have hTin:∀ x∈orders ((blkOf ns).length-1) (from1 1 ((blkOf ns).length-1)),x.length≤7∧∀ y∈0::x,y<(blkOf ns).length:=fun x hx=>by
  refine⟨by have:=orders_in _ _ x hx; omega,fun y hy=>?_⟩
  rcases List.mem_cons.1 hy with rfl|hy
  ·omega
  ·have:=from1_in _ _ (orders_sub _ _ x hx y hy)
   omega
 have hTl:(orders ((blkOf ns).length-1) (from1 1 ((blkOf ns).length-1))).length≤8 ^ 7:=Nat.le_trans (orders_len _ _ (by omega) (by rw[hrl]; exact Nat.le_refl _)) (pow_le (by rw[hrl]; omega))
 generalize orders ((blkOf ns).length-1) (from1 1 ((blkOf ns).length-1))=T at *
 have lT:=t5.len
 have sb5:SlN h5 a (blkOf ns):=Sl.ext sb X5 (Nat.le_refl _)
 have hv5:SlN h5 v ns:=Sl.ext hv (jx.trans (X5.mono n2)) (Nat.le_refl _)
 refine W.seq (W.seq (W.run (by simp only[am,evOp,simprocAttr]<;>rfl) ?_))
 refine W.whl (α:=Unit) (N:=T.length) (fun i _=>[(0,v),(3,a),(9,r),(10,.int .i64 (i:Nat)),(8,.int .i64 (((T.take i).filter (goodO (blkOf ns) ns.length)).length:Nat))]) (fun i _ h'=>Ext h5.next h5 h') () (by simp only[hl,am,evOp,simprocAttr,e0,e3,List.take_zero,List.filter_nil,List.length_nil,Int.natCast_zero]) Ext.refl ?_ ?_ ?_
 ·clear e0 e3 e6 e7
  rintro i _ ts h6 hi _ ⟨e0,e3,e9,e10,e8,-⟩
  simp only at e0 e3 e9 e10 e8
  exact⟨_,(by simp only[am,evOp,simprocAttr,e9,e10,lT,Int.ofNat_lt]<;>rfl),by simp only[am,evOp,simprocAttr],by simp only[hl,am,evOp,simprocAttr,e0,e3,e9,e10,e8]⟩
 ·clear e0 e3 e6 e7
  rintro i _ ts h6 hi jx6 ⟨e0,e3,e9,e10,e8,-⟩
  simp only at e0 e3 e9 e10 e8
  have n6:=jx6.nx
  have wi:IntKind.i64.wrap (((i:Nat):Int)+1)=((i+1:Nat):Int):=wr64 (by omega) (by omega)
  have ei:((i:Nat):Int)+1=((i+1:Nat):Int):=rfl
  have t6:=t5.ext jx6 (Nat.le_refl _)
  obtain⟨b2,p2,w,a2,r2,i6,l2⟩:=t6.at hi
  obtain⟨hTk,hTk2⟩:=hTin _ (List.getElem_mem hi)
  have x7:Ext h6.next h6 (h6.new (.cells [.int .i64 0] 1 false)):=Ext.new (Nat.le_refl _)
  have g7:(h6.new (.cells [.int .i64 0] 1 false)).get h6.next=some (.cells [.int .i64 0] 1 false):=by rw[AH.get_new,if_pos rfl]
  have n7:(h6.new (.cells [.int .i64 0] 1 false)).next=h6.next+1:=rfl
  have r2':rdCells (h6.new (.cells [.int .i64 0] 1 false)) b2 p2 1=some [w]:=by rw[rdCells_eq (x7.gt _ l2)]; exact r2
  have i7:IsSl (h6.new (.cells [.int .i64 0] 1 false)) 1 h6.next (.sl h6.next 0 1 1) (nC [0]):=.inr ⟨h6.next,1,Nat.le_refl _,rfl,g7,rfl⟩
  have hw7:SlN (h6.new (.cells [.int .i64 0] 1 false)) w T[i]:=Sl.ext (nC_sl i6) x7 (Nat.le_refl _)
  obtain⟨v8,h8,a8,i8,x8,n8,k8⟩:=apps (bytes:=8) i7 (by rw[n7]; omega) (by omega) hw7 (ones_nC _) (by rw[nC_len]; simp only[List.length_map,List.length_cons,List.length_nil]; unfold tooMany; omega) (by rw[nC_len]; simp only[List.length_map,List.length_cons,List.length_nil]; unfold tooMany; omega)
  rw[flat_nC,← nC_app] at i8
  have X8:Ext h6.next h6 h8:=x7.trans x8
  have s8:SlN h8 v8 (0::T[i]):=nC_sl i8
  have jx8:Ext h5.next h5 h8:=jx6.trans (X8.mono n6)
  have sb8:SlN h8 a (blkOf ns):=Sl.ext sb5 jx8 (Nat.le_refl _)
  refine W.seq (W.run (by simp only[am,evOp,simprocAttr,e9,e10,a2,r2',a8]<;>rfl) ?_)
  refine W.seq (W.reg (G.gcall 4 (by simp only[am,evOp,simprocAttr,e0,e3,el]<;>rfl) rfl (by simp only[am,evOp,simprocAttr,e0,e3,el]) (by simp only[am,evOp,simprocAttr,e0,e3,el]<;>rfl) (kept_ok s8 sb8 (by simp only[List.length_cons]; omega) hTk2 (by omega:ns.length<2 ^ 40)) fun r9 h9 hq=>?_))
  obtain⟨rfl,x9⟩:=hq
  have jx9:Ext h5.next h5 h9:=jx8.trans (x9.mono (by have:=X8.nx; omega))
  have hst:T.take (i+1)=T.take i++[T[i]]:=by rw[List.take_succ_eq_append_getElem hi]
  have hcl:((T.take i).filter (goodO (blkOf ns) ns.length)).length≤T.length:=Nat.le_trans (List.length_filter_le ..) (by rw[List.length_take]; omega)
  cases hk:keptM (blkOf ns) (0::T[i]) ns.length with
  | false =>
    have hg:goodO (blkOf ns) ns.length T[i]=false:=by unfold goodO; rw[hk]; rfl
    have hf:((T.take (i+1)).filter (goodO (blkOf ns) ns.length)).length=((T.take i).filter (goodO (blkOf ns) ns.length)).length:=by
     rw[hst,List.filter_append,List.filter_cons_of_neg (by simp [hg])]; simp
    refine G.nocall 3 (by simp only[am,evOp,simprocAttr]<;>rfl) rfl (by simp only[am,evOp,simprocAttr]) ?_
    refine G.run (by simp only[am,evOp,simprocAttr]<;>rfl) ?_
    exact W.no (by simp only[am,evOp,simprocAttr]) (W.skip ⟨(),jx9,_,(by simp only[am,evOp,simprocAttr,e10,wi]<;>rfl),by simp only[hl,am,evOp,simprocAttr,e0,e3,e9,e8,hf,ei]⟩)
  | true =>
    have s9:SlN h9 v8 (0::T[i]):=Sl.ext s8 x9 (Nat.le_refl _)
    have sb9:SlN h9 a (blkOf ns):=Sl.ext sb8 x9 (Nat.le_refl _)
    refine G.gcall 3 (by simp only[am,evOp,simprocAttr,e3]<;>rfl) rfl (by simp only[am,evOp,simprocAttr,e3]) (by simp only[am,evOp,simprocAttr,e3]<;>rfl) (turns_ok s9 sb9 (by simp only[List.length_cons]; omega) hTk2) fun r10 h10 hq=>?_
    obtain⟨rfl,rfl⟩:=hq
    cases ht:t1 ((0::T[i]).map (nth (blkOf ns))) with
    | true =>
      have hg:goodO (blkOf ns) ns.length T[i]=false:=by unfold goodO; rw[hk,ht]; rfl
      have hf:((T.take (i+1)).filter (goodO (blkOf ns) ns.length)).length=((T.take i).filter (goodO (blkOf ns) ns.length)).length:=by
       rw[hst,List.filter_append,List.filter_cons_of_neg (by simp [hg])]; simp
      refine G.run (by simp only[am,evOp,simprocAttr]<;>rfl) ?_
      exact W.no (by simp only[am,evOp,simprocAttr]) (W.skip ⟨(),jx9,_,(by simp only[am,evOp,simprocAttr,e10,wi]<;>rfl),by simp only[hl,am,evOp,simprocAttr,e0,e3,e9,e8,hf,ei]⟩)
    | false =>
      have hg:goodO (blkOf ns) ns.length T[i]=true:=by unfold goodO; rw[hk,ht]; rfl
      have hf:((T.take (i+1)).filter (goodO (blkOf ns) ns.length)).length=((T.take i).filter (goodO (blkOf ns) ns.length)).length+1:=by
       rw[hst,List.filter_append,List.filter_cons_of_pos hg,List.length_append]; simp
      have wc:IntKind.i64.wrap (((((T.take i).filter (goodO (blkOf ns) ns.length)).length:Nat):Int)+1)=((((T.take (i+1)).filter (goodO (blkOf ns) ns.length)).length:Nat):Int):=by rw[hf]; exact wr64 (by omega) (by omega)
      refine G.run (by simp only[am,evOp,simprocAttr]<;>rfl) ?_
      refine W.yes (by simp only[am,evOp,simprocAttr]) (W.run (by simp only[am,evOp,simprocAttr,e8,wc]<;>rfl) ?_)
      exact⟨(),jx9,_,(by simp only[am,evOp,simprocAttr,e10,wi]<;>rfl),by simp only[hl,am,evOp,simprocAttr,e0,e3,e9,ei]⟩
 clear e0 e3 e6 e7
 rintro _ ts h6 jx6 ⟨e0,e3,e9,e10,e8,-⟩
 simp only at e8
 rw[List.take_length] at e8
 refine W.seq (W.run (by simp only[am,evOp,simprocAttr,e8]<;>rfl) ?_)
 exact W.ret ⟨_,(by simp only[rs,rf10,am,evOp,simprocAttr]<;>rfl),rfl,jx.trans ((X5.trans (jx6.mono (by have:=X5.nx; omega))).mono n2)⟩
end Go.Proofs.YtahepnbflofndaaGreatDoor
