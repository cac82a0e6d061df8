/-
  CensusAround's law in the clean machine.
-/
import Derived.Test.YtahepnbflofndaaGreatDoorCRAro
import Derived.Test.YtahepnbflofndaaGreatDoorCNws
import Derived.Test.YtahepnbflofndaaGreatDoorCSu
import Derived.KernelRfl
set_option linter.all false
namespace Go.Proofs.YtahepnbflofndaaGreatDoor
open Go.Am
open Go.Aro (nth Most timesF reck numbers from1 aroundM)
def tab64:List Int:=[0,1,56,2,57,49,28,3,61,58,42,50,38,29,17,4,62,47,59,36,45,43,51,22,53,39,33,30,24,18,12,5,63,55,48,27,60,41,37,16,46,35,44,21,52,32,23,11,54,26,40,15,34,20,31,10,25,14,19,9,13,8,7,6]
def Z64:AH:=AH.zero.put 0 (.cells (tab64.map (AV.int .u8)) 1 true)
theorem suH0_eq:suH0=Z64.keep 1:=by kernel_rfl
theorem speaks_atZ {f:FuncId}{S0 Z:AH}{m:Nat} (hg:GoodS prg ⟨.call f [] S0,[]⟩) (hZ:Z.next=8) (hS:S0=Z.keep m) {os:List AO} (hl:os.length=m) (hm:0<m) :
 C prg f [] (news os Z) fun v h'=>v=.bool true∧8+m≤h'.next∧∀ b o,8≤b→(news os Z).get b=some o→h'.get b=some o:=by
 have he:news os Z=puts (zipN os 8) S0:=by
  rw[news_puts,hl,hS,hZ]
 have hfst:(zipN os 8).map (·.1)=List.range' 8 m:=by rw[zipN_fst,hl]
 have hmem:∀ b,b∈(zipN os 8).map (·.1)↔8≤b∧b<8+m:=fun b=>by
  rw[hfst,List.mem_range'_1]
 rw[he]
 refine (C.of_goodS hg (zipN os 8) (by rw[hfst]; exact List.nodup_range') (fun x hx=>?_)).mono fun v h' ⟨e1,e2⟩=>⟨e1,?_,fun b o h8 hb=>?_⟩
 ·have:=(hmem x.1).1 (List.mem_map.2 ⟨x,hx,rfl⟩)
  rw[hS,AH.keep_get,if_pos ⟨by omega,by omega⟩]
 ·have:=(e2 (8+m-1) ((hmem _).2 (by omega))).1
  omega
 ·have hbl:b<8+m:=by
   have:=AH.lt_of_get hb
   rw[puts_next,hS,AH.keep_next] at this
   omega
  rw[(e2 b ((hmem b).2 ⟨h8,hbl⟩)).2]
  exact hb
theorem numbers_in {ns:List Nat} (h1:∀ a∈ns,1≤a) (h2:ns.sum≤128) (hl:ns.length≤ns.sum):(∀ a∈numbers ns,1≤a∧a≤130)∧(numbers ns).length≤256:=by
 have hle:∀ a∈ns,a≤ns.sum:=by
  intro a ha
  clear h1 h2 hl
  induction ns with
  | nil=>cases ha
  | cons b l ih =>
    rw[List.sum_cons]
    rcases List.mem_cons.1 ha with rfl|ha
    ·omega
    ·have:=ih ha; omega
 unfold numbers
 split
 ·rename_i hq
  rw[foldl_sum,Nat.zero_add]
  constructor
  ·intro a ha
   rcases List.mem_append.1 ha with ha|ha
   ·have:=hle a ha
    exact⟨h1 a ha,by omega⟩
   ·have:=from1_in _ _ ha
    omega
  ·rw[List.length_append,from1_len]
   omega
 ·exact⟨fun a ha=>(by cases ha),Nat.zero_le _⟩
set_option maxHeartbeats 4000000 in
theorem aro_law {os:List AO}{v:AV}{xs:List Int} (hos:os.length=1) (hv:SlI (news os Z64) v xs) (hvb:∀ b o n c,v=.sl b o n c→8≤b):C prg 3 [v] (news os Z64) fun r _=>r=.bool true:=by
 have el:=hv.len
 rw[List.length_map] at el
 refine C.func pf3 ?_
 refine W.seq (W.run (by simp only[am,evOp,simprocAttr,initTm]<;>rfl) ?_)
 have hsp:=speaks_atZ (f:=8) su_good rfl suH0_eq hos (by decide)
 refine W.seq (W.seq (W.reg (G.callq (by simp only[am,evOp,simprocAttr]) (by simp only[am,evOp,simprocAttr]<;>rfl) (hsp) fun r h1 hq=>?_)))
 obtain⟨rfl,hn1,hk1⟩:=hq
 refine G.run (by simp only[am,evOp,simprocAttr]<;>rfl) ?_
 refine W.no (by simp only[am,evOp,simprocAttr]) (W.skip ?_)
 have hv1:SlI h1 v xs:=by
  rcases hv with hv|⟨b,o,c,cs,ro,q1,q2,q3⟩
  ·exact .inl hv
  ·exact .inr ⟨b,o,c,cs,ro,q1,hk1 _ _ (hvb b o _ c q1) q2,q3⟩
 clear hv hsp hk1
 by_cases q200:200<xs.length
 ·have c1:decide ((200:Int)<((xs.length:Nat):Int))=true:=decide_eq_true (by omega)
  refine W.seq (W.seq (W.run (by simp only[am,evOp,simprocAttr,initTm,el,c1]<;>rfl) ?_))
  refine W.yes (by simp only[am,evOp,simprocAttr]) (W.seq (W.run (by simp only[am,evOp,simprocAttr]<;>rfl) ?_))
  exact W.ret ⟨.bool true,(by simp only[rs,rf3,am,evOp,simprocAttr]<;>rfl),rfl⟩
 have c1:decide ((200:Int)<((xs.length:Nat):Int))=false:=decide_eq_false (by omega)
 refine W.seq (W.seq (W.run (by simp only[am,evOp,simprocAttr,initTm,el,c1]<;>rfl) ?_))
 refine W.no (by simp only[am,evOp,simprocAttr]) (W.skip ?_)
 refine W.seq (W.reg (G.gcall 1 (by simp only[am,evOp,simprocAttr,initTm]<;>rfl) rfl (by simp only[am,evOp,simprocAttr,initTm]) (by simp only[am,evOp,simprocAttr,initTm]<;>rfl) (caround_ok hv1 (by omega)) fun r h2 hq=>?_))
 obtain⟨x2,hbad,hgood⟩:=hq
 have hv2:SlI h2 v xs:=hv1.ext x2 (Nat.le_refl _)
 obtain⟨n,e,rfl⟩:∃ n e,r=.tup [.int .i64 n,.int .i64 e]:=by
  by_cases o:okA xs
  ·have:=hgood o
   split at this
   ·exact⟨_,_,this⟩
   ·exact⟨_,_,this⟩
  ·exact⟨_,_,hbad o⟩
 refine G.run (by simp only[am,evOp,simprocAttr]<;>rfl) ?_
 refine W.seq (W.run (by simp only[am,evOp,simprocAttr]<;>rfl) ?_)
 refine W.seq (W.seq (W.run (by simp only[am,evOp,simprocAttr,initTm,el]<;>rfl) ?_))
 refine W.rng (α:=Unit) (N:=xs.length) (fun k _=>[(0,v),(24,v),(3,.int .i64 n),(4,.int .i64 e),(5,.int .i64 (xs.take k).sum)]) (fun k _ h'=>h'=h2∧(∀ x∈xs.take k,1≤x)∧0≤(xs.take k).sum∧(xs.take k).sum≤128) () (fun _ _=>rfl) (by omega) (by simp only[hl,am,evOp,simprocAttr,initTm,List.take_zero,List.sum_nil])
  ⟨rfl,by simp,by simp,by simp⟩ ?_ ?_
 ·rintro k _ ts h3 hk ⟨rfl,j1,j2,j3⟩ ⟨e26,e25,e0,e24,e3,e4,e5,-⟩
  simp only at e26 e25 e0 e24 e3 e4 e5
  obtain⟨b1,p1,a1,r1,_⟩:=hv2.at1 (map_at (f:=eI) hk)
  have hst:xs.take (k+1)=xs.take k++[xs[k]]:=take_step (List.getElem?_eq_getElem hk)
  have hsum:(xs.take (k+1)).sum=(xs.take k).sum+xs[k]:=by rw[hst,List.sum_append]; simp
  have hnot:(xs[k]<1∨128-(xs.take k).sum<xs[k])→¬ okA xs:=fun q o=>by
   rcases q with q|q
   ·have:=o.1 _ (List.getElem_mem hk); omega
   ·have h1:=o.2
    have h2:0≤(xs.drop (k+1)).sum:=by
     have:∀ l:List Int,(∀ x∈l,1≤x)→0≤l.sum:=by
      intro l
      induction l with
      | nil=>intro _; simp
      | cons a l ih =>
        intro h
        have:=h a (List.mem_cons_self ..)
        have:=ih fun x hx=>h x (List.mem_cons_of_mem _ hx)
        rw[List.sum_cons]; omega
     exact this _ fun x hx=>o.1 x (List.mem_of_mem_drop hx)
    rw[← List.take_append_drop (k+1) xs,List.sum_append] at h1
    omega
  have w1:IntKind.i64.wrap (128-(xs.take k).sum)=128-(xs.take k).sum:=wr64 (by omega) (by omega)
  refine W.seq (W.run (by simp only[am,evOp,simprocAttr,e24,e26,a1,r1]<;>rfl) ?_)
  by_cases q1:xs[k]<1
  ·have hb:=hbad (hnot (.inl q1))
   simp only[AV.tup.injEq,List.cons.injEq,AV.int.injEq,true_and,and_true] at hb
   obtain⟨rfl,rfl⟩:=hb
   have c1:decide (xs[k]<1)=true:=decide_eq_true q1
   refine W.seq (W.seq (W.run (by simp only[am,evOp,simprocAttr,c1]<;>rfl) ?_))
   refine W.yes (by simp only[am,evOp,simprocAttr]) (W.seq (W.run (by simp only[am,evOp,simprocAttr,e3,e4,decide_true]<;>rfl) ?_))
   exact W.ret ⟨.bool true,(by simp only[rs,rf3,am,evOp,simprocAttr]<;>rfl),rfl⟩
  have c1:decide (xs[k]<1)=false:=decide_eq_false q1
  by_cases q2:128-(xs.take k).sum<xs[k]
  ·have hb:=hbad (hnot (.inr q2))
   simp only[AV.tup.injEq,List.cons.injEq,AV.int.injEq,true_and,and_true] at hb
   obtain⟨rfl,rfl⟩:=hb
   have c2:decide (128-(xs.take k).sum<xs[k])=true:=decide_eq_true q2
   refine W.seq (W.seq (W.run (by simp only[am,evOp,simprocAttr,c1,e5,w1,c2]<;>rfl) ?_))
   refine W.yes (by simp only[am,evOp,simprocAttr]) (W.seq (W.run (by simp only[am,evOp,simprocAttr,e3,e4,decide_true]<;>rfl) ?_))
   exact W.ret ⟨.bool true,(by simp only[rs,rf3,am,evOp,simprocAttr]<;>rfl),rfl⟩
  have c2:decide (128-(xs.take k).sum<xs[k])=false:=decide_eq_false q2
  have w2:IntKind.i64.wrap ((xs.take k).sum+xs[k])=(xs.take k).sum+xs[k]:=wr64 (by omega) (by omega)
  refine W.seq (W.seq (W.run (by simp only[am,evOp,simprocAttr,c1,e5,w1,c2]<;>rfl) ?_))
  refine W.no (by simp only[am,evOp,simprocAttr]) (W.skip (W.run (by simp only[am,evOp,simprocAttr,e5,w2]<;>rfl) ?_))
  refine⟨(),⟨rfl,fun x hx=>?_,by omega,by omega⟩,by simp only[hl,am,evOp,simprocAttr,e26,e25,e0,e24,e3,e4,hsum]⟩
  rw[hst] at hx
  rcases List.mem_append.1 hx with hx|hx
  ·exact j1 x hx
  ·simp only[List.mem_cons,List.not_mem_nil,or_false] at hx
   rw[hx]; omega
 rintro _ ts h3 ⟨rfl,j1,j2,j3⟩ ⟨e0,e24,e3,e4,e5,-⟩
 simp only at e0 e3 e4 e5
 rw[List.take_length] at j1 j2 j3 e5
 have hok:okA xs:=⟨j1,j3⟩
 have hg:=hgood hok
 have hmap:(xs.map Int.toNat).map (fun n=>((n:Nat):Int))=xs:=by
  rw[List.map_map]
  conv=>rhs; rw[← List.map_id xs]
  exact List.map_congr_left fun x hx=>by have:=j1 x hx; show ((x.toNat:Nat):Int)=x; omega
 have hs1:∀ l:List Int,(∀ x∈l,1≤x)→(((l.map Int.toNat).sum:Nat):Int)=l.sum:=by
  intro l
  induction l with
  | nil=>intro _; simp
  | cons a l ih =>
    intro h
    have h1:=h a (List.mem_cons_self ..)
    have h2:=ih fun x hx=>h x (List.mem_cons_of_mem _ hx)
    rw[List.map_cons,List.sum_cons,List.sum_cons]
    omega
 have hsum:=hs1 xs j1
 have hlx:(xs.map Int.toNat).length=xs.length:=List.length_map ..
 have hn1:∀ a∈xs.map Int.toNat,1≤a:=fun a ha=>by
  obtain⟨x,hx,rfl⟩:=List.mem_map.1 ha
  have:=j1 x hx
  omega
 have hsv:SlN h3 v (xs.map Int.toNat):=by show SlI h3 v _; rw[hmap]; exact hv2
 rw[← hsum] at e5 j2 j3
 rw[← hlx] at el
 generalize xs.map Int.toNat=ns at *
 have hnl:ns.length≤ns.sum:=by
  have:∀ l:List Nat,(∀ x∈l,1≤x)→l.length≤l.sum:=by
   intro l
   induction l with
   | nil=>intro _; simp
   | cons a l ih =>
     intro h
     have:=h a (List.mem_cons_self ..)
     have:=ih fun x hx=>h x (List.mem_cons_of_mem _ hx)
     rw[List.sum_cons,List.length_cons]; omega
  exact this ns hn1
 by_cases q7:ns.sum≤7
 ·have ha:=Go.Aro.around_eq hn1 q7
  rw[ha] at hg
  simp only[Bool.false_eq_true,if_false,AV.tup.injEq,List.cons.injEq,AV.int.injEq,true_and,and_true] at hg
  obtain⟨rfl,rfl⟩:=hg
  have c7:decide (((ns.sum:Nat):Int)≤7)=true:=decide_eq_true (by omega)
  refine W.seq (W.seq (W.run (by simp only[am,evOp,simprocAttr,e5,c7]<;>rfl) ?_))
  refine W.yes (by simp only[am,evOp,simprocAttr]) (W.seq (W.reg (G.gcall 5 (by simp only[am,evOp,simprocAttr,e0,e3,e4,decide_true]<;>rfl) rfl (by simp only[am,evOp,simprocAttr,e0,e3,e4,decide_true]) (by simp only[am,evOp,simprocAttr,e0,e3,e4,decide_true]<;>rfl) (raround_ok hsv hn1 q7) fun r h4 hq=>?_)))
  obtain⟨rfl,x4⟩:=hq
  refine G.run (by simp only[am,evOp,simprocAttr,decide_true]<;>rfl) ?_
  exact W.ret ⟨.bool true,(by simp only[rs,rf3,am,evOp,simprocAttr]<;>rfl),rfl⟩
 have c7:decide (((ns.sum:Nat):Int)≤7)=false:=decide_eq_false (by omega)
 refine W.seq (W.seq (W.run (by simp only[am,evOp,simprocAttr,e5,c7]<;>rfl) ?_))
 refine W.no (by simp only[am,evOp,simprocAttr]) (W.skip ?_)
 refine W.seq (W.run (by simp only[am,evOp,simprocAttr]<;>rfl) ?_)
 have x4:Ext h3.next h3 (h3.new (.cells [] 1 false)):=Ext.new (Nat.le_refl _)
 have g4:(h3.new (.cells [] 1 false)).get h3.next=some (.cells [] 1 false):=by rw[AH.get_new,if_pos rfl]
 have n4:(h3.new (.cells [] 1 false)).next=h3.next+1:=rfl
 refine W.seq (W.run (by simp only[am,evOp,simprocAttr]<;>rfl) ?_)
 generalize (h3.new (.cells [] 1 false))=h4 at *
 obtain⟨hni,hnlen⟩:=numbers_in hn1 (by omega) hnl
 refine W.seq (W.cut (fun ts h5=>∃ a,IsSl h5 1 h3.next a (nC (numbers ns))∧Ext h3.next h3 h5∧Held [(0,v),(3,.int .i64 n),(4,.int .i64 e),(10,a),(8,.int .i64 1),(9,.bool false)] ts) ?_ ?_)
 ·refine W.seq (W.run (by simp only[am,evOp,simprocAttr,e0,el]<;>rfl) ?_)
  have i4:IsSl h4 1 h3.next (.sl h3.next 0 0 0) []:=.inr ⟨h3.next,0,Nat.le_refl _,rfl,g4,rfl⟩
  refine W.cond (t:=decide (1<ns.length)) (by simp only[am,evOp,simprocAttr]; exact congrArg AV.bool (by simp only[decide_eq_decide]; omega)) (fun q=>?_) fun q=>?_
  ·have q:1<ns.length:=of_decide_eq_true q
   have hnum:numbers ns=ns++from1 (ns.sum-ns.length+2) (ns.length-2):=by
    unfold numbers
    rw[if_pos q,foldl_sum,Nat.zero_add]
   have hsv4:SlN h4 v ns:=Sl.ext hsv x4 (Nat.le_refl _)
   obtain⟨v5,h5,a5,i5,x5,n5,_⟩:=apps (bytes:=8) i4 (by omega) (by omega) hsv4 (ones_nC _) (by simp only[List.length_nil,Nat.zero_div,List.length_map]; unfold tooMany; omega) (by simp only[List.length_nil,Nat.zero_div,List.length_map]; unfold tooMany; omega)
   rw[flat_nC,List.nil_append] at i5
   refine W.seq (W.run (by simp only[am,evOp,simprocAttr,e0,a5]<;>rfl) ?_)
   have w5:IntKind.i64.wrap (((ns.sum:Nat):Int)-((ns.length:Nat):Int))=((ns.sum-ns.length:Nat):Int):=by rw[wr64 (by omega) (by omega)]; omega
   have w6:IntKind.i64.wrap (((ns.sum-ns.length:Nat):Int)+2)=((ns.sum-ns.length+2:Nat):Int):=by rw[wr64 (by omega) (by omega)]; omega
   refine W.seq (W.run (by simp only[am,evOp,simprocAttr,e0,e5,el,w5,w6]<;>rfl) ?_)
   refine W.whl (α:=AV) (N:=ns.length-2) (fun k a=>[(0,v),(3,.int .i64 n),(4,.int .i64 e),(5,.int .i64 (ns.sum:Nat)),(10,a),(8,.int .i64 1),(9,.bool false),(11,.int .i64 ((ns.sum-ns.length+2+k:Nat):Int))])
    (fun k a h'=>IsSl h' 1 h3.next a (nC (ns++from1 (ns.sum-ns.length+2) k))∧Ext h3.next h3 h') v5 (by simp only[hl,am,evOp,simprocAttr,e0,e3,e4,e5,Nat.add_zero]) ⟨by simpa [from1] using i5,x4.trans (x5.mono (Nat.le_refl _))⟩ ?_ ?_ ?_
   ·clear e0 e24 e3 e4 e5
    rintro k a ts h6 hk _ ⟨e0,e3,e4,e5,e10,e8,e9,e11,-⟩
    simp only at e0 e3 e4 e5 e10 e8 e9 e11
    have c:decide (((ns.sum-ns.length+2+k:Nat):Int)<((ns.sum:Nat):Int))=decide (k<ns.length-2):=by simp only[decide_eq_decide]; omega
    exact⟨_,(by simp only[am,evOp,simprocAttr,e5,e11,c]<;>rfl),by simp only[am,evOp,simprocAttr],by simp only[hl,am,evOp,simprocAttr,e0,e3,e4,e5,e10,e8,e9,e11]⟩
   ·clear e0 e24 e3 e4 e5
    rintro k a ts h6 hk ⟨k1,kx⟩ ⟨e0,e3,e4,e5,e10,e8,e9,e11,-⟩
    simp only at e0 e3 e4 e5 e10 e8 e9 e11
    have wi:IntKind.i64.wrap (((ns.sum-ns.length+2+k:Nat):Int)+1)=((ns.sum-ns.length+2+(k+1):Nat):Int):=wr64 (by omega) (by omega)
    obtain⟨s',h7,a7,i7,x7,n7⟩:=k1.push (bytes:=8) [.int .i64 ((ns.sum-ns.length+2+k:Nat):Int)] kx.nx (by omega) rfl rfl (by rw[nC_len,List.length_append,from1_len,Nat.div_one]; unfold tooMany; omega) (by rw[nC_len,List.length_append,from1_len,Nat.div_one]; unfold tooMany; omega)
    refine W.run (by simp only[am,evOp,simprocAttr,e10,e11,a7]<;>rfl) ?_
    refine⟨s',⟨?_,kx.trans x7⟩,_,(by simp only[am,evOp,simprocAttr,e11,wi]<;>rfl),by simp only[hl,am,evOp,simprocAttr,e0,e3,e4,e5,e8,e9]⟩
    rw[from1_step,← List.append_assoc,nC_app]
    exact i7
   ·clear e0 e24 e3 e4 e5
    rintro a ts h6 ⟨k1,kx⟩ ⟨e0,e3,e4,e5,e10,e8,e9,e11,-⟩
    simp only at e0 e3 e4 e10 e8 e9
    rw[← hnum] at k1
    exact⟨a,k1,kx,by simp only[hl,am,evOp,simprocAttr,e0,e3,e4,e10,e8,e9]⟩
  ·have q:¬ 1<ns.length:=of_decide_eq_false q
   have hnum:numbers ns=[]:=by unfold numbers; rw[if_neg q]
   exact W.skip ⟨.sl h3.next 0 0 0,by rw[hnum]; exact i4,x4,by simp only[hl,am,evOp,simprocAttr,e0,e3,e4]⟩
 clear e0 e24 e3 e4 e5
 rintro ts h5 ⟨a,i5,x5,e0,e3,e4,e10,e8,e9,-⟩
 simp only at e0 e3 e4 e10 e8 e9
 have sn:=nC_sl i5
 have ln:=Sl.len sn
 rw[List.length_map,List.length_map] at ln
 generalize numbers ns=M at *
 refine W.seq ?_
 refine W.seq (W.run (by simp only[am,evOp,simprocAttr,e10,ln]<;>rfl) ?_)
 refine W.rng (α:=Unit) (N:=M.length) (fun k _=>[(79,a),(3,.int .i64 n),(4,.int .i64 e),(8,.int .i64 ((reck (M.take k)).1:Nat)),(9,.bool (reck (M.take k)).2)]) (fun k _ h'=>h'=h5∧1≤(reck (M.take k)).1∧(reck (M.take k)).1≤Most) () (fun _ _=>rfl) (by omega) (by simp only[held_cons,held_nil,am,evOp,simprocAttr,e3,e4,e8,e9,List.take_zero]; exact⟨rfl,rfl⟩)
  ⟨rfl,(by rw[List.take_zero]; decide),(by rw[List.take_zero]; decide)⟩ ?_ ?_
 ·clear e0 e3 e4 e10 e8 e9
  rintro k _ ts h6 hk ⟨rfl,j1,j2⟩ ⟨e81,e80,e79,e3,e4,e8,e9,-⟩
  simp only at e81 e80 e79 e3 e4 e8 e9
  obtain⟨b1,p1,a1,r1⟩:=sn.at hk
  obtain⟨hm1,hm2⟩:=hni _ (nth_mem M k hk)
  have hst:M.take (k+1)=M.take k++[nth M k]:=take_step (nth_get M k hk)
  have hrk:=reck_step (M.take k) (nth M k)
  rw[← hst] at hrk
  generalize nth M k=y at *
  generalize hS:reck (M.take k)=S at *
  obtain⟨w,o⟩:=S
  simp only at e8 e9 j1 j2
  have hq:IntKind.i64.wrap ((1000000000000000:Int).tdiv ((y:Nat):Int))=((Most / y:Nat):Int):=quo_nat (n:=1000000000000000) (by decide)
  have hy0:((y:Nat):Int)≠0:=by omega
  have hMost:Most=1000000000000000:=rfl
  refine W.seq (W.run (by simp only[am,evOp,simprocAttr,e79,e81,a1,r1]<;>rfl) ?_)
  cases o with
  | true =>
    have et:timesF (w,true) y=(w,true):=rfl
    rw[et] at hrk
    refine W.seq (W.seq (W.run (by simp only[am,evOp,simprocAttr,e9]<;>rfl) ?_))
    refine W.yes (by simp only[am,evOp,simprocAttr]) (W.seq (W.run (by simp only[am,evOp,simprocAttr]<;>rfl) ?_))
    refine W.exit ⟨fun _=>⟨(),⟨rfl,by rw[hrk]; exact j1,by rw[hrk]; exact j2⟩,by simp only[hl,am,evOp,simprocAttr,e81,e80,e79,e3,e4,e8,hrk]⟩,fun q=>absurd rfl q⟩
  | false =>
    by_cases q:Most / y<w
    ·have c3:decide (((Most / y:Nat):Int)<((w:Nat):Int))=true:=decide_eq_true (by omega)
     have et:timesF (w,false) y=(w,true):=by
      unfold timesF
      have:Nat.blt (Most / y) w=true:=Nat.ble_eq_true_of_le q
      simp only[this,Bool.or_true,cond_true]
     rw[et] at hrk
     refine W.seq (W.seq (W.run (by simp only[am,evOp,simprocAttr,e9,e8,if_neg hy0,hq,c3]<;>rfl) ?_))
     refine W.yes (by simp only[am,evOp,simprocAttr]) (W.seq (W.run (by simp only[am,evOp,simprocAttr]<;>rfl) ?_))
     refine W.exit ⟨fun _=>⟨(),⟨rfl,by rw[hrk]; exact j1,by rw[hrk]; exact j2⟩,by simp only[hl,am,evOp,simprocAttr,e81,e80,e79,e3,e4,e8,hrk]⟩,fun q=>absurd rfl q⟩
    ·have c3:decide (((Most / y:Nat):Int)<((w:Nat):Int))=false:=decide_eq_false (by omega)
     have et:timesF (w,false) y=(w*y,false):=by
      unfold timesF
      have:Nat.blt (Most / y) w=false:=by
       cases hb:Nat.blt (Most / y) w with
       | false=>rfl
       | true=>exact absurd (Nat.le_of_ble_eq_true hb) q
      simp only[this,Bool.or_false,cond_false]
     rw[et] at hrk
     have hle:w*y≤Most:=(Nat.le_div_iff_mul_le (by omega)).1 (by omega)
     have hpos:1≤w*y:=Nat.mul_pos j1 hm1
     have wm:IntKind.i64.wrap (((w:Nat):Int)*((y:Nat):Int))=((w*y:Nat):Int):=by rw[← Int.natCast_mul,wr64 (by omega) (by omega)]
     refine W.seq (W.seq (W.run (by simp only[am,evOp,simprocAttr,e9,e8,if_neg hy0,hq,c3]<;>rfl) ?_))
     refine W.no (by simp only[am,evOp,simprocAttr]) (W.skip (W.run (by simp only[am,evOp,simprocAttr,e8,wm]<;>rfl) ?_))
     exact⟨(),⟨rfl,by rw[hrk]; exact hpos,by rw[hrk]; exact hle⟩,by simp only[hl,am,evOp,simprocAttr,e81,e80,e79,e3,e4,e9,hrk]⟩
 clear e0 e3 e4 e10 e8 e9
 rintro _ ts h6 ⟨rfl,_,_⟩ ⟨e79,e3,e4,e8,e9,-⟩
 simp only at e3 e4 e8 e9
 rw[List.take_length] at e8 e9
 generalize reck M=S at *
 obtain⟨w,o⟩:=S
 simp only at e8 e9 hg
 cases o with
 | true =>
   simp only[if_true,AV.tup.injEq,List.cons.injEq,AV.int.injEq,true_and,and_true] at hg
   obtain⟨rfl,rfl⟩:=hg
   refine W.seq (W.seq (W.run (by simp only[am,evOp,simprocAttr,e9]<;>rfl) ?_))
   refine W.yes (by simp only[am,evOp,simprocAttr]) (W.seq (W.run (by simp only[am,evOp,simprocAttr,e3,e4,decide_true]<;>rfl) ?_))
   exact W.ret ⟨.bool true,(by simp only[rs,rf3,am,evOp,simprocAttr]<;>rfl),rfl⟩
 | false =>
   simp only[Bool.false_eq_true,if_false,AV.tup.injEq,List.cons.injEq,AV.int.injEq,true_and,and_true] at hg
   obtain⟨rfl,rfl⟩:=hg
   refine W.seq (W.seq (W.run (by simp only[am,evOp,simprocAttr,e9]<;>rfl) ?_))
   refine W.no (by simp only[am,evOp,simprocAttr]) (W.skip (W.seq (W.run (by simp only[am,evOp,simprocAttr,e3,e4,e8,decide_true]<;>rfl) ?_)))
   exact W.ret ⟨.bool true,(by simp only[rs,rf3,am,evOp,simprocAttr]<;>rfl),rfl⟩
end Go.Proofs.YtahepnbflofndaaGreatDoor
