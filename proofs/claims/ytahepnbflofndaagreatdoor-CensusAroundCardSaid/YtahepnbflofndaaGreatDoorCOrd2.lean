/-
  arborref09.Orders, walked through.
-/
import Derived.Test.YtahepnbflofndaaGreatDoorCOrd
set_option linter.all false
namespace Go.Proofs.YtahepnbflofndaaGreatDoor
open Go.Am
open Go.Aro (nth orders picks)
theorem LL.cong {h h':AH}{lo:Nat}{a:AV}{xss:List (List Nat)} (hl:LL h lo a xss) (hk:∀ c,lo≤c→c<h.next→h'.get c=h.get c):LL h' lo a xss:=by
 obtain⟨vs,h1,h2,h3⟩:=hl
 exact⟨vs,h1.cong fun b n e hb=>hk b hb (h1.lt e),h2,fun i v xs q1 q2=>⟨(h3 i v xs q1 q2).1.cong fun b n e hb=>hk b hb ((h3 i v xs q1 q2).1.lt e),(h3 i v xs q1 q2).2⟩⟩
theorem LL.lt {h:AH}{lo:Nat}{a:AV}{xss:List (List Nat)} (hl:LL h lo a xss) {b n:Nat} (e:a=.sl b 0 n n):b<h.next:=by
 obtain⟨vs,h1,_⟩:=hl
 exact h1.lt e
theorem slV_cong {h h':AH}{e:Nat}{v:AV}{lo hi mx:Option AV} (hk:∀ b o n c,v=.sl b o n c→h'.get b=h.get b):slV h' e v lo hi mx=slV h e v lo hi mx:=by
 cases v with
 | sl b o n c=>simp only[slV,hk b o n c rfl]
 | _=>rfl
theorem same_slice {h:AH}{e:Nat}{v:AV}{xs:List (List AV)} (hs:Sl h e v xs):AV.same v v=true:=by
 rcases hs with ⟨_,rfl|rfl⟩|⟨b,o,c,cs,ro,rfl,_⟩
 ·rfl
 ·rfl
 ·exact same_sl
theorem flat_nC (l:List Nat):((l.map fun n=>((n:Nat):Int)).map eI).flatten=nC l:=by
 unfold nC
 rw[List.flatMap_def]
theorem ones_nC (l:List Nat):((l.map fun n=>((n:Nat):Int)).map eI).flatten.all AV.one=true:=by
 rw[flat_nC]
 unfold nC
 rw[List.all_eq_true]
 intro x hx
 obtain⟨y,_,hy⟩:=List.mem_flatMap.1 hx
 simp only[eI,List.mem_cons,List.not_mem_nil,or_false] at hy
 rw[hy]; rfl
set_option maxHeartbeats 4000000 in
theorem orders_ok:∀ (f:Nat) {h:AH}{v:AV}{l:List Nat},f≤7→l.length≤f→SlN h v l→C prg 36 [v] h fun r h'=>LL h' h.next r (orders f l)∧Ext h.next h h':=by
 intro f
 induction f with
 | zero =>
   intro h v l hf hll hv
   have hl0:l=[]:=List.length_eq_zero_iff.1 (by omega)
   subst hl0
   have el:=Sl.len hv
   simp only[List.map_nil,List.length_nil] at el
   refine C.func pf36 ?_
   refine W.seq (W.run (by simp only[am,evOp,simprocAttr,initTm]<;>rfl) ?_)
   refine W.seq (W.seq (W.run (by simp only[am,evOp,simprocAttr,initTm,el,Int.natCast_zero,decide_true]<;>rfl) ?_))
   have x1:Ext h.next h (h.new (.cells [] 1 false)):=Ext.new (Nat.le_refl _)
   have g1:(h.new (.cells [] 1 false)).get h.next=some (.cells [] 1 false):=by rw[AH.get_new,if_pos rfl]
   have n1:(h.new (.cells [] 1 false)).next=h.next+1:=rfl
   refine W.yes (by simp only[am,evOp,simprocAttr]) (W.seq (W.run (by simp only[am,evOp,simprocAttr]<;>rfl) ?_))
   refine W.ret ⟨.sl (h.next+1) 0 1 1,(by simp only[rs,rf36,am,evOp,simprocAttr]<;>rfl),?_,x1.trans ((Ext.new (Nat.le_refl _)).mono (by omega))⟩
   refine⟨[.sl h.next 0 0 0],.inr ⟨h.next+1,1,by omega,rfl,by rw[AH.get_new,if_pos n1.symm],rfl⟩,rfl,fun i w xs e1 e2=>?_⟩
   cases i with
   | zero =>
     cases e1
     cases e2
     exact⟨.inr ⟨h.next,0,Nat.le_refl _,rfl,by rw[AH.get_new,if_neg (by omega)]; exact g1,rfl⟩,fun b n b' n' q1 q2=>by cases q1; cases q2; omega⟩
   | succ i=>simp at e1
 | succ f ih =>
   intro h v l hf hll hv
   have el:=Sl.len hv
   rw[List.length_map,List.length_map] at el
   refine C.func pf36 ?_
   refine W.seq (W.run (by simp only[am,evOp,simprocAttr,initTm]<;>rfl) ?_)
   by_cases hl0:l=[]
   ·subst hl0
    simp only[List.length_nil] at el
    refine W.seq (W.seq (W.run (by simp only[am,evOp,simprocAttr,initTm,el,Int.natCast_zero,decide_true]<;>rfl) ?_))
    have x1:Ext h.next h (h.new (.cells [] 1 false)):=Ext.new (Nat.le_refl _)
    have g1:(h.new (.cells [] 1 false)).get h.next=some (.cells [] 1 false):=by rw[AH.get_new,if_pos rfl]
    have n1:(h.new (.cells [] 1 false)).next=h.next+1:=rfl
    refine W.yes (by simp only[am,evOp,simprocAttr]) (W.seq (W.run (by simp only[am,evOp,simprocAttr]<;>rfl) ?_))
    refine W.ret ⟨.sl (h.next+1) 0 1 1,(by simp only[rs,rf36,am,evOp,simprocAttr]<;>rfl),?_,x1.trans ((Ext.new (Nat.le_refl _)).mono (by omega))⟩
    refine⟨[.sl h.next 0 0 0],.inr ⟨h.next+1,1,by omega,rfl,by rw[AH.get_new,if_pos n1.symm],rfl⟩,rfl,fun i w xs e1 e2=>?_⟩
    cases i with
    | zero =>
      cases e1
      cases e2
      exact⟨.inr ⟨h.next,0,Nat.le_refl _,rfl,by rw[AH.get_new,if_neg (by omega)]; exact g1,rfl⟩,fun b n b' n' q1 q2=>by cases q1; cases q2; omega⟩
    | succ i=>simp at e1
   have hpos:0<l.length:=List.length_pos_iff.2 hl0
   have c0:decide (((l.length:Nat):Int)=0)=false:=decide_eq_false (by omega)
   refine W.seq (W.seq (W.run (by simp only[am,evOp,simprocAttr,initTm,el,c0]<;>rfl) ?_))
   refine W.no (by simp only[am,evOp,simprocAttr]) (W.skip ?_)
   have x1:Ext h.next h (h.new (.cells [] 1 false)):=Ext.new (Nat.le_refl _)
   have g1:(h.new (.cells [] 1 false)).get h.next=some (.cells [] 1 false):=by rw[AH.get_new,if_pos rfl]
   have n1:(h.new (.cells [] 1 false)).next=h.next+1:=rfl
   refine W.seq (W.run (by simp only[am,evOp,simprocAttr]<;>rfl) ?_)
   generalize (h.new (.cells [] 1 false))=h1 at *
   have hB:∀ i,i<l.length→(orders f (l.take i++l.drop (i+1))).length≤8 ^ 7:=fun i hi=>by
    have hl:(l.take i++l.drop (i+1)).length=l.length-1:=by rw[List.length_append,List.length_take,List.length_drop]; omega
    exact Nat.le_trans (orders_len f _ (by omega) (by rw[hl]; omega)) (pow_le (by rw[hl]; omega))
   refine W.seq (W.seq (W.run (by simp only[am,evOp,simprocAttr]<;>rfl) ?_))
   refine W.whl (α:=AV) (N:=l.length) (fun i a=>[(0,v),(3,a),(4,.int .i64 (i:Nat))]) (fun i a h'=>LL h' h.next a (outK f l i)∧Ext h.next h h') (.sl h.next 0 0 0) (by simp only[hl,am,evOp,simprocAttr,initTm,Int.natCast_zero])
    ⟨⟨[],.inr ⟨h.next,0,Nat.le_refl _,rfl,g1,rfl⟩,rfl,fun i w xs e1=>by simp at e1⟩,x1⟩ ?_ ?_ ?_
   ·rintro i a ts h2 hi _ ⟨e0,e3,e4,-⟩
    simp only at e0 e3 e4
    exact⟨_,(by simp only[am,evOp,simprocAttr,e0,e4,el,Int.ofNat_lt]<;>rfl),by simp only[am,evOp,simprocAttr],by simp only[hl,am,evOp,simprocAttr,e0,e3,e4]⟩
   ·rintro i a ts h2 hi ⟨j1,jx⟩ ⟨e0,e3,e4,-⟩
    simp only at e0 e3 e4
    have n2:=jx.nx
    have wi:IntKind.i64.wrap (((i:Nat):Int)+1)=((i+1:Nat):Int):=wr64 (by omega) (by omega)
    have hv2:SlN h2 v l:=hv.ext jx (Nat.le_refl _)
    obtain⟨w1,s1,s2,_⟩:=hv2.upto (hi:=i) (by rw[List.length_map,List.length_map]; omega)
    obtain⟨w2,s3,s4,_⟩:=hv2.from (lo:=i+1) (by rw[List.length_map,List.length_map]; omega)
    rw[← List.map_take,← List.map_take] at s2
    rw[← List.map_drop,← List.map_drop] at s4
    have hkK:∀ c,c<h2.next→(h2.keep 1).get c=h2.get c:=fun c hc=>by rw[AH.keep_get,if_neg (by omega)]
    have q7:(h2.keep 1).get h2.next=some .resv:=keep1_get
    obtain⟨p1',p2,p3,p4⟩:=keep1_put (h:=h2) (o:=.cells [] 1 false)
    have s1K:slV (h2.keep 1) 1 v none (some (.int .i64 ((i:Nat):Int))) none=some w1:=by rw[← s1]; exact slV_cong fun b o n c e=>hkK b (hv2.lt e)
    have s3K:slV (h2.keep 1) 1 v (some (.int .i64 ((i+1:Nat):Int))) none none=some w2:=by rw[← s3]; exact slV_cong fun b o n c e=>hkK b (hv2.lt e)
    have i1:IsSl ((h2.keep 1).put h2.next (.cells [] 1 false)) 1 h2.next (.sl h2.next 0 0 0) []:=.inr ⟨h2.next,0,Nat.le_refl _,rfl,p2,rfl⟩
    obtain⟨v1,h3,a3,i3,x3,n3,k3⟩:=apps (bytes:=8) i1 (by rw[p3]; omega) (by omega) (s2.ext p1' (Nat.le_refl _)) (ones_nC _) (by simp only[List.length_nil,Nat.zero_div,List.length_map,List.length_take]; unfold tooMany; omega) (by simp only[List.length_nil,Nat.zero_div,List.length_map,List.length_take]; unfold tooMany; omega)
    rw[flat_nC,List.nil_append] at i3
    rw[p3] at n3
    have X3:Ext h2.next h2 h3:=p1'.trans x3
    have s3':slV h3 1 v (some (.int .i64 ((i+1:Nat):Int))) none none=some w2:=by rw[← s3]; exact slV_cong fun b o n c e=>X3.gt b (hv2.lt e)
    have s43:Sl h3 1 w2 (((l.drop (i+1)).map fun n=>((n:Nat):Int)).map eI):=s4.ext X3 (Nat.le_refl _)
    obtain⟨v2,h4,a4,i4,x4,n4,k4⟩:=apps (bytes:=8) i3 (by omega) (by omega) s43 (ones_nC _) (by rw[nC_len]; simp only[List.length_map,List.length_take,List.length_drop]; unfold tooMany; omega) (by rw[nC_len]; simp only[List.length_map,List.length_take,List.length_drop]; unfold tooMany; omega)
    rw[flat_nC,← nC_app] at i4
    have hss:=same_slice s4
    have X4:Ext h2.next h2 h4:=X3.trans x4
    refine W.seq (W.runK (by simp only[am,evOp,simprocAttr,e0,e4,slLA_eq,Option.map_none,s1K,s3K,s3',wi,evN_some,evNew_mksl q7,a3,a4,hss]<;>rfl) ?_)
    have hcall:=ih (h:=h4) (v:=v2) (l:=l.take i++l.drop (i+1)) (by omega) (by rw[List.length_append,List.length_take,List.length_drop]; omega) (nC_sl i4)
    refine W.seq (W.reg (G.gcall 1 (by simp only[am,evOp,simprocAttr]<;>rfl) rfl (by simp only[am,evOp,simprocAttr]) (by simp only[am,evOp,simprocAttr]<;>rfl) (hcall) fun r h5 hq=>?_))
    obtain⟨t5,x5⟩:=hq
    refine G.run (by simp only[am,evOp,simprocAttr]<;>rfl) ?_
    have n4':=X4.nx
    have n5:=x5.nx
    have X5:Ext h2.next h2 h5:=X4.trans (x5.mono (by omega))
    have hBi:=hB i hi
    generalize hT:orders f (l.take i++l.drop (i+1))=T at *
    have hTin:∀ x∈T,x.length≤7:=fun x hx=>by rw[← hT] at hx; have:=orders_in f _ x hx; omega
    have hOut:(outK f l i).length≤7*8 ^ 7:=Nat.le_trans (outK_len f l (8 ^ 7) hB i (by omega)) (Nat.mul_le_mul_right _ (by omega))
    have j5:LL h5 h.next a (outK f l i):=j1.ext X5 (Nat.le_refl _)
    have lT:=t5.len
    refine W.seq (W.seq (W.run (by simp only[am,evOp,simprocAttr]<;>rfl) ?_))
    refine W.whl (α:=AV) (N:=T.length) (fun k b=>[(0,v),(3,b),(4,.int .i64 (i:Nat)),(6,r),(7,.int .i64 (k:Nat))])
     (fun k b h'=>LL h' h.next b (outK f l i++(T.take k).map (nth l i::·))∧Ext h.next h h'∧(∀ c,h4.next≤c→c<h5.next→h'.get c=h5.get c)∧h5.next≤h'.next∧∀ c n,b=.sl c 0 n n→c<h4.next∨h5.next≤c) a (by simp only[hl,am,evOp,simprocAttr,e0,e3,e4,Int.natCast_zero])
     ⟨by simpa using j5,jx.trans (X5.mono n2),fun _ _ _=>rfl,Nat.le_refl _,fun c n e=>by have:=j1.lt e; omega⟩ ?_ ?_ ?_
    ·clear e0 e3 e4
     rintro k b ts h6 hk _ ⟨e0,e3,e4,e6,e7,-⟩
     simp only at e0 e3 e4 e6 e7
     exact⟨_,(by simp only[am,evOp,simprocAttr,e6,e7,lT,Int.ofNat_lt]<;>rfl),by simp only[am,evOp,simprocAttr],by simp only[hl,am,evOp,simprocAttr,e0,e3,e4,e6,e7]⟩
    ·clear e0 e3 e4
     rintro k b ts h6 hk ⟨k1,kx,kf,kn,kb⟩ ⟨e0,e3,e4,e6,e7,-⟩
     simp only at e0 e3 e4 e6 e7
     have wk:IntKind.i64.wrap (((k:Nat):Int)+1)=((k+1:Nat):Int):=wr64 (by omega) (by omega)
     have ek:((k:Nat):Int)+1=((k+1:Nat):Int):=rfl
     have t6:LL h6 h4.next r T:=t5.cong kf
     have hv6:SlN h6 v l:=hv.ext kx (Nat.le_refl _)
     have hkK:∀ c,c<h6.next→(h6.keep 2).get c=h6.get c:=fun c hc=>by rw[AH.keep_get,if_neg (by omega)]
     have q7:(h6.keep 2).get h6.next=some .resv:=by rw[AH.keep_get,if_pos ⟨by omega,by omega⟩]
     have q8:(h6.keep 2).get (h6.next+1)=some .resv:=by rw[AH.keep_get,if_pos ⟨by omega,by omega⟩]
     have nK:(h6.keep 2).next=h6.next+2:=AH.keep_next 2 h6
     obtain⟨b1,p1,a1,r1,l1⟩:=Sl.at1 hv6 (i:=i) (y:=.int .i64 (nth l i:Nat)) (by rw[List.getElem?_map,List.getElem?_map,nth_get l i hi]; rfl)
     obtain⟨b2,p2',w,a2,r2,i6,l2⟩:=t6.at hk
     have r1K:rdCells (h6.keep 2) b1 p1 1=some [.int .i64 (nth l i:Nat)]:=by rw[rdCells_eq (hkK _ l1)]; exact r1
     have r2K:rdCells (h6.keep 2) b2 p2' 1=some [w]:=by rw[rdCells_eq (hkK _ l2)]; exact r2
     have u7:=Upd.put (o:=.cells [.int .i64 (nth l i:Nat)] 1 false) q7
     have i7:IsSl ((h6.keep 2).put h6.next (.cells [.int .i64 (nth l i:Nat)] 1 false)) 1 h6.next (.sl h6.next 0 1 1) (nC [nth l i]):=.inr ⟨h6.next,1,Nat.le_refl _,rfl,u7.get,rfl⟩
     have hw7:SlN ((h6.keep 2).put h6.next (.cells [.int .i64 (nth l i:Nat)] 1 false)) w T[k]:=(nC_sl i6).cong fun b o n c e=>by
      have:=(nC_sl i6).lt e
      rw[u7.ne (by omega),hkK _ this]
     have hTk:=hTin _ (List.getElem_mem hk)
     obtain⟨v8,h8,a8,i8,x8,n8,k8⟩:=apps (bytes:=8) i7 (by rw[AH.next_put,nK]; omega) (by omega) hw7 (ones_nC _) (by rw[nC_len]; simp only[List.length_map,List.length_cons,List.length_nil]; unfold tooMany; omega) (by rw[nC_len]; simp only[List.length_map,List.length_cons,List.length_nil]; unfold tooMany; omega)
     rw[flat_nC,← nC_app] at i8
     rw[AH.next_put,nK] at n8
     have q9:h8.get (h6.next+1)=some .resv:=by
      rw[k8 _ (by rw[AH.next_put,nK]; omega) (fun b n e=>by cases e; omega),u7.ne (by omega)]
      exact q8
     have u9:=Upd.put (o:=.cells [v8] 1 false) q9
     obtain⟨c8,o8⟩:=i8.cells
     have hk9:∀ c,c<h6.next→(h8.put (h6.next+1) (.cells [v8] 1 false)).get c=h6.get c:=fun c hc=>by
      rw[u9.ne (by omega),x8.gt c hc,u7.ne (by omega),hkK c hc]
     have i9:IsSl (h8.put (h6.next+1) (.cells [v8] 1 false)) 1 h.next v8 (nC ([nth l i]++T[k])):=by
      refine (i8.mono (by have:=kx.nx; omega)).cong fun b n e _=>u9.ne fun e2=>?_
      rcases i8 with ⟨q,_⟩|⟨b',n',_,q,hg,_⟩
      ·rw[q] at e; cases e
      ·rw[q] at e
       cases e
       rw[e2,q9] at hg
       cases hg
     have i8lo:∀ b n,v8=.sl b 0 n n→h6.next≤b:=fun b n e=>by
      rcases i8 with ⟨q,_⟩|⟨b',n',q0,q,hg,_⟩
      ·rw[q] at e; cases e
      ·rw[q] at e; cases e; exact q0
     have k9:LL (h8.put (h6.next+1) (.cells [v8] 1 false)) h.next b (outK f l i++(T.take k).map (nth l i::·)):=k1.cong fun c _ hc=>hk9 c hc
     have hlen:(outK f l i++(T.take k).map (nth l i::·)).length≤8*8 ^ 7:=by
      rw[List.length_append,List.length_map,List.length_take]
      omega
     obtain⟨b',h10,a10,k10,x10,n10,f10,e10⟩:=k9.push (x:=h6.next+1) (by rw[AH.next_put]; have:=kx.nx; omega) i9 u9.get (by have:=kx.nx; omega) (fun c n e=>by have:=k1.lt e; omega) (fun c n c' n' e e'=>by have:=i8lo c n e; have:=k1.lt e'; omega) (by unfold tooMany; omega)
     have hst:(T.take (k+1)).map (nth l i::·)=(T.take k).map (nth l i::·)++[[nth l i]++T[k]]:=by
      rw[List.take_succ_eq_append_getElem hk,List.map_append]
      rfl
     refine W.runK (by simp only[am,evOp,simprocAttr,e0,e3,e4,e6,e7,a1,r1K,a2,r2K,evN_some,evNew_mksl q7,evNew_mksl q9,a8,c8,a10]<;>rfl) ?_
     refine⟨b',⟨?_,?_,fun c hc1 hc2=>?_,by rw[n10,AH.next_put]; omega,fun c n e=>?_⟩,_,(by simp only[am,evOp,simprocAttr,e7,wk]<;>rfl),by simp only[hl,am,evOp,simprocAttr,e0,e3,e4,e6,ek]⟩
     ·rw[hst,← List.append_assoc]
      exact k10
     ·refine⟨by rw[n10,AH.next_put]; have:=kx.nx; omega,fun c hc=>?_,fun c hc=>?_⟩
      ·have:=kx.nx
       rw[x10.gt c hc,hk9 c (by omega),kx.gt c hc]
      ·rw[x10.ty c hc,u9.ty,x8.ty c (by have:=kx.nx; omega),u7.ty,AH.keep_tyOf,kx.ty c hc]
     ·rw[f10 c (by rw[AH.next_put]; omega) (fun b0 n0 e=>?_),hk9 c (by omega),kf c hc1 hc2]
      have:=kb b0 n0 e
      omega
     ·have:=e10 c n e
      rw[AH.next_put] at this
      omega
    ·clear e0 e3 e4
     rintro b ts h6 ⟨k1,kx,kf,kn,kb⟩ ⟨e0,e3,e4,e6,e7,-⟩
     simp only at e0 e3 e4
     rw[List.take_length,← hT,← outK_succ] at k1
     exact⟨b,⟨k1,kx⟩,_,(by simp only[am,evOp,simprocAttr,e4,wi]<;>rfl),by simp only[hl,am,evOp,simprocAttr,e0,e3]⟩
   ·rintro a ts h2 ⟨j1,jx⟩ ⟨e0,e3,e4,-⟩
    simp only at e3
    rw[← orders_out hl0] at j1
    refine W.seq (W.run (by simp only[am,evOp,simprocAttr,e3]<;>rfl) ?_)
    exact W.ret ⟨a,(by simp only[rs,rf36,am,evOp,simprocAttr]<;>rfl),j1,jx⟩
end Go.Proofs.YtahepnbflofndaaGreatDoor
