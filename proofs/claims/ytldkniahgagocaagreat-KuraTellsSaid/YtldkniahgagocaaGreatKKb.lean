/-
  slices.IndexFunc, Index, ContainsFunc, Contains (printed by tools/mkfnd.py). slices.Clone, slices.Equal (printed by tools/mkcln.py). Lists of lists of numbers, grown from nothing. How many bits a number has. slices.DeleteFunc of ints; slices.Sort of ints by the kit's contract; slices.ContainsFunc with a function that writes.
-/
import Derived.Test.YtldkniahgagocaaGreatKRf
import Derived.Test.YtldkniahgagocaaGreatKAmL
import Derived.Test.YtldkniahgagocaaGreatKAmR
import Derived.Test.YtldkniahgagocaaGreatKAmA
set_option linter.all false
namespace Go.Proofs.YtldkniahgagocaaGreat
open Go.Am
theorem eq_flat2 {a b:Int×Int}:binA .eql (.flat [.i64,.i64]) (.agg (eE a)) (.agg (eE b))=some (.bool (a==b)):=by
 obtain⟨a1,a2⟩:=a
 obtain⟨b1,b2⟩:=b
 show Option.map AV.bool (eqAV (.flat [.i64,.i64]) (.agg (eE (a1,a2))) (.agg (eE (b1,b2))))=_
 simp only[eqAV,eqF,eE,flatEq,and_self,if_true]
 by_cases h1:a1=b1
 ·subst h1
  by_cases h2:a2=b2
  ·subst h2; simp
  ·simp [h2]
 ·simp [h1]
theorem idxfI_ok {h:AH}{v:AV}{xs:List (Int)}{P:Int→Bool}{k:FuncId}{caps:List AV} (hv:SlI h v xs) (hl:xs.length<2 ^ 40)
 (hf:∀ x∈xs,∀ h',Ext h.next h h'→C prg k ([.int .i64 x]++caps) h' fun r h''=>r=.bool (P x)∧Ext h'.next h' h'') :
 C prg 34 [v,.fn k caps] h fun r h'=>r=.int .i64 (fidx P xs 0)∧Ext h.next h h':=by
 refine C.func pf34 ?_
 have hlen:=hv.len
 rw[List.length_map] at hlen
 refine W.seq (W.run (by simp only[am,evOp,simprocAttr,initTm]<;>rfl) ?_)
 refine W.seq (W.seq (W.run (by simp only[am,evOp,simprocAttr,initTm,hlen]<;>rfl) ?_))
 refine W.seq (W.cut (fun ts h1=>fidx P xs 0=-1∧Ext h.next h h1) (W.block (W.loop (fun n ts h1=>∃ i,n=xs.length-i∧i≤xs.length∧Ext h.next h h1∧fidx P (xs.drop i) i=fidx P xs 0∧tget ts 0=v∧tget ts 1=.fn k caps∧tget ts 7=.int .i64 (xs.length:Nat)∧tget ts 8=.int .i64 (i:Nat)) ?_ (n:=xs.length) ⟨0,rfl,Nat.zero_le _,Ext.refl,by rw[List.drop_zero],by simp only[am,evOp,↓reduceIte,Nat.reduceEqDiff,Int.reduceEq,Nat.reduceAdd,Nat.reduceLeDiff,reduceCtorEq,initTm],by simp only[am,evOp,↓reduceIte,Nat.reduceEqDiff,Int.reduceEq,Nat.reduceAdd,Nat.reduceLeDiff,reduceCtorEq,initTm],by simp only[am,evOp,↓reduceIte,Nat.reduceEqDiff,Int.reduceEq,Nat.reduceAdd,Nat.reduceLeDiff,reduceCtorEq,initTm],by simp only[am,evOp,↓reduceIte,Nat.reduceEqDiff,Int.reduceEq,Nat.reduceAdd,Nat.reduceLeDiff,reduceCtorEq,initTm]; rfl⟩)) ?_)
 ·rintro n ts h1 ⟨i,rfl,hi,ex,hF,e0,e1,e7,e8⟩
  refine W.seq (W.run (by simp only[am,evOp,simprocAttr,e7,e8]<;>rfl) ?_)
  refine W.seq (W.cond (t:=decide (i<xs.length)) (by simp only[am,evOp,simprocAttr,Int.ofNat_lt]) (fun q=>?_) fun q=>?_)
  ·have q:i<xs.length:=of_decide_eq_true q
   obtain⟨b,p,a1,r1,_,_⟩:=(hv.ext ex (Nat.le_refl _)).at (map_at (f:=eI) q)
   refine W.skip (W.seq (W.block (W.seq (W.run (by simp only[am,evOp,simprocAttr,e8]<;>rfl) ?_))))
   have hc:=hf _ (List.getElem_mem q) h1 ex
   refine W.seq (W.reg (G.gcallv 5 (by simp only[am,evOp,simprocAttr,e0,e1,e7,e8,a1,r1,packA_one,eI]<;>rfl) rfl (by simp only[am,evOp,simprocAttr,e0,e1,e7,e8,a1,r1,packA_one,eI]) (by simp only[am,evOp,simprocAttr,e0,e1,e7,e8,a1,r1,packA_one,eI]<;>rfl) (by simp only[am,evOp,simprocAttr,e0,e1,e7,e8,a1,r1,packA_one,eI]<;>rfl) (hc) fun r h2 hq=>?_))
   obtain⟨rfl,ex2⟩:=hq
   have ex3:=ex.trans (ex2.mono ex.nx)
   refine G.run (by simp only[am,evOp,simprocAttr]<;>rfl) ?_
   refine W.cond (t:=P xs[i]) (by simp only[am,evOp,simprocAttr]) (fun q2=>?_) fun q2=>?_
   ·refine W.seq (W.run (by simp only[am,evOp,simprocAttr]<;>rfl) ?_)
    refine W.ret ⟨.int .i64 (i:Nat),(by simp only[rs,rf34,am,evOp,simprocAttr]<;>rfl),?_,ex3⟩
    rw[← hF,fidx_drop P q,if_pos q2]
   ·have w1:IntKind.i64.wrap (((i:Nat):Int)+1)=((i+1:Nat):Int):=wr64 (by omega) (by omega)
    refine W.skip (W.run (by simp only[am,evOp,simprocAttr,e8,w1]<;>rfl) ?_)
    refine⟨xs.length-(i+1),by omega,i+1,rfl,by omega,ex3,?_,by simp only[am,evOp,simprocAttr,e0],by simp only[am,evOp,simprocAttr,e1],by simp only[am,evOp,simprocAttr,e7],by simp only[am,evOp,simprocAttr,e8,w1]⟩
    rw[← hF,fidx_drop P q,if_neg (by simp [q2])]
  ·have q:¬ i<xs.length:=of_decide_eq_false q
   refine W.exit ⟨fun _=>⟨?_,ex⟩,fun e=>absurd rfl e⟩
   rw[← hF,List.drop_eq_nil_of_le (by omega)]
   rfl
 ·rintro ts h1 ⟨hF,ex⟩
  refine W.seq (W.run (by simp only[am,evOp,simprocAttr]<;>rfl) ?_)
  exact W.ret ⟨.int .i64 (-1),(by simp only[rs,rf34,am,evOp,simprocAttr]<;>rfl),by rw[hF],ex⟩
theorem idxI_ok {h:AH}{v:AV}{xs:List (Int)}{y:Int} (hv:SlI h v xs) (hl:xs.length<2 ^ 40) :
 C prg 31 [v,.int .i64 y] h fun r h'=>r=.int .i64 (fidx (y==·) xs 0)∧Ext h.next h h':=by
 refine C.func pf31 ?_
 have hlen:=hv.len
 rw[List.length_map] at hlen
 have ex0:Ext h.next h h:=Ext.refl
 refine W.seq (W.run (by simp only[am,evOp,simprocAttr,initTm]<;>rfl) ?_)
 refine W.seq (W.seq (W.run (by simp only[am,evOp,simprocAttr,initTm,hlen]<;>rfl) ?_))
 refine W.seq (W.cut (fun ts h1=>fidx (y==·) xs 0=-1∧h1=h) (W.block (W.loop (fun n ts h1=>∃ i,n=xs.length-i∧i≤xs.length∧h1=h∧fidx (y==·) (xs.drop i) i=fidx (y==·) xs 0∧tget ts 0=v∧tget ts 1=.int .i64 y∧tget ts 7=.int .i64 (xs.length:Nat)∧tget ts 8=.int .i64 (i:Nat)) ?_ (n:=xs.length) ⟨0,rfl,Nat.zero_le _,rfl,by rw[List.drop_zero],by simp only[am,evOp,↓reduceIte,Nat.reduceEqDiff,Int.reduceEq,Nat.reduceAdd,Nat.reduceLeDiff,reduceCtorEq,initTm],by simp only[am,evOp,↓reduceIte,Nat.reduceEqDiff,Int.reduceEq,Nat.reduceAdd,Nat.reduceLeDiff,reduceCtorEq,initTm],by simp only[am,evOp,↓reduceIte,Nat.reduceEqDiff,Int.reduceEq,Nat.reduceAdd,Nat.reduceLeDiff,reduceCtorEq,initTm],by simp only[am,evOp,↓reduceIte,Nat.reduceEqDiff,Int.reduceEq,Nat.reduceAdd,Nat.reduceLeDiff,reduceCtorEq,initTm]; rfl⟩)) ?_)
 ·rintro n ts h1 ⟨i,rfl,hi,rfl,hF,e0,ek,e7,e8⟩
  refine W.seq (W.run (by simp only[am,evOp,simprocAttr,e7,e8]<;>rfl) ?_)
  refine W.seq (W.cond (t:=decide (i<xs.length)) (by simp only[am,evOp,simprocAttr,Int.ofNat_lt]) (fun q=>?_) fun q=>?_)
  ·have q:i<xs.length:=of_decide_eq_true q
   obtain⟨b,p,a1,r1,_,_⟩:=(hv.ext ex0 (Nat.le_refl _)).at (map_at (f:=eI) q)
   refine W.skip (W.seq (W.block (W.seq (W.run (by simp only[am,evOp,simprocAttr,e8]<;>rfl) ?_))))
   have ceq:decide (y=xs[i])=(y==xs[i]):=rfl
   refine W.seq (W.run (by simp only[am,evOp,simprocAttr,e0,ek,e7,e8,a1,r1,ceq,eI]<;>rfl) ?_)
   refine W.cond (t:=y==xs[i]) (by simp only[am,evOp,simprocAttr]) (fun q2=>?_) fun q2=>?_
   ·refine W.seq (W.run (by simp only[am,evOp,simprocAttr]<;>rfl) ?_)
    refine W.ret ⟨.int .i64 (i:Nat),(by simp only[rs,rf31,am,evOp,simprocAttr]<;>rfl),?_,ex0⟩
    rw[← hF,fidx_drop _ q,if_pos q2]
   ·have w1:IntKind.i64.wrap (((i:Nat):Int)+1)=((i+1:Nat):Int):=wr64 (by omega) (by omega)
    refine W.skip (W.run (by simp only[am,evOp,simprocAttr,e8,w1]<;>rfl) ?_)
    refine⟨xs.length-(i+1),by omega,i+1,rfl,by omega,rfl,?_,by simp only[am,evOp,simprocAttr,e0],by simp only[am,evOp,simprocAttr,ek],by simp only[am,evOp,simprocAttr,e7],by simp only[am,evOp,simprocAttr,e8,w1]⟩
    rw[← hF,fidx_drop _ q,if_neg (by simp [q2])]
  ·have q:¬ i<xs.length:=of_decide_eq_false q
   refine W.exit ⟨fun _=>⟨?_,rfl⟩,fun e=>absurd rfl e⟩
   rw[← hF,List.drop_eq_nil_of_le (by omega)]
   rfl
 ·rintro ts h1 ⟨hF,rfl⟩
  refine W.seq (W.run (by simp only[am,evOp,simprocAttr]<;>rfl) ?_)
  exact W.ret ⟨.int .i64 (-1),(by simp only[rs,rf31,am,evOp,simprocAttr]<;>rfl),by rw[hF],ex0⟩
theorem contI_ok {h:AH}{v:AV}{xs:List (Int)}{y:Int} (hv:SlI h v xs) (hl:xs.length<2 ^ 40) :
 C prg 17 [v,.int .i64 y] h fun r h'=>r=.bool (xs.any (y==·))∧Ext h.next h h':=by
 refine C.func pf17 ?_
 refine W.seq (W.run (by simp only[am,evOp,simprocAttr,initTm]<;>rfl) ?_)
 have ex0:Ext h.next h h:=Ext.refl
 have hc:=idxI_ok (y:=y) hv hl
 refine W.seq (W.reg (G.gcall 2 (by simp only[am,evOp,simprocAttr,initTm]<;>rfl) rfl (by simp only[am,evOp,simprocAttr,initTm]) (by simp only[am,evOp,simprocAttr,initTm]<;>rfl) (hc) fun r h2 hq=>?_))
 obtain⟨rfl,ex⟩:=hq
 have hb:decide ((0:Int)≤fidx (y==·) xs 0)=xs.any (y==·):=by
  have:=(fidx_lo (y==·) xs 0).2
  cases hq:xs.any (y==·) with
  | true=>rw[decide_eq_true_eq]; rw[hq] at this; simp at this; omega
  | false=>rw[decide_eq_false_iff_not]; have:=this.2 hq; omega
 refine G.run (by simp only[am,evOp,simprocAttr,hb]<;>rfl) ?_
 exact W.ret ⟨_,(by simp only[rs,rf17,am,evOp,simprocAttr]<;>rfl),rfl,ex0.trans (ex.mono ex0.nx)⟩
end Go.Proofs.YtldkniahgagocaaGreat
namespace Go.Proofs.YtldkniahgagocaaGreat
open Go.Am
theorem ones_I {xs:List Int}:(xs.flatMap eI).all AV.one=true:=by
 rw[List.all_eq_true]
 intro x hx
 obtain⟨y,_,hy⟩:=List.mem_flatMap.1 hx
 simp only[eI,List.mem_cons,List.not_mem_nil,or_false] at hy
 subst hy; rfl
theorem eql_nls {v:AV}{h:AH}{e:Nat}{xs:List (List AV)} (hv:Sl h e v xs):∃ b,binA .eql .nls v .nils=some (.bool b)∧(b=true→v=.nils∧xs=[])∧(b=false→v≠.nils):=by
 rcases hv with ⟨rfl,rfl|rfl⟩|⟨b,o,c,cs,ro,rfl,hg,hc,hle,hx⟩
 ·exact⟨true,rfl,fun _=>⟨rfl,rfl⟩,fun q=>by cases q⟩
 ·exact⟨false,rfl,fun q=>(by cases q),fun _=>(by simp)⟩
 ·exact⟨false,rfl,fun q=>(by cases q),fun _=>(by simp)⟩
theorem app_own {h:AH}{e bytes:Nat}{v:AV}{xs:List (List AV)} (hv:Sl h e v xs) (ho:xs.flatten.all AV.one=true) (hl:xs.length*bytes<tooMany) (hl2:xs.length<tooMany) :
 ∃ r h',appA (h.new (.cells [] e false)) e bytes (.sl h.next 0 0 0) v=some (r,h')∧IsSl h' e h.next r xs.flatten∧Ext h.next h h'∧r≠.nils:=by
 have hv':=hv.ext (Ext.new (o:=.cells [] e false) (Nat.le_refl _)) (Nat.le_refl _)
 obtain⟨s1,s2⟩:=hv'.src
 have g0:(h.new (.cells [] e false)).get h.next=some (.cells [] e false):=by rw[AH.get_new,if_pos rfl]
 by_cases hz:xs.length=0
 ·refine⟨.sl h.next 0 0 0,_,?_,.inr ⟨h.next,0,Nat.le_refl _,rfl,by rw[g0,List.length_eq_zero_iff.1 hz]; rfl,by rw[s2,hz]⟩,Ext.new (Nat.le_refl _),by simp⟩
  simp only[appA,s1,ho,if_true,hz]
 ·refine⟨.sl (h.next+1) 0 xs.length xs.length,((h.new (.cells [] e false)).put h.next .dead).new (.cells xs.flatten e false),?_,.inr ⟨h.next+1,xs.length,by omega,rfl,by rw[AH.get_new,if_pos (by simp)],s2⟩,(Ext.new (Nat.le_refl _)).trans ((Ext.put (Nat.le_refl _)).trans (Ext.new (by simp))),by simp⟩
  simp only[appA,s1,ho,if_true,if_neg hz,g0,rdCells_of g0]
  rw[Nat.zero_add,if_neg (by omega),if_pos ⟨hl,hl2⟩]
  simp
theorem cloneI_ok {h:AH}{v:AV}{xs:List (Int)} (hv:SlI h v xs) (hl:xs.length<2 ^ 34) :
 C prg 22 [v] h fun r h'=>IsSl h' 1 h.next r (xs.flatMap eI)∧Ext h.next h h'∧(r=.nils↔v=.nils):=by
 refine C.func pf22 ?_
 refine W.seq (W.run (by simp only[am,evOp,simprocAttr,initTm]<;>rfl) ?_)
 obtain⟨b,hb,k1,k2⟩:=eql_nls hv
 refine W.seq (W.seq (W.run (by simp only[am,evOp,simprocAttr,initTm,hb]<;>rfl) ?_))
 refine W.cond (t:=b) (by simp only[am,evOp,simprocAttr]) (fun q=>?_) fun q=>?_
 ·obtain⟨rfl,hx⟩:=k1 q
  rw[List.map_eq_nil_iff] at hx
  subst hx
  refine W.seq (W.run (by simp only[am,evOp,simprocAttr]<;>rfl) ?_)
  exact W.ret ⟨.nils,(by simp only[rs,rf22,am,evOp,simprocAttr]<;>rfl),.inl ⟨rfl,rfl⟩,Ext.refl,by simp⟩
 ·have hvv:=k2 q
  refine W.skip ?_
  obtain⟨r,h',a1,a2,a3,a4⟩:=app_own (bytes:=8) hv ones_I (by rw[List.length_map]; unfold tooMany; omega) (by rw[List.length_map]; unfold tooMany; omega)
  refine W.seq (W.run (by simp only[am,evOp,simprocAttr,initTm,a1]<;>rfl) ?_)
  exact W.ret ⟨r,(by simp only[rs,rf22,am,evOp,simprocAttr]<;>rfl),a2,a3,by simp [a4,hvv]⟩
theorem eqto (xs ys:List Int) (hl:xs.length=ys.length):∀ k,k≤xs.length→(xs.take k=ys.take k)→(∀ (hk:k<xs.length),xs[k]=ys[k]'(by omega)→xs.take (k+1)=ys.take (k+1)):=by
 intro k _ h hk e
 rw[List.take_succ_eq_append_getElem hk,List.take_succ_eq_append_getElem (by omega),h,e]
theorem equalI_ok {h:AH}{v w:AV}{xs ys:List Int} (hv:SlI h v xs) (hw:SlI h w ys) (hl:xs.length<2 ^ 40) (hl2:ys.length<2 ^ 40) :
 C prg 24 [v,w] h fun r h'=>r=.bool (xs==ys)∧h'=h:=by
 refine C.func pf24 ?_
 have e1:=hv.len
 have e2:=hw.len
 rw[List.length_map] at e1 e2
 refine W.seq (W.run (by simp only[am,evOp,simprocAttr,initTm]<;>rfl) ?_)
 refine W.seq (W.seq (W.run (by simp only[am,evOp,simprocAttr,initTm,e1,e2]<;>rfl) ?_))
 refine W.cond (t:=!decide (((xs.length:Nat):Int)=((ys.length:Nat):Int))) (by simp only[am,evOp,simprocAttr]) (fun q=>?_) fun q=>?_
 ·have q:xs.length≠ys.length:=by simp at q; omega
  refine W.seq (W.run (by simp only[am,evOp,simprocAttr]<;>rfl) ?_)
  exact W.ret ⟨.bool false,(by simp only[rs,rf24,am,evOp,simprocAttr]<;>rfl),by rw[show (xs==ys)=false from by rw[beq_eq_false_iff_ne]; intro hh; exact q (congrArg _ hh)],rfl⟩
 ·have q:xs.length=ys.length:=by simp at q; omega
  refine W.skip (W.seq (W.seq (W.run (by simp only[am,evOp,simprocAttr,initTm,e1]<;>rfl) ?_)))
  refine W.rng (α:=Unit) (N:=xs.length) (fun _ _=>[(0,v),(1,w)]) (fun k _ h1=>h1=h∧xs.take k=ys.take k) () (fun _ _=>rfl) (by omega) (by simp only[held_cons,held_nil,am,evOp,↓reduceIte,Nat.reduceEqDiff,Int.reduceEq,Nat.reduceAdd,Nat.reduceLeDiff,reduceCtorEq,initTm]) ⟨rfl,rfl⟩ ?_ ?_
  ·rintro k _ ts h1 hk ⟨rfl,hp⟩ ⟨ei,en,e0,e1',-⟩
   simp only at ei en e0 e1'
   obtain⟨b1,p1,a1,r1,_⟩:=hv.at1 (map_at (f:=eI) hk)
   obtain⟨b2,p2,a2,r2,_⟩:=hw.at1 (map_at (f:=eI) (show k<ys.length by omega))
   refine W.seq (W.run (by simp only[am,evOp,simprocAttr,ei]<;>rfl) ?_)
   refine W.seq (W.run (by simp only[am,evOp,simprocAttr,e0,e1',a1,r1,a2,r2]<;>rfl) ?_)
   refine W.cond (t:=!decide (xs[k]=ys[k])) (by simp only[am,evOp,simprocAttr]) (fun q2=>?_) fun q2=>?_
   ·have q2:xs[k]≠ys[k]:=by simpa using q2
    refine W.seq (W.run (by simp only[am,evOp,simprocAttr]<;>rfl) ?_)
    refine W.ret ⟨.bool false,(by simp only[rs,rf24,am,evOp,simprocAttr]<;>rfl),?_,rfl⟩
    have:(xs==ys)=false:=by
     rw[beq_eq_false_iff_ne]
     intro hh
     subst hh
     exact q2 rfl
    rw[this]
   ·have q2:xs[k]=ys[k]:=by simpa using q2
    refine W.skip ⟨(),⟨rfl,eqto xs ys q k (by omega) hp hk q2⟩,by simp only[held_cons,held_nil,am,evOp,↓reduceIte,Nat.reduceEqDiff,Int.reduceEq,Nat.reduceAdd,Nat.reduceLeDiff,reduceCtorEq,ei,en,e0,e1']⟩
  ·rintro _ ts h1 ⟨rfl,hp⟩ ⟨e0,e1',-⟩
   refine W.seq (W.run (by simp only[am,evOp,simprocAttr]<;>rfl) ?_)
   refine W.ret ⟨.bool true,(by simp only[rs,rf24,am,evOp,simprocAttr]<;>rfl),?_,rfl⟩
   rw[List.take_length,q,List.take_length] at hp
   subst hp
   simp
end Go.Proofs.YtldkniahgagocaaGreat
namespace Go.Proofs.YtldkniahgagocaaGreat
open Go.Am
abbrev SlN (h:AH) (v:AV) (l:List Nat):Prop:=SlI h v (l.map fun n=>((n:Nat):Int))
def nC (l:List Nat):List AV:=(l.map fun n=>((n:Nat):Int)).flatMap eI
theorem nC_len (l:List Nat):(nC l).length=l.length:=by
 unfold nC
 rw[flat_len (f:=eI) (e:=1) (fun _=>rfl),List.length_map]; omega
theorem nC_app (a b:List Nat):nC (a++b)=nC a++nC b:=by
 unfold nC
 rw[List.map_append,List.flatMap_append]
theorem nC_sl {h:AH}{lo:Nat}{v:AV}{l:List Nat} (hv:IsSl h 1 lo v (nC l)):SlN h v l:=IsSl.sl (by omega) (fun _=>rfl) hv
end Go.Proofs.YtldkniahgagocaaGreat
namespace Go.Proofs.YtldkniahgagocaaGreat
open Go.Am
set_option maxRecDepth 8000 in
theorem len64_zero {h:AH}:C prg 53 [.int .u64 0] h fun v h'=>v=.int .i64 0∧h'=h:=by
 refine C.func pf53 ?_
 refine W.seq (W.run (by simp only[am,evOp,↓reduceIte,Nat.reduceEqDiff,Int.reduceEq,Nat.reduceAdd,Nat.reduceLeDiff,reduceCtorEq,initTm]<;>rfl) ?_)
 have c1:decide ((4294967296:Int)≤0)=false:=by decide
 have c2:decide ((65536:Int)≤0)=false:=by decide
 have c3:decide ((256:Int)≤0)=false:=by decide
 refine W.seq (W.seq (W.run (by simp only[am,evOp,↓reduceIte,Nat.reduceEqDiff,Int.reduceEq,Nat.reduceAdd,Nat.reduceLeDiff,reduceCtorEq,initTm,c1]<;>rfl) ?_))
 refine W.no (by simp only[am,evOp,↓reduceIte,Nat.reduceEqDiff,Int.reduceEq,Nat.reduceAdd,Nat.reduceLeDiff,reduceCtorEq,c1]) (W.skip ?_)
 refine W.seq (W.seq (W.run (by simp only[am,evOp,↓reduceIte,Nat.reduceEqDiff,Int.reduceEq,Nat.reduceAdd,Nat.reduceLeDiff,reduceCtorEq,initTm,c2]<;>rfl) ?_))
 refine W.no (by simp only[am,evOp,↓reduceIte,Nat.reduceEqDiff,Int.reduceEq,Nat.reduceAdd,Nat.reduceLeDiff,reduceCtorEq,c2]) (W.skip ?_)
 refine W.seq (W.seq (W.run (by simp only[am,evOp,↓reduceIte,Nat.reduceEqDiff,Int.reduceEq,Nat.reduceAdd,Nat.reduceLeDiff,reduceCtorEq,initTm,c3]<;>rfl) ?_))
 refine W.no (by simp only[am,evOp,↓reduceIte,Nat.reduceEqDiff,Int.reduceEq,Nat.reduceAdd,Nat.reduceLeDiff,reduceCtorEq,c3]) (W.skip ?_)
 have w1:IntKind.u8.wrap 0=0:=by decide
 have w2:IntKind.i64.wrap 0=0:=by decide
 have w3:IntKind.i64.wrap (0+0)=0:=by decide
 have hi:idxSA (.str [0,1,2,2,3,3,3,3,4,4,4,4,4,4,4,4,5,5,5,5,5,5,5,5,5,5,5,5,5,5,5,5,6,6,6,6,6,6,6,6,6,6,6,6,6,6,6,6,6,6,6,6,6,6,6,6,6,6,6,6,6,6,6,6,7,7,7,7,7,7,7,7,7,7,7,7,7,7,7,7,7,7,7,7,7,7,7,7,7,7,7,7,7,7,7,7,7,7,7,7,7,7,7,7,7,7,7,7,7,7,7,7,7,7,7,7,7,7,7,7,7,7,7,7,7,7,7,7,8,8,8,8,8,8,8,8,8,8,8,8,8,8,8,8,8,8,8,8,8,8,8,8,8,8,8,8,8,8,8,8,8,8,8,8,8,8,8,8,8,8,8,8,8,8,8,8,8,8,8,8,8,8,8,8,8,8,8,8,8,8,8,8,8,8,8,8,8,8,8,8,8,8,8,8,8,8,8,8,8,8,8,8,8,8,8,8,8,8,8,8,8,8,8,8,8,8,8,8,8,8,8,8,8,8,8,8,8,8,8,8,8,8,8,8,8,8,8,8,8,8,8,8,8,8,8,8]) (.int .u8 0)=some (.int .u8 0):=rfl
 refine W.seq (W.runs (fun ts h5=>h5=h∧tget ts 2=.int .i64 0) ?_ fun ts h5 ⟨eh,e2⟩=>W.ret ⟨.int .i64 0,(by simp only[rs,rf53,am,evOp,simprocAttr,e2]<;>rfl),rfl,eh⟩)
 simp only[am,evOp,simprocAttr,initTm,w1,hi,w2,w3]
theorem blen_zero {h:AH}:C prg 33 [.int .u64 0] h fun v h'=>v=.int .i64 0∧h'=h:=by
 refine C.func pf33 ?_
 refine W.seq (W.run (by simp only[am,evOp,↓reduceIte,Nat.reduceEqDiff,Int.reduceEq,Nat.reduceAdd,Nat.reduceLeDiff,reduceCtorEq,initTm]<;>rfl) ?_)
 refine W.seq (W.no rfl (W.skip ?_))
 refine W.seq (W.reg (G.gcall 1 (by simp only[am,evOp,simprocAttr,initTm]<;>rfl) rfl (by simp only[am,evOp,simprocAttr,initTm]) (by simp only[am,evOp,simprocAttr,initTm]<;>rfl) (len64_zero) fun v h' hq=>?_))
 obtain⟨rfl,rfl⟩:=hq
 refine G.run (by simp only[am,evOp,simprocAttr]<;>rfl) ?_
 exact W.ret ⟨_,(by simp only[rs,rf33,am,evOp,simprocAttr]<;>rfl),rfl,rfl⟩
end Go.Proofs.YtldkniahgagocaaGreat
namespace Go.Proofs.YtldkniahgagocaaGreat
open Go.Am
theorem splice_flat {α:Type}{f:α→List AV}{e:Nat} (hf:∀ x,(f x).length=e):∀ (xs:List α) (i:Nat) (x:α),i<xs.length→splice (xs.flatMap f) (i*e) (f x)=(xs.set i x).flatMap f
 | [],i,x,h=>absurd h (Nat.not_lt_zero _)
 | y::r,0,x,h=>by
   simp only[splice,Nat.zero_mul,List.take_zero,List.nil_append,Nat.zero_add,List.flatMap_cons,List.set_cons_zero,hf]
   rw[List.drop_left' (hf y)]
 | y::r,i+1,x,h=>by
   have ih:=splice_flat hf r i x (Nat.lt_of_succ_lt_succ h)
   simp only[splice,hf] at ih
   simp only[splice,List.flatMap_cons,List.set_cons_succ,hf]
   rw[← ih]
   have e1:(i+1)*e=(f y).length+i*e:=by rw[hf,Nat.add_mul]; omega
   rw[e1,List.take_length_add_append,Nat.add_assoc,List.drop_length_add_append]
   simp only[List.append_assoc]
theorem wr_flat {α:Type}{f:α→List AV}{e:Nat} (hf:∀ x,(f x).length=e) {h:AH}{b i:Nat}{xs:List α}{x:α} (hg:h.get b=some (.cells (xs.flatMap f) e false)) (hi:i<xs.length) :
 wrCells h b (i*e) (f x)=some (h.put b (.cells ((xs.set i x).flatMap f) e false)):=by
 have hl:=flat_len hf xs
 rw[wrCells_of hg,if_pos (by
  rw[hf,hl]
  have:(i+1)*e≤xs.length*e:=Nat.mul_le_mul_right e (by omega)
  rw[Nat.add_mul,Nat.one_mul] at this
  exact this),splice_flat hf xs i x hi]
theorem fidx_split {α:Type} (P:α→Bool):∀ (xs:List α) (i:Nat),(fidx P xs i=-1∧∀ x∈xs,P x=false)∨∃ a y b,xs=a++y::b∧(∀ x∈a,P x=false)∧P y=true∧fidx P xs i=((i+a.length:Nat):Int)
 | [],i=>.inl ⟨rfl,fun x h=>by cases h⟩
 | x::r,i=>by
   simp only[fidx]
   cases hp:P x with
   | true=>exact .inr ⟨[],x,r,rfl,(fun y h=>by cases h),hp,by simp⟩
   | false =>
     simp only[Bool.false_eq_true,if_false]
     rcases fidx_split P r (i+1) with ⟨h1,h2⟩|⟨a,y,b,rfl,h2,h3,h4⟩
     ·refine .inl ⟨h1,fun y hy=>?_⟩
      rcases List.mem_cons.1 hy with rfl|hy
      ·exact hp
      ·exact h2 y hy
     ·refine .inr ⟨x::a,y,b,rfl,fun z hz=>?_,h3,by rw[h4,List.length_cons]; congr 1; omega⟩
      rcases List.mem_cons.1 hz with rfl|hz
      ·exact hp
      ·exact h2 z hz
theorem keep_all {α:Type}{P:α→Bool}{xs:List α} (h:∀ x∈xs,P x=false):xs.filter (fun x=>!P x)=xs:=List.filter_eq_self.2 fun x hx=>by rw[h x hx]; rfl
theorem del_step {α:Type}{P:α→Bool}{xs ys:List α}{i j:Nat} (hl:ys.length=xs.length) (hij:i<j) (hj:j<xs.length) (ht:ys.take i=(xs.take j).filter fun x=>!P x) (hd:ys.drop j=xs.drop j) :
 ∃ hy:j<ys.length,ys[j]=xs[j]∧ys.drop (j+1)=xs.drop (j+1)∧(P xs[j]=true→ys.take i=(xs.take (j+1)).filter fun x=>!P x) ∧
   (P xs[j]=false→(ys.set i xs[j]).take (i+1)=(xs.take (j+1)).filter (fun x=>!P x)∧(ys.set i xs[j]).drop (j+1)=xs.drop (j+1)):=by
 have hy:j<ys.length:=by omega
 rw[List.drop_eq_getElem_cons hy,List.drop_eq_getElem_cons hj,List.cons.injEq] at hd
 obtain⟨h1,h2⟩:=hd
 refine⟨hy,h1,h2,fun q=>?_,fun q=>⟨?_,?_⟩⟩
 ·rw[List.take_succ_eq_append_getElem hj,List.filter_append,← ht]
  simp [q]
 ·rw[List.take_succ_eq_append_getElem hj,List.filter_append,← ht]
  rw[List.take_succ_eq_append_getElem (by rw[List.length_set]; omega),List.take_set_of_le (by omega),List.getElem_set_self]
  simp [q]
 ·rw[List.drop_set_of_lt (by omega)]
  exact h2
theorem scl_flat {α:Type}{f:α→List AV}{e:Nat} (he:0<e) {z:α} (hf:∀ x,(f x).length=e) (hone:(f z).all AV.one=true) {h:AH}{b i m:Nat}{xs:List α} (hg:h.get b=some (.cells (xs.flatMap f) e false)) (hm:xs.length=m) (hi:i<m) :
 ∃ (h':AH) (ys:List α),sclA h (f z) (.sl b (i*e) (m-i) (m-i))=some (.un,h')∧Upd h h' b (.cells (ys.flatMap f) e false)∧ys.length=m∧ys.take i=xs.take i:=by
 have hr:repl (f z) (m-i)=(List.replicate (m-i) z).flatMap f:=by
  generalize m-i=k
  induction k with
  | zero=>rfl
  | succ k ih=>rw[List.replicate_succ,List.flatMap_cons,← ih]; rfl
 have hl:=flat_len hf xs
 have hl2:=flat_len hf (List.replicate (m-i) z)
 rw[List.length_replicate] at hl2
 have hall:(repl (f z) (m-i)).all AV.one=true:=by
  rw[hr,List.all_eq_true]
  intro x hx
  obtain⟨y,hy,hx⟩:=List.mem_flatMap.1 hx
  rw[(List.mem_replicate.1 hy).2] at hx
  exact List.all_eq_true.1 hone x hx
 have hle:i*e+(m-i)*e=m*e:=by rw[← Nat.add_mul]; congr 1; omega
 refine⟨h.put b (.cells ((xs.take i++List.replicate (m-i) z).flatMap f) e false),xs.take i++List.replicate (m-i) z,?_,Upd.put hg,by simp; omega,by rw[List.take_append_of_le_length (by rw[List.length_take]; omega),List.take_take,Nat.min_self]⟩
 unfold sclA
 simp only
 rw[if_neg (by omega),if_pos hall,wrCells_of hg,if_pos (by rw[hr,hl2,hl,hm]; omega),Option.map_some]
 congr 3
 simp only[splice]
 rw[hr,hl2,hle,List.drop_eq_nil_of_le (by rw[hl,hm]; omega),List.append_nil,List.flatMap_append]
 congr 2
 have e1:(xs.take i++xs.drop i).flatMap f=xs.flatMap f:=by rw[List.take_append_drop]
 rw[← e1,List.flatMap_append,List.take_left' (by rw[flat_len hf,List.length_take]; congr 1; omega)]
set_option maxHeartbeats 1000000 in
theorem delfI_ok {h:AH}{lo:Nat}{v:AV}{xs:List Int}{P:Int→Bool}{f:FuncId}{caps:List AV} (hv:IsSl h 1 lo v (xs.flatMap eI)) (hlo:lo≤h.next) (hl34:xs.length<2 ^ 30)
 (hf:∀ x∈xs,∀ h',Ext lo h h'→C prg f ([.int .i64 x]++caps) h' fun r h''=>r=.bool (P x)∧Ext h'.next h' h'') :
 C prg 21 [v,.fn f caps] h fun r h'=>Sl h' 1 r ((xs.filter fun x=>!P x).map eI)∧Ext lo h h'∧∀ b o n c,r=.sl b o n c→lo≤b:=by
 have hs:=IsSl.sl (f:=eI) (e:=1) (by omega) (fun _=>rfl) hv
 obtain⟨vc,vo⟩:=hs.cells
 have hvb:∀ b o n c,v=.sl b o n c→lo≤b:=fun b o n c e=>by
  rcases hv with ⟨h1,_⟩|⟨b',n',h1,h2,_⟩
  ·rw[h1] at e; cases e
  ·rw[h2] at e; cases e; exact h1
 refine C.func pf21 ?_
 refine W.seq (W.run (by simp only[am,evOp,simprocAttr,initTm]<;>rfl) ?_)
 have hidx:=idxfI_ok (h:=h) (v:=v) (xs:=xs) (P:=P) (k:=f) (caps:=caps) hs (by omega) fun x hx h' x'=>hf x hx h' (x'.mono hlo)
 refine W.seq (W.reg (G.gcall 2 (by simp only[am,evOp,simprocAttr,initTm]<;>rfl) rfl (by simp only[am,evOp,simprocAttr,initTm]) (by simp only[am,evOp,simprocAttr,initTm]<;>rfl) (hidx) fun r h1 hq=>?_))
 obtain⟨rfl,x1⟩:=hq
 refine G.run (by simp only[am,evOp,simprocAttr]<;>rfl) ?_
 have X1:Ext lo h h1:=x1.mono hlo
 have n1:=x1.nx
 have hs1:=hs.ext x1 (Nat.le_refl _)
 rcases fidx_split P xs 0 with ⟨q1,q2⟩|⟨a,y,b',rfl,q2,q3,q4⟩
 ·rw[q1]
  refine W.seq (W.seq (W.run (by simp only[am,evOp,simprocAttr,decide_true]<;>rfl) ?_))
  refine W.yes (by simp only[am,evOp,simprocAttr]) (W.seq (W.run (by simp only[am,evOp,simprocAttr,initTm]<;>rfl) ?_))
  exact W.ret ⟨v,(by simp only[rs,rf21,am,evOp,simprocAttr,vc]<;>rfl),by rw[keep_all q2]; exact hs1,X1,hvb⟩
 rw[q4,Nat.zero_add]
 have c1:decide (((a.length:Nat):Int)=-1)=false:=decide_eq_false (by omega)
 have w1:IntKind.i64.wrap (((a.length:Nat):Int)+1)=((a.length+1:Nat):Int):=wr64 (by rw[List.length_append] at hl34; omega) (by rw[List.length_append] at hl34; omega)
 refine W.seq (W.seq (W.run (by simp only[am,evOp,simprocAttr,c1]<;>rfl) ?_))
 refine W.no (by simp only[am,evOp,simprocAttr,decide_false]) (W.skip ?_)
 refine W.seq (W.seq (W.run (by simp only[am,evOp,simprocAttr,w1]<;>rfl) ?_))
 have hxl:(a++y::b').length=a.length+1+b'.length:=by simp; omega
 have hta:(a++y::b').take a.length=((a++y::b').take (a.length+1)).filter fun x=>!P x:=by
  rw[List.take_left' rfl,show a++y::b'=(a++[y])++b' by simp,List.take_left' (by simp),List.filter_append,keep_all q2]
  simp [q3]
 generalize a++y::b'=zs at *
 generalize hal:a.length=k0 at *
 rcases hv with ⟨_,hz⟩|⟨b,m,hb,rfl,gb,hbl⟩
 ·exfalso
  have:=congrArg List.length hz
  rw[flat_len (f:=eI) (e:=1) (fun _=>rfl)] at this
  have this:zs.length*1=0:=this
  omega
 have hm:zs.length=m:=by rw[flat_len (f:=eI) (e:=1) (fun _=>rfl)] at hbl; omega
 subst hm
 have hbn:=AH.lt_of_get gb
 have gb1:h1.get b=some (.cells (zs.flatMap eI) 1 false):=by rw[x1.gt _ hbn]; exact gb
 refine W.cut (fun ts h'=>∃ (i:Nat) (ys:List Int),i<zs.length∧ys.length=zs.length∧ys.take i=zs.filter (fun x=>!P x)∧h'.get b=some (.cells (ys.flatMap eI) 1 false)∧Ext lo h h'∧Held [(0,.sl b 0 zs.length zs.length),(5,.int .i64 (i:Nat))] ts) ?_ ?_
 ·refine W.block (W.loop (fun n ts h'=>∃ (i j:Nat) (ys:List Int),n=zs.length-j∧i<j∧j≤zs.length∧ys.length=zs.length∧ys.take i=(zs.take j).filter (fun x=>!P x)∧ys.drop j=zs.drop j∧h'.get b=some (.cells (ys.flatMap eI) 1 false)∧Ext lo h h' ∧
   Held [(0,.sl b 0 zs.length zs.length),(1,.fn f caps),(5,.int .i64 (i:Nat)),(6,.int .i64 (j:Nat))] ts) ?_ (n:=zs.length-(k0+1))
   ⟨k0,k0+1,zs,rfl,by omega,by omega,rfl,hta,rfl,gb1,X1,by simp only[hl,am,evOp,simprocAttr,initTm]⟩)
  rintro n ts h2 ⟨i,j,ys,rfl,p1,p2,p3,p4,p5,p6,p7,e0,e1,e5,e6,-⟩
  simp only at e0 e1 e5 e6
  have n2:=p7.nx
  refine W.seq (W.seq (W.run (by simp only[am,evOp,simprocAttr,e0,e6]<;>rfl) ?_))
  by_cases hj:j<zs.length
  ·have c2:decide (((j:Nat):Int)<((zs.length:Nat):Int))=true:=decide_eq_true (by omega)
   refine W.yes (by simp only[am,evOp,simprocAttr,c2]) (W.skip ?_)
   obtain⟨hy,k1,k2,k3,k4⟩:=del_step (P:=P) p3 p1 hj p4 p5
   have hsy:Sl h2 1 (.sl b 0 zs.length zs.length) (ys.map eI):=IsSl.sl (lo:=lo) (by omega) (fun _=>rfl) (.inr ⟨b,zs.length,hb,rfl,p6,by rw[flat_len (f:=eI) (e:=1) (fun _=>rfl),p3]⟩)
   obtain⟨qb,qp,a1,r1,_⟩:=hsy.at1 (map_at (f:=eI) hy)
   rw[k1] at r1
   have X3:=p7
   have g3:=p6
   have w3:IntKind.i64.wrap (((j:Nat):Int)+1)=((j+1:Nat):Int):=wr64 (by omega) (by omega)
   have w4:IntKind.i64.wrap (((i:Nat):Int)+1)=((i+1:Nat):Int):=wr64 (by omega) (by omega)
   have hc:=hf zs[j] (List.getElem_mem hj) h2 X3
   refine W.seq (W.block (W.seq (W.run (by simp only[am,evOp,simprocAttr,e0,e6,a1,r1]<;>rfl) ?_)))
   refine W.seq (W.reg (G.gcallv 2 (by simp only[am,evOp,simprocAttr,e1]<;>rfl) rfl (by simp only[am,evOp,simprocAttr,e1]) (by simp only[am,evOp,simprocAttr,e1]<;>rfl) (by simp only[am,evOp,simprocAttr,e1]<;>rfl) (hc) fun r h4 hq=>?_))
   obtain⟨rfl,x4⟩:=hq
   refine G.run (by simp only[am,evOp,simprocAttr]<;>rfl) ?_
   have n4:=x4.nx
   have g4:h4.get b=some (.cells (ys.flatMap eI) 1 false):=by rw[x4.gt _ (by have:=AH.lt_of_get g3; omega)]; exact g3
   have X4:Ext lo h h4:=X3.trans (x4.mono (by omega))
   have ii:idx? ((i:Nat):Int) zs.length=some i:=idx_nat (by omega)
   cases q:P zs[j] with
   | true =>
     refine W.no (by simp only[am,evOp,simprocAttr,q]) (W.skip ?_)
     refine W.run (by simp only[am,evOp,simprocAttr,e6,w3]<;>rfl) ?_
     exact⟨zs.length-(j+1),by omega,i,j+1,ys,rfl,by omega,by omega,p3,k3 q,k2,g4,X4,by simp only[hl,am,evOp,simprocAttr,e0,e1,e5]⟩
   | false =>
     refine W.yes (by simp only[am,evOp,simprocAttr,q]) ?_
     have wq:=wr_flat (f:=eI) (e:=1) (fun _=>rfl) (x:=zs[j]) g4 (i:=i) (by omega)
     rw[Nat.mul_one] at wq
     have wq:wrCells h4 b i [.int .i64 zs[j]]=_:=wq
     have u5:=Upd.put (o:=.cells ((ys.set i zs[j]).flatMap eI) 1 false) g4
     refine W.seq (W.run (by simp only[am,evOp,simprocAttr,e0,e5,ii,Nat.mul_one,wq]<;>rfl) ?_)
     refine W.run (by simp only[am,evOp,simprocAttr,e5,w4]<;>rfl) ?_
     refine W.run (by simp only[am,evOp,simprocAttr,e6,w3]<;>rfl) ?_
     exact⟨zs.length-(j+1),by omega,i+1,j+1,ys.set i zs[j],rfl,by omega,by omega,by rw[List.length_set]; exact p3,(k4 q).1,(k4 q).2,u5.get,X4.trans (u5.ext hb),by simp only[hl,am,evOp,simprocAttr,e0,e1]⟩
  ·have c2:decide (((j:Nat):Int)<((zs.length:Nat):Int))=false:=decide_eq_false (by omega)
   refine W.no (by simp only[am,evOp,simprocAttr,c2]) ?_
   have hjj:j=zs.length:=by omega
   subst hjj
   rw[List.take_length] at p4
   exact W.exit ⟨fun _=>⟨i,ys,p1,p3,p4,p6,p7,by simp only[hl,am,evOp,simprocAttr,e0,e5]⟩,fun e=>absurd rfl e⟩
 ·rintro ts h2 ⟨i,ys,p1,p3,p4,p6,p7,e0,e5,-⟩
  simp only at e0 e5
  obtain⟨h3,us,s1,u3,s3,s4⟩:=scl_flat (f:=eI) (e:=1) (z:=(0:Int)) (by omega) (fun _=>rfl) rfl p6 p3 p1
  have s1:sclA h2 [.int .i64 0] (.sl b (i*1) (zs.length-i) (zs.length-i))=some (.un,h3):=s1
  have hsy:Sl h2 1 (.sl b 0 zs.length zs.length) (ys.map eI):=IsSl.sl (lo:=lo) (by omega) (fun _=>rfl) (.inr ⟨b,zs.length,hb,rfl,p6,by rw[flat_len (f:=eI) (e:=1) (fun _=>rfl),p3]⟩)
  have hsu:Sl h3 1 (.sl b 0 zs.length zs.length) (us.map eI):=IsSl.sl (lo:=lo) (by omega) (fun _=>rfl) (.inr ⟨b,zs.length,hb,rfl,u3.get,by rw[flat_len (f:=eI) (e:=1) (fun _=>rfl),s3]⟩)
  have sv:slV h2 1 (.sl b 0 zs.length zs.length) (some (.int .i64 (i:Nat))) none none=some (.sl b (i*1) (zs.length-i) (zs.length-i)):=by
   simp only[slV,p6,if_true,bnds,bnd_nat (show i≤zs.length by omega),Option.map_some,Option.isSome_none,Bool.false_eq_true,if_false]
   rw[if_neg (by omega),Nat.zero_add]
  obtain⟨r,t1,t2,t3,_⟩:=hsu.upto (hi:=i) (by rw[List.length_map]; omega)
  rw[← List.map_take,s4,p4] at t2
  refine W.seq (W.run (by simp only[am,evOp,simprocAttr,e0,e5,slLA_eq,Option.map_none,Option.map_some,sv,s1]<;>rfl) ?_)
  refine W.seq (W.run (by simp only[am,evOp,simprocAttr,e0,e5,slLA_eq,Option.map_none,Option.map_some,t1]<;>rfl) ?_)
  have rc:=t2.cells
  refine W.ret ⟨r,(by simp only[rs,rf21,am,evOp,simprocAttr,rc.1]<;>rfl),t2,p7.trans (u3.ext hb),fun b' o n c e=>?_⟩
  have:=t3 (fun b=>lo≤b) hb
  rw[e] at this
  exact this
theorem ins_nil {h:AH}:C prg 43 [.nils,.int .i64 0,.int .i64 0] h fun _ h'=>h'=h:=by
 refine C.func pf43 ?_
 refine W.seq (W.run (by simp only[am,evOp,↓reduceIte,Nat.reduceEqDiff,Int.reduceEq,Nat.reduceAdd,Nat.reduceLeDiff,reduceCtorEq,initTm,wr64 (z:=0+1) (by decide) (by decide)]<;>rfl) ?_)
 refine W.block (W.loop (fun n ts h1=>h1=h∧tget ts 2=.int .i64 0∧tget ts 6=.int .i64 (0+1)) ?_ (n:=0) ⟨rfl,by simp only[am,evOp,↓reduceIte,Nat.reduceEqDiff,Int.reduceEq,Nat.reduceAdd,Nat.reduceLeDiff,reduceCtorEq,initTm],by simp only[am,evOp,↓reduceIte,Nat.reduceEqDiff,Int.reduceEq,Nat.reduceAdd,Nat.reduceLeDiff,reduceCtorEq,initTm]⟩)
 rintro n ts h1 ⟨rfl,e2,e6⟩
 refine W.seq (W.seq (W.run (by simp only[am,evOp,simprocAttr,e2,e6]<;>rfl) ?_))
 refine W.no (by simp only[am,evOp,simprocAttr]; rfl) ?_
 exact W.exit ⟨fun _=>⟨.tup [],rfl,rfl⟩,fun e=>absurd rfl e⟩
theorem pdq_nil {h:AH}{l:Int}:C prg 32 [.nils,.int .i64 0,.int .i64 0,.int .i64 l] h fun _ h'=>h'=h:=by
 refine C.func pf32 ?_
 refine W.seq (W.run (by simp only[am,evOp,simprocAttr,initTm]<;>rfl) ?_)
 refine W.seq (W.run (by simp only[am,evOp,simprocAttr,initTm]<;>rfl) ?_)
 refine W.block (W.loop (fun n ts h1=>h1=h∧tget ts 0=.nils∧tget ts 1=.int .i64 0∧tget ts 2=.int .i64 0) ?_ (n:=0) ⟨rfl,by simp only[am,evOp,simprocAttr,initTm],by simp only[am,evOp,simprocAttr,initTm],by simp only[am,evOp,simprocAttr,initTm]⟩)
 rintro n ts h1 ⟨rfl,e0,e1,e2⟩
 refine W.block (W.seq (W.run (by simp only[am,evOp,simprocAttr,e1,e2,wr64 (z:=0-0) (by decide) (by decide)]<;>rfl) ?_))
 refine W.seq (W.seq (W.run (by simp only[am,evOp,simprocAttr]<;>rfl) ?_))
 refine W.yes (by simp only[am,evOp,simprocAttr]; rfl) ?_
 refine W.seq (W.reg (G.gcall 3 (by simp only[am,evOp,simprocAttr,e0,e1,e2]<;>rfl) rfl (by simp only[am,evOp,simprocAttr,e0,e1,e2]) (by simp only[am,evOp,simprocAttr,e0,e1,e2]<;>rfl) (ins_nil) fun v h2 u=>?_))
 subst u
 refine G.run (by simp only[am,evOp,simprocAttr]<;>rfl) ?_
 exact W.ret ⟨.tup [],rfl,rfl⟩
theorem sort_nil {h:AH}:C prg 18 [.nils] h fun _ h'=>h'=h:=by
 refine C.func pf18 ?_
 refine W.seq (W.run (by simp only[am,evOp,simprocAttr,initTm,lenLA_nils]<;>rfl) ?_)
 have wu:IntKind.u64.wrap 0=0:=by decide
 refine W.reg (G.gcall 4 (by simp only[am,evOp,simprocAttr,initTm,wu]<;>rfl) rfl (by simp only[am,evOp,simprocAttr,initTm,wu]) (by simp only[am,evOp,simprocAttr,initTm,wu]<;>rfl) (blen_zero) fun v h1 hq=>?_)
 obtain⟨rfl,rfl⟩:=hq
 refine G.callq (by simp only[am,evOp,simprocAttr,initTm]) (by simp only[am,evOp,simprocAttr,initTm]<;>rfl) (pdq_nil) fun v h2 hq=>?_
 subst hq
 refine G.run (by simp only[am,evOp,simprocAttr]<;>rfl) ?_
 exact⟨.tup [],rfl,rfl⟩
def sortN (l:List Nat):List Nat:=l.mergeSort fun a b=>decide (a≤b)
theorem sortN_perm (l:List Nat):(sortN l).Perm l:=List.mergeSort_perm l _
theorem sortN_le (l:List Nat):(sortN l).Pairwise (·≤·):=by
 have:=List.pairwise_mergeSort (le:=fun a b:Nat=>decide (a≤b)) (fun a b c h1 h2=>by simp only[decide_eq_true_eq] at *; omega) (fun a b=>by simp only[Bool.or_eq_true,decide_eq_true_eq]; omega) l
 exact this.imp fun h=>of_decide_eq_true h
theorem nC_map (l:List Nat):nC l=(l.map fun n=>((n:Nat):Int)).map (AV.int .i64):=by
 unfold nC
 generalize l.map (fun n=>((n:Nat):Int))=zs
 induction zs with
 | nil=>rfl
 | cons z r ih=>rw[List.flatMap_cons,List.map_cons,ih]; rfl
theorem srtI_nC (l:List Nat):srtI (l.map fun n=>((n:Nat):Int))=nC (sortN l):=by
 rw[nC_map]
 unfold srtI sortN
 congr 1
 exact (List.map_mergeSort fun a _ b _=>by rw[decide_eq_decide]; omega).symm
theorem sortS_ok {h:AH}{lo:Nat}{v:AV}{l:List Nat} (hv:IsSl h 1 lo v (nC l)) (hl:l.length<2 ^ 40) :
 C prg 18 [v] h fun _ h'=>IsSl h' 1 lo v (nC (sortN l))∧(∀ c,(∀ n,v≠.sl c 0 n n)→h'.get c=h.get c)∧h'.next=h.next∧∀ c,h'.tyOf c=h.tyOf c:=by
 rcases hv with ⟨rfl,hz⟩|⟨b,n,h1,rfl,hg,hn⟩
 ·refine (sort_nil (h:=h)).mono fun _ h' hq=>?_
  subst hq
  have hl0:l=[]:=by
   have:=congrArg List.length hz
   rw[nC_len] at this
   exact List.length_eq_zero_iff.1 this
  subst hl0
  exact⟨.inl ⟨rfl,by simp [sortN,nC]⟩,fun _ _=>rfl,rfl,fun _=>rfl⟩
 ·rw[nC_len,Nat.mul_one] at hn
  have hs:(sortN l).length=n:=by rw[(sortN_perm l).length_eq,hn]
  have hrd:rdCells h b 0 n=some ((l.map fun n=>((n:Nat):Int)).map (AV.int .i64)):=by
   rw[rdCells_of hg,nC_map,if_pos (by simp; omega),List.drop_zero,List.take_of_length_le (by simp; omega)]
  have hwr:wrCells h b 0 (srtI (l.map fun n=>((n:Nat):Int)))=some (h.put b (.cells (nC (sortN l)) 1 false)):=by
   rw[srtI_nC,wrCells_of hg,if_pos (by rw[nC_len,nC_len]; omega)]
   congr 3
   unfold splice
   rw[List.take_zero,List.nil_append,Nat.zero_add,List.drop_eq_nil_of_le (by rw[nC_len,nC_len]; omega),List.append_nil]
  have u:=Upd.put (o:=.cells (nC (sortN l)) 1 false) hg
  exact BS.srt ps18 hrd hwr (by omega) ⟨_,_,rfl,.inr ⟨b,n,h1,rfl,u.get,by rw[nC_len]; omega⟩,fun c hc=>u.ne fun e=>hc n (by rw[e]),u.nx,u.ty⟩
theorem idxfJ_ok {h:AH}{v:AV}{xs:List Int}{P:Int→Bool}{k:FuncId}{caps:List AV} (J:Nat→AH→Prop) (K:Nat→AH→Prop) (hv:lenLA v=some (.int .i64 (xs.length:Nat))) (hl:xs.length<2 ^ 40) (h0:J 0 h) (hJ:∀ i h',J i h'→SlI h' v xs)
 (hf:∀ (i:Nat) (hi:i<xs.length) h',J i h'→C prg k ([.int .i64 xs[i]]++caps) h' fun r h''=>r=.bool (P xs[i])∧(if P xs[i] then K i h'' else J (i+1) h'')) :
 C prg 34 [v,.fn k caps] h fun r h'=>r=.int .i64 (fidx P xs 0)∧((xs.any P=false∧J xs.length h')∨(xs.any P=true∧∃ i,K i h')):=by
 refine C.func pf34 ?_
 refine W.seq (W.run (by simp only[am,evOp,simprocAttr,initTm]<;>rfl) ?_)
 refine W.seq (W.seq (W.run (by simp only[am,evOp,simprocAttr,initTm,hv]<;>rfl) ?_))
 refine W.seq (W.cut (fun ts h1=>fidx P xs 0=-1∧J xs.length h1) (W.block (W.loop (fun n ts h1=>∃ i,n=xs.length-i∧i≤xs.length∧J i h1∧fidx P (xs.drop i) i=fidx P xs 0∧tget ts 0=v∧tget ts 1=.fn k caps∧tget ts 7=.int .i64 (xs.length:Nat)∧tget ts 8=.int .i64 (i:Nat)) ?_ (n:=xs.length) ⟨0,rfl,Nat.zero_le _,h0,by rw[List.drop_zero],by simp only[am,evOp,simprocAttr,initTm],by simp only[am,evOp,simprocAttr,initTm],by simp only[am,evOp,simprocAttr,initTm,Int.natCast_zero]⟩)) ?_)
 ·rintro n ts h1 ⟨i,rfl,hi,ex,hF,e0,e1,e7,e8⟩
  refine W.seq (W.run (by simp only[am,evOp,simprocAttr,e7,e8]<;>rfl) ?_)
  refine W.seq (W.cond (t:=decide (i<xs.length)) (by simp only[am,evOp,simprocAttr,Int.ofNat_lt]) (fun q=>?_) fun q=>?_)
  ·have q:i<xs.length:=of_decide_eq_true q
   obtain⟨b,p,a1,r1,_,_⟩:=(hJ i h1 ex).at (map_at (f:=eI) q)
   refine W.skip (W.seq (W.block (W.seq (W.run (by simp only[am,evOp,simprocAttr,e8]<;>rfl) ?_))))
   have hc:=hf i q h1 ex
   refine W.seq (W.reg (G.gcallv 5 (by simp only[am,evOp,simprocAttr,e0,e1,e7,e8,a1,r1,packA_one,eI]<;>rfl) rfl (by simp only[am,evOp,simprocAttr,e0,e1,e7,e8,a1,r1,packA_one,eI]) (by simp only[am,evOp,simprocAttr,e0,e1,e7,e8,a1,r1,packA_one,eI]<;>rfl) (by simp only[am,evOp,simprocAttr,e0,e1,e7,e8,a1,r1,packA_one,eI]<;>rfl) (hc) fun r h2 hq=>?_))
   obtain⟨rfl,ex2⟩:=hq
   refine G.run (by simp only[am,evOp,simprocAttr]<;>rfl) ?_
   have hlo:=fidx_lo P xs 0
   refine W.cond (t:=P xs[i]) (by simp only[am,evOp,simprocAttr]) (fun q2=>?_) fun q2=>?_
   ·rw[if_pos q2] at ex2
    refine W.seq (W.run (by simp only[am,evOp,simprocAttr]<;>rfl) ?_)
    refine W.ret ⟨.int .i64 (i:Nat),(by simp only[rs,rf34,am,evOp,simprocAttr]<;>rfl),?_,.inr ⟨List.any_eq_true.2 ⟨_,List.getElem_mem q,q2⟩,i,ex2⟩⟩
    rw[← hF,fidx_drop P q,if_pos q2]
   ·rw[if_neg (by simp [q2])] at ex2
    have w1:IntKind.i64.wrap (((i:Nat):Int)+1)=((i+1:Nat):Int):=wr64 (by omega) (by omega)
    refine W.skip (W.run (by simp only[am,evOp,simprocAttr,e8,w1]<;>rfl) ?_)
    refine⟨xs.length-(i+1),by omega,i+1,rfl,by omega,ex2,?_,by simp only[am,evOp,simprocAttr,e0],by simp only[am,evOp,simprocAttr,e1],by simp only[am,evOp,simprocAttr,e7],by simp only[am,evOp,simprocAttr,e8,w1]⟩
    rw[← hF,fidx_drop P q,if_neg (by simp [q2])]
  ·have q:¬ i<xs.length:=of_decide_eq_false q
   have e:i=xs.length:=by omega
   subst e
   refine W.exit ⟨fun _=>⟨?_,ex⟩,fun e=>absurd rfl e⟩
   rw[← hF,List.drop_eq_nil_of_le (by omega)]
   rfl
 ·rintro ts h1 ⟨hF,ex⟩
  refine W.seq (W.run (by simp only[am,evOp,simprocAttr]<;>rfl) ?_)
  refine W.ret ⟨.int .i64 (-1),(by simp only[rs,rf34,am,evOp,simprocAttr]<;>rfl),by rw[hF],.inl ⟨?_,ex⟩⟩
  exact (fidx_lo P xs 0).2.1 (by omega)
theorem contfJ_ok {h:AH}{v:AV}{xs:List Int}{P:Int→Bool}{k:FuncId}{caps:List AV} (J:Nat→AH→Prop) (K:Nat→AH→Prop) (hv:lenLA v=some (.int .i64 (xs.length:Nat))) (hl:xs.length<2 ^ 40) (h0:J 0 h) (hJ:∀ i h',J i h'→SlI h' v xs)
 (hf:∀ (i:Nat) (hi:i<xs.length) h',J i h'→C prg k ([.int .i64 xs[i]]++caps) h' fun r h''=>r=.bool (P xs[i])∧(if P xs[i] then K i h'' else J (i+1) h'')) :
 C prg 19 [v,.fn k caps] h fun r h'=>r=.bool (xs.any P)∧((xs.any P=false∧J xs.length h')∨(xs.any P=true∧∃ i,K i h')):=by
 refine C.func pf19 ?_
 refine W.seq (W.run (by simp only[am,evOp,simprocAttr,initTm]<;>rfl) ?_)
 refine W.seq (W.reg (G.gcall 2 (by simp only[am,evOp,simprocAttr,initTm]<;>rfl) rfl (by simp only[am,evOp,simprocAttr,initTm]) (by simp only[am,evOp,simprocAttr,initTm]<;>rfl) (idxfJ_ok J K hv hl h0 hJ hf) fun r h2 hq=>?_))
 obtain⟨rfl,ex⟩:=hq
 have hb:decide ((0:Int)≤fidx P xs 0)=xs.any P:=by
  have:=(fidx_lo P xs 0).2
  cases hq:xs.any P with
  | true=>rw[decide_eq_true_eq]; rw[hq] at this; simp at this; omega
  | false=>rw[decide_eq_false_iff_not]; have:=this.2 hq; omega
 refine G.run (by simp only[am,evOp,simprocAttr,hb]<;>rfl) ?_
 exact W.ret ⟨_,(by simp only[rs,rf19,am,evOp,simprocAttr]<;>rfl),rfl,ex⟩
end Go.Proofs.YtldkniahgagocaaGreat
