/-
  The functions in the clean machine's form: printed by a program of ours, checked by the kernel. Slices that came in, as they lie in the clean machine's memory. slices.IndexFunc, Index, ContainsFunc, Contains (printed by tools/mkfnd.py). slices.Clone, slices.Equal (printed by tools/mkcln.py). slices.Grow of nothing, Concat, Min, Reverse (printed by tools/mkcat.py).
-/
import Derived.Test.YtpeemonpdlifbaaQTAB
import Derived.Test.YtpeemonpdlifbaaQAmK
import Derived.Test.YtpeemonpdlifbaaQAmEnd
import Derived.Test.YtpeemonpdlifbaaQAmR
import Derived.Test.YtpeemonpdlifbaaQAmL
set_option linter.all false
namespace Go.Proofs.Ytpeemonpdlifbaa
open Go.Am
set_option maxRecDepth 100000
def mks:List (Nat×RF):=[(83,srtRF),(34,srfRF 35)]
def tab:List (Nat×RF):=[(5,rf5),(6,rf6),(7,rf7),(8,rf8),(9,rf9),(10,rf10),(17,rf17),(18,rf18),(19,rf19),(20,rf20),(21,rf21),(22,rf22),(23,rf23),(24,rf24),(30,rf30),(31,rf31),(32,rf32),(33,rf33),(34,rf34),(36,rf36),(37,rf37),(38,rf38),(39,rf39),(40,rf40),(41,rf41),(42,rf42),(47,rf47),(48,rf48),(49,rf49),(50,rf50),(51,rf51),(52,rf52),(53,rf53),(54,rf54),(55,rf55),(56,rf56),(57,rf57),(58,rf58),(59,rf59),(60,rf60),(61,rf61),(62,rf62),(63,rf63),(64,rf64),(65,rf65),(74,rf74),(75,rf75),(76,rf76),(77,rf77),(78,rf78),(79,rf79),(80,rf80),(81,rf81),(82,rf82),(83,rf83),(84,rf84),(90,rf90),(91,rf91),(92,rf92),(93,rf93),(95,rf95)]
noncomputable def prg:RP:=fun f=>lkp tab f (prgM Try.prog mks f)
theorem pf5:prg 5=some rf5:=rfl
theorem pf6:prg 6=some rf6:=rfl
theorem pf7:prg 7=some rf7:=rfl
theorem pf8:prg 8=some rf8:=rfl
theorem pf9:prg 9=some rf9:=rfl
theorem pf10:prg 10=some rf10:=rfl
theorem pf17:prg 17=some rf17:=rfl
theorem pf18:prg 18=some rf18:=rfl
theorem pf19:prg 19=some rf19:=rfl
theorem pf20:prg 20=some rf20:=rfl
theorem pf21:prg 21=some rf21:=rfl
theorem pf22:prg 22=some rf22:=rfl
theorem pf23:prg 23=some rf23:=rfl
theorem pf24:prg 24=some rf24:=rfl
theorem pf30:prg 30=some rf30:=rfl
theorem pf31:prg 31=some rf31:=rfl
theorem pf32:prg 32=some rf32:=rfl
theorem pf33:prg 33=some rf33:=rfl
theorem pf34:prg 34=some rf34:=rfl
theorem pf36:prg 36=some rf36:=rfl
theorem pf37:prg 37=some rf37:=rfl
theorem pf38:prg 38=some rf38:=rfl
theorem pf39:prg 39=some rf39:=rfl
theorem pf40:prg 40=some rf40:=rfl
theorem pf41:prg 41=some rf41:=rfl
theorem pf42:prg 42=some rf42:=rfl
theorem pf47:prg 47=some rf47:=rfl
theorem pf48:prg 48=some rf48:=rfl
theorem pf49:prg 49=some rf49:=rfl
theorem pf50:prg 50=some rf50:=rfl
theorem pf51:prg 51=some rf51:=rfl
theorem pf52:prg 52=some rf52:=rfl
theorem pf53:prg 53=some rf53:=rfl
theorem pf54:prg 54=some rf54:=rfl
theorem pf55:prg 55=some rf55:=rfl
theorem pf56:prg 56=some rf56:=rfl
theorem pf57:prg 57=some rf57:=rfl
theorem pf58:prg 58=some rf58:=rfl
theorem pf59:prg 59=some rf59:=rfl
theorem pf60:prg 60=some rf60:=rfl
theorem pf61:prg 61=some rf61:=rfl
theorem pf62:prg 62=some rf62:=rfl
theorem pf63:prg 63=some rf63:=rfl
theorem pf64:prg 64=some rf64:=rfl
theorem pf65:prg 65=some rf65:=rfl
theorem pf74:prg 74=some rf74:=rfl
theorem pf75:prg 75=some rf75:=rfl
theorem pf76:prg 76=some rf76:=rfl
theorem pf77:prg 77=some rf77:=rfl
theorem pf78:prg 78=some rf78:=rfl
theorem pf79:prg 79=some rf79:=rfl
theorem pf80:prg 80=some rf80:=rfl
theorem pf81:prg 81=some rf81:=rfl
theorem pf82:prg 82=some rf82:=rfl
theorem pf83:prg 83=some rf83:=rfl
theorem pf84:prg 84=some rf84:=rfl
theorem pf90:prg 90=some rf90:=rfl
theorem pf91:prg 91=some rf91:=rfl
theorem pf92:prg 92=some rf92:=rfl
theorem pf93:prg 93=some rf93:=rfl
theorem pf95:prg 95=some rf95:=rfl
theorem ps83:prg (83+srtN)=some srtRF:=rfl
theorem ps34:prg (34+srtN)=some (srfRF 35):=rfl
theorem det:Det (orcl Try.prog mks) prg:=det_lkp (by simp only[mks,List.forall_mem_cons]; exact⟨rfl,rfl,fun _ h=>by cases h⟩) rfl ⟨cf5,cf6,cf7,cf8,cf9,cf10,cf17,cf18,cf19,cf20,cf21,cf22,cf23,cf24,cf30,cf31,cf32,cf33,cf34,cf36,cf37,cf38,cf39,cf40,cf41,cf42,cf47,cf48,cf49,cf50,cf51,cf52,cf53,cf54,cf55,cf56,cf57,cf58,cf59,cf60,cf61,cf62,cf63,cf64,cf65,cf74,cf75,cf76,cf77,cf78,cf79,cf80,cf81,cf82,cf83,cf84,cf90,cf91,cf92,cf93,cf95,trivial⟩
end Go.Proofs.Ytpeemonpdlifbaa
namespace Go.Proofs.Ytpeemonpdlifbaa
open Go.Am
open Go.RowKit
theorem sl_flat {α:Type}{f:α→List AV}{h:AH}{e b n:Nat}{xs:List α}{ro:Bool} (hf:∀ x,(f x).length=e) (hg:h.get b=some (.cells (xs.flatMap f) e ro)) (hn:n=xs.length):Sl h e (.sl b 0 n n) (xs.map f):=by
 subst hn
 have hl:=flat_len hf xs
 refine .inr ⟨b,0,xs.length,_,ro,by rw[List.length_map],hg,by rw[List.length_map]; exact Nat.le_refl _,by rw[List.length_map,hl]; omega,fun i x hx=>?_⟩
 rw[List.getElem?_map] at hx
 obtain⟨y,hy,rfl⟩:=Option.map_eq_some_iff.1 hx
 rw[Nat.zero_add]
 exact flat_at hf xs i y hy
def pairsI:List Int→List (Int×Int)
 | x::y::r=>(x,y)::pairsI r
 | _=>[]
theorem flat_pairs:∀ (n:Nat) (ns:List Int),ns.length=n*2→(pairsI ns).flatMap eE=ns.map (AV.int .i64)∧(pairsI ns).length=n
 | 0,[],_=>⟨rfl,rfl⟩
 | n+1,x::y::r,h=>by
   have ih:=flat_pairs n r (by simp only[List.length_cons] at h; omega)
   refine⟨?_,?_⟩
   ·simp only[pairsI,List.flatMap_cons,eE,List.map_cons,List.cons_append,List.nil_append]
    rw[← ih.1]
   ·simp only[pairsI,List.length_cons,ih.2]
 | 0,_::_,h=>by simp at h
 | n+1,[],h=>by simp at h
 | n+1,[x],h=>by simp only[List.length_cons,List.length_nil] at h; omega
theorem rowE1 {K:Bs}{σ:Sg}{h:AH}{w:World} (r:Rep K σ h w) (hB:K.B=w.heap.size) {k:IntKind}{e:Nat} (he:0<e) {a:Option Addr}{len cap:Nat}{zs:List Int} (hr:IsRowE k e w a len cap zs) (hspot:∀ x,a=some x→x.spot=none) :
 ∃ σ' o v,σ.le σ'∧Rep K σ' (h.new o) w∧VR σ' v (.slice a len cap)∧((v=.nils∧len=0)∨(v=.sl h.next 0 len len∧o=.cells ((zs.take (len*e)).map (AV.int k)) e true∧(zs.take (len*e)).length=len*e)):=by
 rcases hr with ⟨rfl,rfl,rfl,rfl⟩|⟨x,rfl,h1,h2,h3,h4,h5⟩
 ·obtain⟨σ',q1,q2⟩:=r.dummy
  exact⟨σ',_,.nils,q1,q2,by simp [VR],.inl ⟨rfl,rfl⟩⟩
 ·have hsp:=hspot x rfl
  have hadd:∀ j,x.add j=⟨x.block,x.off+j,none⟩:=by
   intro j
   obtain⟨xb,xo,xs⟩:=x
   simp only at hsp
   subst hsp
   exact Addr.add_lit _ _ _
  have hle:len*e≤cap*e:=Nat.mul_le_mul_right e h1
  have hl:(zs.take (len*e)).length=len*e:=by rw[List.length_take]; omega
  cases zs with
  | nil =>
    simp only[List.length_nil] at h3
    have e2:cap=0:=by
     rcases Nat.eq_zero_or_pos cap with q|q
     ·exact q
     ·have:=Nat.mul_pos q he; omega
    have e1:len=0:=by omega
    subst e1
    subst e2
    refine⟨σ.add h.next ⟨x.block,x.off,e,0,0⟩,.cells [] e true,.sl h.next 0 0 0,Sg.le_add r.fresh,r.came [] e _ rfl (.inl rfl),?_,.inr ⟨rfl,by rw[Nat.zero_mul]; rfl,hl⟩⟩
    simp only[VR]
    exact⟨_,x.off,0,Sg.add_at _ _ _,by obtain⟨xb,xo,xs⟩:=x; simp only at hsp; subst hsp; rfl,.inl trivial,Nat.le_refl _,Nat.le_refl _,.inl rfl⟩
  | cons z zs =>
    have h40:=h4 0 (by simp)
    rw[hadd] at h40
    unfold World.cell? at h40
    simp only at h40
    split at h40
    ·rename_i C t fr hC
     have hall:∀ i,i<(z::zs).length→C[x.off+i]?=some (.int k ((z::zs).getD i 0)):=by
      intro i hi
      have:=h4 i hi
      rw[hadd] at this
      simpa [World.cell?,hC] using this
     have hN:x.off+cap*e≤C.size:=by
      have:=hall (cap*e-1) (by simp at h3 ⊢; omega)
      have hlt:=(Array.getElem?_eq_some_iff.1 this).1
      simp at h3
      omega
     have hblk:x.block<w.heap.size:=(Array.getElem?_eq_some_iff.1 hC).1
     refine⟨σ.add h.next ⟨x.block,x.off,e,C.size,t⟩,.cells (((z::zs).take (len*e)).map (AV.int k)) e true,.sl h.next 0 len len,Sg.le_add r.fresh,r.came _ e _ rfl (.inr ⟨by rw[hB]; exact hblk,fun τ _=>?_⟩),?_,.inr ⟨rfl,rfl,hl⟩⟩
     ·refine⟨C,t,fr,hC,rfl,rfl,?_,fun j y hy=>?_,fun q=>by (cases q),rfl⟩
      ·show x.off+_≤C.size
       rw[List.length_map,hl]; omega
      ·have hj:j<len*e:=by
        rcases Nat.lt_or_ge j (len*e) with q|q
        ·exact q
        ·rw[List.getElem?_eq_none (by rw[List.length_map,hl]; exact q)] at hy; cases hy
       rw[List.getElem?_map,List.getElem?_take,if_pos hj] at hy
       refine⟨.int k ((z::zs).getD j 0),hall j (by omega),?_⟩
       rw[List.getD_eq_getElem?_getD]
       cases hq:(z::zs)[j]? with
       | none=>rw[hq] at hy; cases hy
       | some u=>rw[hq] at hy; simp only[Option.map_some,Option.some.injEq] at hy; subst hy; simp [VR]
     ·simp only[VR]
      refine⟨_,x.off,cap,Sg.add_at _ _ _,by obtain⟨xb,xo,xs⟩:=x; simp only at hsp; subst hsp; rfl,.inr (by simp),h1,Nat.le_refl _,.inr ⟨Nat.le_refl _,?_⟩⟩
      show x.off+cap*e≤C.size
      omega
    ·cases h40
theorem came_g {w:World}{P:Program}{a0:Option Addr}{l0 c0:Nat}{z0:List Int} (w0:IsRowE .i64 2 w a0 l0 c0 z0) (s0:∀ x,a0=some x→x.spot=none) :
 ∃ (σ:Sg) (os:List AO) (v0:AV),os.length=1∧GL σ∧Rep ⟨w.heap.size,w,P,[]⟩ σ (news os AH.zero) w∧VR σ v0 (.slice a0 l0 c0)∧SlE (news os AH.zero) v0 (pairsI (z0.take (l0*2))):=by
 have st:=St0.zero P w
 obtain⟨σ1,o0,v0,r1,r2,r3,r4⟩:=rowE1 st.rep rfl (by decide) w0 s0
 refine⟨σ1,[o0],v0,rfl,st.gl.mono r1,r2,r3,?_⟩
 rcases r4 with ⟨h1,h2⟩|⟨h1,h2,h3⟩
 ·subst h1 h2
  exact .inl ⟨by simp [pairsI],.inl rfl⟩
 ·subst h1
  obtain⟨f1,f2⟩:=flat_pairs l0 (z0.take (l0*2)) h3
  refine sl_flat (f:=eE) (ro:=true) (fun _=>rfl) ?_ (by rw[f2])
  show (AH.zero.new o0).get AH.zero.next=_
  rw[AH.get_new,if_pos rfl,h2,f1]
end Go.Proofs.Ytpeemonpdlifbaa
namespace Go.Proofs.Ytpeemonpdlifbaa
open Go.Am
theorem idxfE_ok {h:AH}{v:AV}{xs:List (Int×Int)}{P:Int×Int→Bool}{k:FuncId}{caps:List AV} (hv:SlE h v xs) (hl:xs.length<2 ^ 40)
 (hf:∀ x∈xs,∀ h',Ext h.next h h'→C prg k ([.agg (eE x)]++caps) h' fun r h''=>r=.bool (P x)∧Ext h'.next h' h'') :
 C prg 47 [v,.fn k caps] h fun r h'=>r=.int .i64 (fidx P xs 0)∧Ext h.next h h':=by
 refine C.func pf47 ?_
 have hlen:=hv.len
 rw[List.length_map] at hlen
 refine W.seq (W.run (by simp only[am,evOp,simprocAttr,initTm]<;>rfl) ?_)
 refine W.seq (W.seq (W.run (by simp only[am,evOp,simprocAttr,initTm,hlen]<;>rfl) ?_))
 refine W.seq (W.cut (fun ts h1=>fidx P xs 0=-1∧Ext h.next h h1) (W.block (W.loop (fun n ts h1=>∃ i,n=xs.length-i∧i≤xs.length∧Ext h.next h h1∧fidx P (xs.drop i) i=fidx P xs 0∧tget ts 0=v∧tget ts 1=.fn k caps∧tget ts 7=.int .i64 (xs.length:Nat)∧tget ts 8=.int .i64 (i:Nat)) ?_ (n:=xs.length) ⟨0,rfl,Nat.zero_le _,Ext.refl,by rw[List.drop_zero],by simp only[am,evOp,↓reduceIte,Nat.reduceEqDiff,Int.reduceEq,Nat.reduceAdd,Nat.reduceLeDiff,reduceCtorEq,initTm],by simp only[am,evOp,↓reduceIte,Nat.reduceEqDiff,Int.reduceEq,Nat.reduceAdd,Nat.reduceLeDiff,reduceCtorEq,initTm],by simp only[am,evOp,↓reduceIte,Nat.reduceEqDiff,Int.reduceEq,Nat.reduceAdd,Nat.reduceLeDiff,reduceCtorEq,initTm],by simp only[am,evOp,↓reduceIte,Nat.reduceEqDiff,Int.reduceEq,Nat.reduceAdd,Nat.reduceLeDiff,reduceCtorEq,initTm]; rfl⟩)) ?_)
 ·rintro n ts h1 ⟨i,rfl,hi,ex,hF,e0,e1,e7,e8⟩
  refine W.seq (W.run (by simp only[am,evOp,simprocAttr,e7,e8]<;>rfl) ?_)
  refine W.seq (W.cond (t:=decide (i<xs.length)) (by simp only[am,evOp,simprocAttr,Int.ofNat_lt]) (fun q=>?_) fun q=>?_)
  ·have q:i<xs.length:=of_decide_eq_true q
   obtain⟨b,p,a1,r1,_,_⟩:=(hv.ext ex (Nat.le_refl _)).at (map_at (f:=eE) q)
   refine W.skip (W.seq (W.block (W.seq (W.run (by simp only[am,evOp,simprocAttr,e8]<;>rfl) ?_))))
   have hc:=hf _ (List.getElem_mem q) h1 ex
   refine W.seq (W.reg (G.gcallv 5 (by simp only[am,evOp,simprocAttr,e0,e1,e7,e8,a1,r1]<;>rfl) rfl (by simp only[am,evOp,simprocAttr,e0,e1,e7,e8,a1,r1]) (by simp only[am,evOp,simprocAttr,e0,e1,e7,e8,a1,r1]<;>rfl) (by simp only[am,evOp,simprocAttr,e0,e1,e7,e8,a1,r1]<;>rfl) (hc) fun r h2 hq=>?_))
   obtain⟨rfl,ex2⟩:=hq
   have ex3:=ex.trans (ex2.mono ex.nx)
   refine G.run (by simp only[am,evOp,simprocAttr]<;>rfl) ?_
   refine W.cond (t:=P xs[i]) (by simp only[am,evOp,simprocAttr]) (fun q2=>?_) fun q2=>?_
   ·refine W.seq (W.run (by simp only[am,evOp,simprocAttr]<;>rfl) ?_)
    refine W.ret ⟨.int .i64 (i:Nat),(by simp only[rs,rf47,am,evOp,simprocAttr]<;>rfl),?_,ex3⟩
    rw[← hF,fidx_drop P q,if_pos q2]
   ·have w1:IntKind.i64.wrap (((i:Nat):Int)+1)=((i+1:Nat):Int):=wr64 (by omega) (by omega)
    refine W.skip (W.run (by simp only[am,evOp,simprocAttr,e8,w1]<;>rfl) ?_)
    refine⟨xs.length-(i+1),by omega,i+1,rfl,by omega,ex3,?_,by simp only[am,evOp,simprocAttr,e0],by simp only[am,evOp,simprocAttr,e1],by simp only[am,evOp,simprocAttr,e7],by simp only[am,evOp,simprocAttr,e8,w1]⟩
    rw[← hF,fidx_drop P q,if_neg (by simp [q2])]
  ·have q:¬ i<xs.length:=of_decide_eq_false q
   refine W.exit ⟨fun _=>⟨?_,ex⟩,fun e=>absurd rfl e⟩
   rw[← hF,List.drop_eq_nil_of_le (by omega)]
   rfl
 ·rintro ts h1 ⟨hF,ex⟩
  refine W.seq (W.run (by simp only[am,evOp,simprocAttr]<;>rfl) ?_)
  exact W.ret ⟨.int .i64 (-1),(by simp only[rs,rf47,am,evOp,simprocAttr]<;>rfl),by rw[hF],ex⟩
theorem contfE_ok {h:AH}{v:AV}{xs:List (Int×Int)}{P:Int×Int→Bool}{k:FuncId}{caps:List AV} (hv:SlE h v xs) (hl:xs.length<2 ^ 40)
 (hf:∀ x∈xs,∀ h',Ext h.next h h'→C prg k ([.agg (eE x)]++caps) h' fun r h''=>r=.bool (P x)∧Ext h'.next h' h'') :
 C prg 30 [v,.fn k caps] h fun r h'=>r=.bool (xs.any P)∧Ext h.next h h':=by
 refine C.func pf30 ?_
 refine W.seq (W.run (by simp only[am,evOp,simprocAttr,initTm]<;>rfl) ?_)
 refine W.seq (W.reg (G.gcall 2 (by simp only[am,evOp,simprocAttr,initTm]<;>rfl) rfl (by simp only[am,evOp,simprocAttr,initTm]) (by simp only[am,evOp,simprocAttr,initTm]<;>rfl) (idxfE_ok hv hl hf) fun r h2 hq=>?_))
 obtain⟨rfl,ex⟩:=hq
 have hb:decide ((0:Int)≤fidx P xs 0)=xs.any P:=by
  have:=(fidx_lo P xs 0).2
  cases hq:xs.any P with
  | true=>rw[decide_eq_true_eq]; rw[hq] at this; simp at this; omega
  | false=>rw[decide_eq_false_iff_not]; have:=this.2 hq; omega
 refine G.run (by simp only[am,evOp,simprocAttr,hb]<;>rfl) ?_
 exact W.ret ⟨_,(by simp only[rs,rf30,am,evOp,simprocAttr]<;>rfl),rfl,ex⟩
theorem idxI_ok {h:AH}{v:AV}{xs:List (Int)}{y:Int} (hv:SlI h v xs) (hl:xs.length<2 ^ 40) :
 C prg 40 [v,.int .i64 y] h fun r h'=>r=.int .i64 (fidx (y==·) xs 0)∧Ext h.next h h':=by
 refine C.func pf40 ?_
 have hlen:=hv.len
 rw[List.length_map] at hlen
 have ex0:Ext h.next h h:=Ext.refl
 refine W.seq (W.run (by simp only[am,evOp,simprocAttr,initTm]<;>rfl) ?_)
 refine W.seq (W.seq (W.run (by simp only[am,evOp,simprocAttr,initTm,hlen]<;>rfl) ?_))
 refine W.seq (W.cut (fun ts h1=>fidx (y==·) xs 0=-1∧h1=h) (W.block (W.loop (fun n ts h1=>∃ i,n=xs.length-i∧i≤xs.length∧h1=h∧fidx (y==·) (xs.drop i) i=fidx (y==·) xs 0∧tget ts 0=v∧tget ts 1=.int .i64 y∧tget ts 7=.int .i64 (xs.length:Nat)∧tget ts 8=.int .i64 (i:Nat)) ?_ (n:=xs.length) ⟨0,rfl,Nat.zero_le _,rfl,by rw[List.drop_zero],by simp only[am,evOp,↓reduceIte,Nat.reduceEqDiff,Int.reduceEq,Nat.reduceAdd,Nat.reduceLeDiff,reduceCtorEq,initTm],by simp only[am,evOp,↓reduceIte,Nat.reduceEqDiff,Int.reduceEq,Nat.reduceAdd,Nat.reduceLeDiff,reduceCtorEq,initTm],by simp only[am,evOp,↓reduceIte,Nat.reduceEqDiff,Int.reduceEq,Nat.reduceAdd,Nat.reduceLeDiff,reduceCtorEq,initTm],by simp only[am,evOp,↓reduceIte,Nat.reduceEqDiff,Int.reduceEq,Nat.reduceAdd,Nat.reduceLeDiff,reduceCtorEq,initTm]; rfl⟩)) ?_)
 ·rintro n ts h1 ⟨i,rfl,hi,rfl,hF,e0,ek,e7,e8⟩
  refine W.seq (W.run (by simp only[am,evOp,simprocAttr,e7,e8]<;>rfl) ?_)
  refine W.seq (W.cond (t:=decide (i<xs.length)) (by simp only[am,evOp,simprocAttr,Int.ofNat_lt]) (fun q=>?_) fun q=>?_)
  ·have q:i<xs.length:=of_decide_eq_true q
   obtain⟨b,p,a1,r1,_,_⟩:=(hv.ext ex0 (Nat.le_refl _)).at (map_at (f:=eI) q)
   refine W.skip (W.seq (W.block (W.seq (W.run (by simp only[am,evOp,simprocAttr,e8]<;>rfl) ?_))))
   have ceq:decide (y=xs[i])=(y==xs[i]):=rfl
   refine W.seq (W.run (by simp only[am,evOp,simprocAttr,e0,ek,e7,e8,a1,r1,ceq,eI]<;>rfl) ?_)
   refine W.cond (t:=y==xs[i]) (by simp only[am,evOp,simprocAttr]) (fun q2=>?_) fun q2=>?_
   ·refine W.seq (W.run (by simp only[am,evOp,simprocAttr]<;>rfl) ?_)
    refine W.ret ⟨.int .i64 (i:Nat),(by simp only[rs,rf40,am,evOp,simprocAttr]<;>rfl),?_,ex0⟩
    rw[← hF,fidx_drop _ q,if_pos q2]
   ·have w1:IntKind.i64.wrap (((i:Nat):Int)+1)=((i+1:Nat):Int):=wr64 (by omega) (by omega)
    refine W.skip (W.run (by simp only[am,evOp,simprocAttr,e8,w1]<;>rfl) ?_)
    refine⟨xs.length-(i+1),by omega,i+1,rfl,by omega,rfl,?_,by simp only[am,evOp,simprocAttr,e0],by simp only[am,evOp,simprocAttr,ek],by simp only[am,evOp,simprocAttr,e7],by simp only[am,evOp,simprocAttr,e8,w1]⟩
    rw[← hF,fidx_drop _ q,if_neg (by simp [q2])]
  ·have q:¬ i<xs.length:=of_decide_eq_false q
   refine W.exit ⟨fun _=>⟨?_,rfl⟩,fun e=>absurd rfl e⟩
   rw[← hF,List.drop_eq_nil_of_le (by omega)]
   rfl
 ·rintro ts h1 ⟨hF,rfl⟩
  refine W.seq (W.run (by simp only[am,evOp,simprocAttr]<;>rfl) ?_)
  exact W.ret ⟨.int .i64 (-1),(by simp only[rs,rf40,am,evOp,simprocAttr]<;>rfl),by rw[hF],ex0⟩
theorem contI_ok {h:AH}{v:AV}{xs:List (Int)}{y:Int} (hv:SlI h v xs) (hl:xs.length<2 ^ 40) :
 C prg 22 [v,.int .i64 y] h fun r h'=>r=.bool (xs.any (y==·))∧Ext h.next h h':=by
 refine C.func pf22 ?_
 refine W.seq (W.run (by simp only[am,evOp,simprocAttr,initTm]<;>rfl) ?_)
 have ex0:Ext h.next h h:=Ext.refl
 have hc:=idxI_ok (y:=y) hv hl
 refine W.seq (W.reg (G.gcall 2 (by simp only[am,evOp,simprocAttr,initTm]<;>rfl) rfl (by simp only[am,evOp,simprocAttr,initTm]) (by simp only[am,evOp,simprocAttr,initTm]<;>rfl) (hc) fun r h2 hq=>?_))
 obtain⟨rfl,ex⟩:=hq
 have hb:decide ((0:Int)≤fidx (y==·) xs 0)=xs.any (y==·):=by
  have:=(fidx_lo (y==·) xs 0).2
  cases hq:xs.any (y==·) with
  | true=>rw[decide_eq_true_eq]; rw[hq] at this; simp at this; omega
  | false=>rw[decide_eq_false_iff_not]; have:=this.2 hq; omega
 refine G.run (by simp only[am,evOp,simprocAttr,hb]<;>rfl) ?_
 exact W.ret ⟨_,(by simp only[rs,rf22,am,evOp,simprocAttr]<;>rfl),rfl,ex0.trans (ex.mono ex0.nx)⟩
end Go.Proofs.Ytpeemonpdlifbaa
namespace Go.Proofs.Ytpeemonpdlifbaa
open Go.Am
theorem ones_I {xs:List Int}:(xs.flatMap eI).all AV.one=true:=by
 rw[List.all_eq_true]
 intro x hx
 obtain⟨y,_,hy⟩:=List.mem_flatMap.1 hx
 simp only[eI,List.mem_cons,List.not_mem_nil,or_false] at hy
 subst hy; rfl
theorem eql_nls {v:AV}{h:AH}{e:Nat}{xs:List (List AV)} (hv:Sl h e v xs):∃ b,binA .eql .nls v .nils=some (.bool b)∧(b=true→v=.nils∧xs=[])∧(b=false→v≠.nils):=by
 rcases hv with ⟨rfl,rfl|rfl⟩|⟨b,o,c,cs,ro,rfl,hg,hc,hle,hx⟩
 ·exact⟨true,rfl,fun _=>⟨rfl,rfl⟩,fun q=>by cases q⟩
 ·exact⟨false,rfl,fun q=>(by cases q),fun _=>(by simp)⟩
 ·exact⟨false,rfl,fun q=>(by cases q),fun _=>(by simp)⟩
theorem app_own {h:AH}{e bytes:Nat}{v:AV}{xs:List (List AV)} (hv:Sl h e v xs) (ho:xs.flatten.all AV.one=true) (hl:xs.length*bytes<tooMany) (hl2:xs.length<tooMany) :
 ∃ r h',appA (h.new (.cells [] e false)) e bytes (.sl h.next 0 0 0) v=some (r,h')∧IsSl h' e h.next r xs.flatten∧Ext h.next h h'∧r≠.nils:=by
 have hv':=hv.ext (Ext.new (o:=.cells [] e false) (Nat.le_refl _)) (Nat.le_refl _)
 obtain⟨s1,s2⟩:=hv'.src
 have g0:(h.new (.cells [] e false)).get h.next=some (.cells [] e false):=by rw[AH.get_new,if_pos rfl]
 by_cases hz:xs.length=0
 ·refine⟨.sl h.next 0 0 0,_,?_,.inr ⟨h.next,0,Nat.le_refl _,rfl,by rw[g0,List.length_eq_zero_iff.1 hz]; rfl,by rw[s2,hz]⟩,Ext.new (Nat.le_refl _),by simp⟩
  simp only[appA,s1,ho,if_true,hz]
 ·refine⟨.sl (h.next+1) 0 xs.length xs.length,((h.new (.cells [] e false)).put h.next .dead).new (.cells xs.flatten e false),?_,.inr ⟨h.next+1,xs.length,by omega,rfl,by rw[AH.get_new,if_pos (by simp)],s2⟩,(Ext.new (Nat.le_refl _)).trans ((Ext.put (Nat.le_refl _)).trans (Ext.new (by simp))),by simp⟩
  simp only[appA,s1,ho,if_true,if_neg hz,g0,rdCells_of g0]
  rw[Nat.zero_add,if_neg (by omega),if_pos ⟨hl,hl2⟩]
  simp
theorem cloneI_ok {h:AH}{v:AV}{xs:List (Int)} (hv:SlI h v xs) (hl:xs.length<2 ^ 34) :
 C prg 56 [v] h fun r h'=>IsSl h' 1 h.next r (xs.flatMap eI)∧Ext h.next h h'∧(r=.nils↔v=.nils):=by
 refine C.func pf56 ?_
 refine W.seq (W.run (by simp only[am,evOp,simprocAttr,initTm]<;>rfl) ?_)
 obtain⟨b,hb,k1,k2⟩:=eql_nls hv
 refine W.seq (W.seq (W.run (by simp only[am,evOp,simprocAttr,initTm,hb]<;>rfl) ?_))
 refine W.cond (t:=b) (by simp only[am,evOp,simprocAttr]) (fun q=>?_) fun q=>?_
 ·obtain⟨rfl,hx⟩:=k1 q
  rw[List.map_eq_nil_iff] at hx
  subst hx
  refine W.seq (W.run (by simp only[am,evOp,simprocAttr]<;>rfl) ?_)
  exact W.ret ⟨.nils,(by simp only[rs,rf56,am,evOp,simprocAttr]<;>rfl),.inl ⟨rfl,rfl⟩,Ext.refl,by simp⟩
 ·have hvv:=k2 q
  refine W.skip ?_
  obtain⟨r,h',a1,a2,a3,a4⟩:=app_own (bytes:=8) hv ones_I (by rw[List.length_map]; unfold tooMany; omega) (by rw[List.length_map]; unfold tooMany; omega)
  refine W.seq (W.run (by simp only[am,evOp,simprocAttr,initTm,a1]<;>rfl) ?_)
  exact W.ret ⟨r,(by simp only[rs,rf56,am,evOp,simprocAttr]<;>rfl),a2,a3,by simp [a4,hvv]⟩
end Go.Proofs.Ytpeemonpdlifbaa
namespace Go.Proofs.Ytpeemonpdlifbaa
open Go.Am
theorem app_in {h:AH}{gb len cap e bytes:Nat}{A Z:List AV}{v:AV}{xs:List (List AV)} (hg:h.get gb=some (.cells (A++Z) e false)) (hA:A.length=len*e) (hv:Sl h e v xs) (ho:xs.flatten.all AV.one=true) (hc:len+xs.length≤cap) (hz:xs.length*e≤Z.length) :
 ∃ h',appA h e bytes (.sl gb 0 len cap) v=some (.sl gb 0 (len+xs.length) cap,h')∧Upd h h' gb (.cells (A++xs.flatten++Z.drop (xs.length*e)) e false):=by
 obtain⟨s1,s2⟩:=hv.src
 by_cases hn:xs.length=0
 ·refine⟨h,?_,?_⟩
  ·simp only[appA,s1,ho,if_true,hn,Nat.add_zero]
  ·have:xs=[]:=List.length_eq_zero_iff.1 hn
   subst this
   simp only[List.flatten_nil,List.append_nil,List.length_nil,Nat.zero_mul,List.drop_zero]
   exact Upd.refl hg
 ·have w:wrCells h gb (0+len*e) xs.flatten=some (h.put gb (.cells (A++xs.flatten++Z.drop (xs.length*e)) e false)):=by
   rw[wrCells_of hg,Nat.zero_add,if_pos (by rw[s2,List.length_append]; omega)]
   congr 3
   unfold splice
   rw[← hA,List.take_left',List.drop_append,List.drop_of_length_le (by omega),s2]
   ·simp
   ·rfl
  refine⟨_,?_,Upd.put hg⟩
  simp only[appA,s1,ho,if_true,if_neg hn,if_pos hc,w,Option.map_some]
theorem flatten_take_succ {α:Type}{xss:List (List α)}{k:Nat} (hk:k<xss.length):(xss.take (k+1)).flatten=(xss.take k).flatten++xss[k]:=by
 rw[List.take_succ_eq_append_getElem hk,List.flatten_append]
 simp
theorem flatten_take_le {α:Type} (xss:List (List α)) (k:Nat):(xss.take k).flatten.length≤xss.flatten.length:=by
 conv=>rhs; rw[← List.take_append_drop k xss]
 rw[List.flatten_append,List.length_append]
 omega
theorem slV_nils {h:AH}{e:Nat}:slV h e .nils none (some (.int .i64 0)) none=some .nils:=rfl
theorem repl_len {z:List AV}:∀ n,(repl z n).length=n*z.length
 | 0=>by simp [repl]
 | n+1=>by simp only[repl,List.length_append,repl_len n,Nat.add_mul]; omega
theorem repl_drop {z:List AV}:∀ k n,(repl z (k+n)).drop (k*z.length)=repl z n
 | 0,n=>by simp
 | k+1,n=>by
   have e1:repl z (k+1+n)=z++repl z (k+n):=by rw[show k+1+n=(k+n)+1 by omega]; rfl
   have e2:(k+1)*z.length=z.length+k*z.length:=by rw[Nat.add_mul]; omega
   rw[e1,e2,← List.drop_drop,List.drop_left,repl_drop k n]
theorem growI_ok {h:AH}{N:Nat} (hN:N<2 ^ 34):C prg 91 [.nils,.int .i64 (N:Nat)] h fun r h'=>(N=0∧r=.nils∧h'=h)∨(0<N∧r=.sl h.next 0 0 N∧h'=h.new (.cells (repl [.int .i64 0] N) 1 false)):=by
 refine C.func pf91 ?_
 have c1:decide (((N:Nat):Int)<0)=false:=decide_eq_false (by omega)
 have w1:IntKind.i64.wrap (0-0)=0:=by decide
 have w2:IntKind.i64.wrap (((N:Nat):Int)-0)=((N:Nat):Int):=by rw[wr64 (by omega) (by omega)]; omega
 have cp:capA .nils=some (.int .i64 0):=rfl
 refine W.seq (W.run (by simp only[am,evOp,simprocAttr,initTm]<;>rfl) ?_)
 refine W.seq (W.seq (W.run (by simp only[am,evOp,simprocAttr,initTm]<;>rfl) ?_))
 refine W.no (by simp only[am,evOp,↓reduceIte,Nat.reduceEqDiff,Int.reduceEq,Nat.reduceAdd,Nat.reduceLeDiff,reduceCtorEq,c1]) (W.skip ?_)
 refine W.seq (W.seq (W.run (by simp only[am,evOp,↓reduceIte,Nat.reduceEqDiff,Int.reduceEq,Nat.reduceAdd,Nat.reduceLeDiff,reduceCtorEq,initTm,cp,w1,w2]<;>rfl) ?_))
 refine W.seq (W.seq (W.run (by simp only[am,evOp,↓reduceIte,Nat.reduceEqDiff,Int.reduceEq,Nat.reduceAdd,Nat.reduceLeDiff,reduceCtorEq]<;>rfl) ?_))
 refine W.cond (t:=decide (0<N)) (by simp only[am,evOp,↓reduceIte,Nat.reduceEqDiff,Int.reduceEq,Nat.reduceAdd,Nat.reduceLeDiff,reduceCtorEq]; exact congrArg AV.bool (by simp only[decide_eq_decide]; omega)) (fun q=>?_) fun q=>?_
 ·have q:0<N:=of_decide_eq_true q
  have q0:¬ ((N:Nat):Int)=0:=by omega
  have az:apzA h [.int .i64 0] 8 .nils (.int .i64 (N:Nat))=some (.sl h.next 0 N N,h.new (.cells (repl [.int .i64 0] N) 1 false)):=by
   simp only[apzA,if_neg q0]
   rw[if_pos ⟨by omega,by unfold tooMany; omega,by unfold tooMany; omega⟩]
   simp
  have g1:(h.new (.cells (repl [.int .i64 0] N) 1 false)).get h.next=some (.cells (repl [.int .i64 0] N) 1 false):=by rw[AH.get_new,if_pos rfl]
  have s1:slV (h.new (.cells (repl [.int .i64 0] N) 1 false)) 1 (.sl h.next 0 N N) none (some (.int .i64 0)) none=some (.sl h.next 0 0 N):=by
   have:=bnd_nat (k:=.i64) (show 0≤N by omega)
   simp only[slV,g1,if_true,bnds,this,Option.map_some]
   have h0:bnd (.int .i64 0) N=some 0:=this
   rw[h0]
   simp only[Option.map_some]
   split<;>simp
  refine W.run (by simp only[am,evOp,simprocAttr,initTm,slLA_eq,Option.map_none,cp,slV_nils,az,s1]<;>rfl) ?_
  refine W.seq (W.run (by simp only[am,evOp,simprocAttr]<;>rfl) ?_)
  exact W.ret ⟨_,(by simp only[rs,rf91,am,evOp,simprocAttr]<;>rfl),.inr ⟨q,rfl,rfl⟩⟩
 ·have q:¬ 0<N:=of_decide_eq_false q
  refine W.skip (W.seq (W.run (by simp only[am,evOp,simprocAttr,initTm]<;>rfl) ?_))
  exact W.ret ⟨_,(by simp only[rs,rf91,am,evOp,simprocAttr]<;>rfl),.inl ⟨by omega,rfl,rfl⟩⟩
theorem concatI_ok {h:AH}{v:AV}{vs:List AV}{xss:List (List (Int))} (hv:Sl h 1 v (vs.map fun x=>[x])) (hl:vs.length=xss.length) (hx:∀ (i:Nat) (w:AV) (xs:List (Int)),vs[i]?=some w→xss[i]?=some xs→SlI h w xs) (hn:xss.length<2 ^ 30) (hs:xss.flatten.length<2 ^ 34) :
 C prg 81 [v] h fun r h'=>IsSl h' 1 h.next r (xss.flatten.flatMap eI)∧Ext h.next h h':=by
 have el:=hv.len
 rw[List.length_map,hl] at el
 have hvk:∀ (k:Nat) (hk:k<xss.length),∃ b p,iadrL 1 v (.int .i64 (k:Nat))=some (.ptr b p)∧rdCells h b p 1=some [vs[k]'(by omega)]∧b<h.next:=fun k hk=>hv.at1 (by rw[List.getElem?_map,List.getElem?_eq_getElem (by omega)]; rfl)
 have hxk:∀ (k:Nat) (hk:k<xss.length),SlI h (vs[k]'(by omega)) xss[k]:=fun k hk=>hx k _ _ (List.getElem?_eq_getElem _) (List.getElem?_eq_getElem hk)
 refine C.func pf81 ?_
 refine W.seq (W.run (by simp only[am,evOp,simprocAttr,initTm]<;>rfl) ?_)
 refine W.seq (W.run (by simp only[am,evOp,simprocAttr]<;>rfl) ?_)
 refine W.seq (W.seq (W.run (by simp only[am,evOp,simprocAttr,initTm,el]<;>rfl) ?_))
 refine W.rng (α:=Unit) (N:=xss.length) (fun k _=>[(0,v),(9,v),(3,.int .i64 ((xss.take k).flatten.length:Nat))]) (fun _ _ h'=>h'=h) () (fun _ _=>rfl) (by omega) (by simp only[held_cons,held_nil,am,evOp,↓reduceIte,Nat.reduceEqDiff,Int.reduceEq,Nat.reduceAdd,Nat.reduceLeDiff,reduceCtorEq,initTm,List.take_zero,List.flatten_nil,Int.natCast_zero]) rfl ?_ ?_
 ·rintro k _ ts h1 hk rfl ⟨ei,en,e0,e9,e3,-⟩
  simp only at ei en e0 e9 e3
  obtain⟨b1,p1,a1,r1,_⟩:=hvk k hk
  have lk:=(hxk k hk).len
  rw[List.length_map] at lk
  have hle:=flatten_take_le xss (k+1)
  rw[flatten_take_succ hk,List.length_append] at hle
  have w1:IntKind.i64.wrap ((((xss.take k).flatten.length:Nat):Int)+((xss[k].length:Nat):Int))=(((xss.take (k+1)).flatten.length:Nat):Int):=by
   rw[wr64 (by omega) (by omega),flatten_take_succ hk,List.length_append]
   omega
  have c1:decide ((((xss.take (k+1)).flatten.length:Nat):Int)<0)=false:=decide_eq_false (by omega)
  refine W.seq (W.run (by simp only[am,evOp,simprocAttr,e9,ei,a1,r1]<;>rfl) ?_)
  refine W.seq (W.run (by simp only[am,evOp,simprocAttr,e3,lk,w1]<;>rfl) ?_)
  refine W.seq (W.run (by simp only[am,evOp,simprocAttr,c1]<;>rfl) ?_)
  refine W.no (by simp only[am,evOp,↓reduceIte,Nat.reduceEqDiff,Int.reduceEq,Nat.reduceAdd,Nat.reduceLeDiff,reduceCtorEq]) (W.skip ⟨(),rfl,by simp only[held_cons,held_nil,am,evOp,↓reduceIte,Nat.reduceEqDiff,Int.reduceEq,Nat.reduceAdd,Nat.reduceLeDiff,reduceCtorEq,ei,en,e0,e9]⟩)
 ·rintro _ ts h1 rfl ⟨e0,e9,e3,-⟩
  simp only at e0 e9 e3
  rw[List.take_length] at e3
  refine W.seq (W.reg (G.gcall 1 (by simp only[am,evOp,simprocAttr,e3]<;>rfl) rfl (by simp only[am,evOp,simprocAttr,e3]) (by simp only[am,evOp,simprocAttr,e3]<;>rfl) (growI_ok hs) fun g h2 hq=>?_))
  refine G.run (by simp only[am,evOp,simprocAttr]<;>rfl) ?_
  refine W.seq (W.seq (W.run (by simp only[am,evOp,simprocAttr,e0,el]<;>rfl) ?_))
  rcases hq with ⟨hz,rfl,rfl⟩|⟨hz,rfl,rfl⟩
  ·refine W.rng (α:=Unit) (N:=xss.length) (fun _ _=>[(25,v),(6,.nils)]) (fun _ _ h'=>h'=h2) () (fun _ _=>rfl) (by omega) (by simp only[held_cons,held_nil,am,evOp,↓reduceIte,Nat.reduceEqDiff,Int.reduceEq,Nat.reduceAdd,Nat.reduceLeDiff,reduceCtorEq,e0]) rfl ?_ ?_
   ·rintro k _ ts h1 hk rfl ⟨ei,en,e25,e6,-⟩
    simp only at ei en e25 e6
    obtain⟨b1,p1,a1,r1,_⟩:=hvk k hk
    have hle:=flatten_take_le xss (k+1)
    rw[flatten_take_succ hk,List.length_append] at hle
    have hk0:xss[k]=[]:=List.length_eq_zero_iff.1 (by omega)
    have s1:=(hxk k hk).src.1
    rw[hk0] at s1
    have ap:appA h1 1 8 .nils (vs[k]'(by omega))=some (.nils,h1):=by simp [appA,s1]
    refine W.seq (W.run (by simp only[am,evOp,simprocAttr,e25,ei,a1,r1]<;>rfl) ?_)
    refine W.run (by simp only[am,evOp,simprocAttr,e6,ap]<;>rfl) ?_
    exact⟨(),rfl,by simp only[held_cons,held_nil,am,evOp,↓reduceIte,Nat.reduceEqDiff,Int.reduceEq,Nat.reduceAdd,Nat.reduceLeDiff,reduceCtorEq,ei,en,e25]⟩
   ·rintro _ ts h1 rfl ⟨e25,e6,-⟩
    simp only at e25 e6
    refine W.seq (W.run (by simp only[am,evOp,simprocAttr,e6]<;>rfl) ?_)
    exact W.ret ⟨_,(by simp only[rs,rf81,am,evOp,simprocAttr]<;>rfl),.inl ⟨rfl,by rw[List.length_eq_zero_iff.1 hz]; rfl⟩,Ext.refl⟩
  ·have g2:(h1.new (.cells (repl [.int .i64 0] xss.flatten.length) 1 false)).get h1.next=some (.cells (repl [.int .i64 0] xss.flatten.length) 1 false):=by rw[AH.get_new,if_pos rfl]
   have x2:Ext h1.next h1 (h1.new (.cells (repl [.int .i64 0] xss.flatten.length) 1 false)):=Ext.new (Nat.le_refl _)
   generalize h1.new (.cells (repl [.int .i64 0] xss.flatten.length) 1 false)=h2 at *
   refine W.rng (α:=Unit) (N:=xss.length) (fun k _=>[(25,v),(6,.sl h1.next 0 (xss.take k).flatten.length xss.flatten.length)])
    (fun k _ h'=>h'.get h1.next=some (.cells ((xss.take k).flatten.flatMap eI++repl [.int .i64 0] (xss.flatten.length-(xss.take k).flatten.length)) 1 false)∧Ext h1.next h1 h') () (fun _ _=>rfl) (by omega) (by simp only[held_cons,held_nil,am,evOp,↓reduceIte,Nat.reduceEqDiff,Int.reduceEq,Nat.reduceAdd,Nat.reduceLeDiff,reduceCtorEq,e0,List.take_zero,List.flatten_nil,List.length_nil]) ⟨g2,x2⟩ ?_ ?_
   ·rintro k _ ts h3 hk ⟨j1,j2⟩ ⟨ei,en,e25,e6,-⟩
    simp only at ei en e25 e6
    obtain⟨b1,p1,a1,r1,hb⟩:=hvk k hk
    have hle:=flatten_take_le xss (k+1)
    rw[flatten_take_succ hk,List.length_append] at hle
    have fl:((xss.take k).flatten.flatMap eI).length=(xss.take k).flatten.length*1:=flat_len (f:=eI) (e:=1) (fun _=>rfl) _
    obtain⟨h4,p4,u4⟩:=app_in (bytes:=8) (cap:=xss.flatten.length) j1 fl ((hxk k hk).ext j2 (Nat.le_refl _)) ones_I (by rw[List.length_map]; omega) (by rw[List.length_map,repl_len]; simp only[List.length_cons,List.length_nil]; omega)
    have ef:(xss.take k).flatten.length+xss[k].length=(xss.take (k+1)).flatten.length:=by rw[flatten_take_succ hk,List.length_append]
    rw[List.length_map,ef] at p4
    have e2:(xss.take k).flatten.flatMap eI++(xss[k].map eI).flatten++(repl [.int .i64 0] (xss.flatten.length-(xss.take k).flatten.length)).drop ((xss[k].map eI).length*1)=(xss.take (k+1)).flatten.flatMap eI++repl [.int .i64 0] (xss.flatten.length-(xss.take (k+1)).flatten.length):=by
     rw[flatten_take_succ hk,List.flatMap_append,← List.flatMap_def,List.length_map,List.length_append]
     congr 1
     rw[show xss.flatten.length-(xss.take k).flatten.length=xss[k].length+(xss.flatten.length-((xss.take k).flatten.length+xss[k].length)) by omega]
     exact repl_drop (z:=[.int .i64 0]) _ _
    rw[e2] at u4
    have r1':rdCells h3 b1 p1 1=some [vs[k]'(by omega)]:=by rw[rdCells_eq (j2.gt _ hb)]; exact r1
    refine W.seq (W.run (by simp only[am,evOp,simprocAttr,e25,ei,a1,r1']<;>rfl) ?_)
    refine W.run (by simp only[am,evOp,simprocAttr,e6,p4]<;>rfl) ?_
    exact⟨(),⟨u4.get,j2.trans (u4.ext (Nat.le_refl _))⟩,by simp only[held_cons,held_nil,am,evOp,↓reduceIte,Nat.reduceEqDiff,Int.reduceEq,Nat.reduceAdd,Nat.reduceLeDiff,reduceCtorEq,ei,en,e25]⟩
   ·rintro _ ts h3 ⟨j1,j2⟩ ⟨e25,e6,-⟩
    simp only at e25 e6
    rw[List.take_length] at j1 e6
    refine W.seq (W.run (by simp only[am,evOp,simprocAttr,e6]<;>rfl) ?_)
    refine W.ret ⟨_,(by simp only[rs,rf81,am,evOp,simprocAttr]<;>rfl),.inr ⟨h1.next,xss.flatten.length,Nat.le_refl _,rfl,?_,flat_len (f:=eI) (e:=1) (fun _=>rfl) _⟩,j2⟩
    rw[j1,Nat.sub_self]
    simp [repl]
end Go.Proofs.Ytpeemonpdlifbaa
