/-
  Slices that came in, as they lie in the clean machine's memory. What came in lies at names that the example's run keeps.
-/
import Derived.Test.YtldkniahgagocaaGreatKRf
import Derived.Test.YtldkniahgagocaaGreatKAmEnd
import Derived.Test.YtldkniahgagocaaGreatKAmR
import Derived.Test.YtldkniahgagocaaGreatKAmF
set_option linter.all false
namespace Go.Proofs.YtldkniahgagocaaGreat
open Go.Am
open Go.RowKit
theorem flat_ci (xs:List Int):xs.flatMap eI=xs.map (AV.int .i64):=by
 induction xs with
 | nil=>rfl
 | cons x r ih=>rw[List.flatMap_cons,ih]; rfl
theorem sl_flat {α:Type}{f:α→List AV}{h:AH}{e b n:Nat}{xs:List α}{ro:Bool} (hf:∀ x,(f x).length=e) (hg:h.get b=some (.cells (xs.flatMap f) e ro)) (hn:n=xs.length):Sl h e (.sl b 0 n n) (xs.map f):=by
 subst hn
 have hl:=flat_len hf xs
 refine .inr ⟨b,0,xs.length,_,ro,by rw[List.length_map],hg,by rw[List.length_map]; exact Nat.le_refl _,by rw[List.length_map,hl]; omega,fun i x hx=>?_⟩
 rw[List.getElem?_map] at hx
 obtain⟨y,hy,rfl⟩:=Option.map_eq_some_iff.1 hx
 rw[Nat.zero_add]
 exact flat_at hf xs i y hy
def pairsI:List Int→List (Int×Int)
 | x::y::r=>(x,y)::pairsI r
 | _=>[]
theorem flat_pairs:∀ (n:Nat) (ns:List Int),ns.length=n*2→(pairsI ns).flatMap eE=ns.map (AV.int .i64)∧(pairsI ns).length=n
 | 0,[],_=>⟨rfl,rfl⟩
 | n+1,x::y::r,h=>by
   have ih:=flat_pairs n r (by simp only[List.length_cons] at h; omega)
   refine⟨?_,?_⟩
   ·simp only[pairsI,List.flatMap_cons,eE,List.map_cons,List.cons_append,List.nil_append]
    rw[← ih.1]
   ·simp only[pairsI,List.length_cons,ih.2]
 | 0,_::_,h=>by simp at h
 | n+1,[],h=>by simp at h
 | n+1,[x],h=>by simp only[List.length_cons,List.length_nil] at h; omega
theorem rowE1 {K:Bs}{σ:Sg}{h:AH}{w:World} (r:Rep K σ h w) (hB:K.B=w.heap.size) {k:IntKind}{e:Nat} (he:0<e) {a:Option Addr}{len cap:Nat}{zs:List Int} (hr:IsRowE k e w a len cap zs) (hspot:∀ x,a=some x→x.spot=none) :
 ∃ σ' o v,σ.le σ'∧Rep K σ' (h.new o) w∧VR σ' v (.slice a len cap)∧((v=.nils∧len=0)∨(v=.sl h.next 0 len len∧o=.cells ((zs.take (len*e)).map (AV.int k)) e true∧(zs.take (len*e)).length=len*e)):=by
 rcases hr with ⟨rfl,rfl,rfl,rfl⟩|⟨x,rfl,h1,h2,h3,h4,h5⟩
 ·obtain⟨σ',q1,q2⟩:=r.dummy
  exact⟨σ',_,.nils,q1,q2,by simp [VR],.inl ⟨rfl,rfl⟩⟩
 ·have hsp:=hspot x rfl
  have hadd:∀ j,x.add j=⟨x.block,x.off+j,none⟩:=by
   intro j
   obtain⟨xb,xo,xs⟩:=x
   simp only at hsp
   subst hsp
   exact Addr.add_lit _ _ _
  have hle:len*e≤cap*e:=Nat.mul_le_mul_right e h1
  have hl:(zs.take (len*e)).length=len*e:=by rw[List.length_take]; omega
  cases zs with
  | nil =>
    simp only[List.length_nil] at h3
    have e2:cap=0:=by
     rcases Nat.eq_zero_or_pos cap with q|q
     ·exact q
     ·have:=Nat.mul_pos q he; omega
    have e1:len=0:=by omega
    subst e1
    subst e2
    refine⟨σ.add h.next ⟨x.block,x.off,e,0,0⟩,.cells [] e true,.sl h.next 0 0 0,Sg.le_add r.fresh,r.came [] e _ rfl (.inl rfl),?_,.inr ⟨rfl,by rw[Nat.zero_mul]; rfl,hl⟩⟩
    simp only[VR]
    exact⟨_,x.off,0,Sg.add_at _ _ _,by obtain⟨xb,xo,xs⟩:=x; simp only at hsp; subst hsp; rfl,.inl trivial,Nat.le_refl _,Nat.le_refl _,.inl rfl⟩
  | cons z zs =>
    have h40:=h4 0 (by simp)
    rw[hadd] at h40
    unfold World.cell? at h40
    simp only at h40
    split at h40
    ·rename_i C t fr hC
     have hall:∀ i,i<(z::zs).length→C[x.off+i]?=some (.int k ((z::zs).getD i 0)):=by
      intro i hi
      have:=h4 i hi
      rw[hadd] at this
      simpa [World.cell?,hC] using this
     have hN:x.off+cap*e≤C.size:=by
      have:=hall (cap*e-1) (by simp at h3 ⊢; omega)
      have hlt:=(Array.getElem?_eq_some_iff.1 this).1
      simp at h3
      omega
     have hblk:x.block<w.heap.size:=(Array.getElem?_eq_some_iff.1 hC).1
     refine⟨σ.add h.next ⟨x.block,x.off,e,C.size,t⟩,.cells (((z::zs).take (len*e)).map (AV.int k)) e true,.sl h.next 0 len len,Sg.le_add r.fresh,r.came _ e _ rfl (.inr ⟨by rw[hB]; exact hblk,fun τ _=>?_⟩),?_,.inr ⟨rfl,rfl,hl⟩⟩
     ·refine⟨C,t,fr,hC,rfl,rfl,?_,fun j y hy=>?_,fun q=>by (cases q),rfl⟩
      ·show x.off+_≤C.size
       rw[List.length_map,hl]; omega
      ·have hj:j<len*e:=by
        rcases Nat.lt_or_ge j (len*e) with q|q
        ·exact q
        ·rw[List.getElem?_eq_none (by rw[List.length_map,hl]; exact q)] at hy; cases hy
       rw[List.getElem?_map,List.getElem?_take,if_pos hj] at hy
       refine⟨.int k ((z::zs).getD j 0),hall j (by omega),?_⟩
       rw[List.getD_eq_getElem?_getD]
       cases hq:(z::zs)[j]? with
       | none=>rw[hq] at hy; cases hy
       | some u=>rw[hq] at hy; simp only[Option.map_some,Option.some.injEq] at hy; subst hy; simp [VR]
     ·simp only[VR]
      refine⟨_,x.off,cap,Sg.add_at _ _ _,by obtain⟨xb,xo,xs⟩:=x; simp only at hsp; subst hsp; rfl,.inr (by simp),h1,Nat.le_refl _,.inr ⟨Nat.le_refl _,?_⟩⟩
      show x.off+cap*e≤C.size
      omega
    ·cases h40
theorem ints1 {K:Bs}{σ:Sg}{h:AH}{w:World} (r:Rep K σ h w) (hB:K.B=w.heap.size) {a:Option Addr}{len cap:Nat}{zs:List Int} (hr:IsRowE .i64 1 w a len cap zs) :
 ∃ σ' o v,σ.le σ'∧Rep K σ' (h.new o) w∧VR σ' v (.slice a len cap)∧lenLA v=some (.int .i64 (len:Nat))∧SlI (h.new o) v (zs.take len):=by
 have hrow:len≤cap∧zs.length=cap∧(a=none→cap=0)∧∀ x,a=some x→∀ i,i<cap→w.cell? (x.add i)=some (.int .i64 (zs.getD i 0)):=by
  rcases hr with ⟨rfl,rfl,rfl,rfl⟩|⟨x,rfl,h1,h2,h3,h4,h5⟩
  ·exact⟨Nat.le_refl _,rfl,fun _=>rfl,(fun x hx=>by cases hx)⟩
  ·rw[Nat.mul_one] at h3
   exact⟨h1,h3,(fun h=>by cases h),(fun y hy i hi=>by cases hy; exact h4 i (by omega))⟩
 obtain⟨q1,q2,q3,q4⟩:=hrow
 obtain⟨σ',o,v,b1,b2,b3,b4⟩:=r.rowB hB q1 q2 q3 q4
 refine⟨σ',o,v,b1,b2,b3,?_⟩
 rcases b4 with ⟨h1|h1,h2⟩|⟨h1,h2⟩
 ·subst h1 h2
  exact⟨rfl,.inl ⟨by simp,.inl rfl⟩⟩
 ·subst h1 h2
  exact⟨rfl,.inl ⟨by simp,.inr rfl⟩⟩
 ·subst h1 h2
  refine⟨rfl,sl_flat (f:=eI) (ro:=true) (fun _=>rfl) ?_ (by rw[List.length_take]; omega)⟩
  rw[AH.get_new,if_pos rfl,flat_ci]
theorem came_gi {w:World}{P:Program}{a0 a1:Option Addr}{l0 c0 l1 c1:Nat}{z0 z1:List Int} (w0:IsRowE .i64 2 w a0 l0 c0 z0) (s0:∀ x,a0=some x→x.spot=none) (w1:IsRowE .i64 1 w a1 l1 c1 z1) :
 ∃ (σ:Sg) (os:List AO) (v0 v1:AV),os.length=2∧GL σ∧Rep ⟨w.heap.size,w,P,[]⟩ σ (news os AH.zero) w∧VR σ v0 (.slice a0 l0 c0)∧VR σ v1 (.slice a1 l1 c1) ∧
   SlE (news os AH.zero) v0 (pairsI (z0.take (l0*2)))∧SlI (news os AH.zero) v1 (z1.take l1):=by
 have st:=St0.zero P w
 obtain⟨σ1,o0,v0,r1,r2,r3,r4⟩:=rowE1 st.rep rfl (by decide) w0 s0
 obtain⟨σ2,o1,v1,t1,t2,t3,t4,t5⟩:=ints1 r2 rfl w1
 refine⟨σ2,[o0,o1],v0,v1,rfl,(st.gl.mono r1).mono t1,t2,VR.mono t1 _ _ r3,t3,?_,t5⟩
 rcases r4 with ⟨h1,h2⟩|⟨h1,h2,h3⟩
 ·subst h1 h2
  exact .inl ⟨by simp [pairsI],.inl rfl⟩
 ·subst h1
  obtain⟨f1,f2⟩:=flat_pairs l0 (z0.take (l0*2)) h3
  refine sl_flat (f:=eE) (ro:=true) (fun _=>rfl) ?_ (by rw[f2])
  show ((AH.zero.new o0).new o1).get AH.zero.next=_
  rw[AH.get_new,if_neg (by simp),AH.get_new,if_pos rfl,h2,f1]
end Go.Proofs.YtldkniahgagocaaGreat
namespace Go.Proofs.YtldkniahgagocaaGreat
open Go.Am
theorem set_nil {α:Type} (p:List Bool) (x:α):(T.nil:T α).set p x=(T.node .nil none .nil).set p x:=by
 cases p with
 | nil=>rfl
 | cons b p=>cases b<;>rfl
theorem set_same {α:Type} (x y:α):∀ (p:List Bool) (t:T α),(t.set p x).set p y=t.set p y:=by
 intro p
 induction p with
 | nil =>
   intro t
   cases t<;>rfl
 | cons b p ih =>
   intro t
   cases t with
   | nil =>
     rw[set_nil,set_nil (b::p) y]
     have i0:=ih .nil
     simp only[T.set] at i0
     cases b<;>simp only[T.set,i0]
   | node l v r=>cases b<;>simp only[T.set,ih]
theorem set_comm {α:Type} (x y:α):∀ (p q:List Bool) (t:T α),p≠q→(t.set p x).set q y=(t.set q y).set p x:=by
 intro p
 induction p with
 | nil =>
   intro q t h
   cases q with
   | nil=>exact absurd rfl h
   | cons b q =>
     cases t with
     | nil =>
       rw[set_nil,set_nil (b::q) y]
       cases b<;>rfl
     | node l v r=>cases b<;>rfl
 | cons a p ih =>
   intro q t h
   cases q with
   | nil =>
     cases t with
     | nil =>
       rw[set_nil,set_nil [] y]
       cases a<;>rfl
     | node l v r=>cases a<;>rfl
   | cons b q =>
     have key:∀ (l r:T α) (v:Option α),((T.node l v r).set (a::p) x).set (b::q) y=((T.node l v r).set (b::q) y).set (a::p) x:=by
      intro l r v
      cases a<;>cases b
      ·simp only[T.set]
       rw[ih q r (fun e=>h (by rw[e]))]
      ·simp only[T.set]
      ·simp only[T.set]
      ·simp only[T.set]
       rw[ih q l (fun e=>h (by rw[e]))]
     cases t with
     | nil =>
       rw[set_nil,set_nil (b::q) y]
       exact key _ _ _
     | node l v r=>exact key _ _ _
theorem path_ne {m n:Nat} (h:m≠n):path m≠path n:=fun e=>h (path_inj.1 e)
theorem put_new {h:AH}{m:Nat}{o a:AO} (hm:m≠h.next):(h.new a).put m o=(h.put m o).new a:=by
 unfold AH.put AH.new
 simp only
 rw[set_comm _ _ _ _ _ (path_ne (Ne.symm hm))]
theorem new_put {h:AH}{o a:AO}:(h.new a).put h.next o=h.new o:=by
 unfold AH.put AH.new
 simp only
 rw[set_same]
theorem keep_put:∀ (k:Nat) (h:AH) (m:Nat) (o:AO),m<h.next→(h.keep k).put m o=(h.put m o).keep k
 | 0,_,_,_,_=>rfl
 | k+1,h,m,o,hm=>by
   show ((h.new .resv).keep k).put m o=((h.put m o).new .resv).keep k
   rw[keep_put k (h.new .resv) m o (by simp; omega),put_new (by omega)]
theorem put_put {h:AH}{m n:Nat}{a b:AO} (hmn:m≠n):(h.put m a).put n b=(h.put n b).put m a:=by
 unfold AH.put
 simp only
 rw[set_comm _ _ _ _ _ (path_ne hmn)]
def zipN:List AO→Nat→List (Nat×AO×Option Nat)
 | [],_=>[]
 | o::r,n=>(n,o,none)::zipN r (n+1)
theorem zipN_fst:∀ (os:List AO) (n:Nat),(zipN os n).map (·.1)=List.range' n os.length
 | [],n=>rfl
 | o::r,n=>by rw[zipN,List.map_cons,zipN_fst r,List.length_cons,List.range'_succ]
theorem puts_put:∀ (Z:List AO) (n:Nat) (h:AH) (m:Nat) (o:AO),m<n→puts (zipN Z n) (h.put m o)=(puts (zipN Z n) h).put m o
 | [],_,_,_,_,_=>rfl
 | a::r,n,h,m,o,hm=>by
   show ((puts (zipN r (n+1)) (h.put m o))).put n a=(((puts (zipN r (n+1)) h)).put n a).put m o
   rw[puts_put r (n+1) h m o (by omega),put_put (by omega)]
theorem news_puts:∀ (os:List AO) (h:AH),news os h=puts (zipN os h.next) (h.keep os.length)
 | [],h=>rfl
 | o::r,h=>by
   show news r (h.new o)=(puts (zipN r (h.next+1)) ((h.new .resv).keep r.length)).put h.next o
   rw[news_puts r (h.new o),← puts_put _ _ _ _ _ (by omega),keep_put _ _ _ _ (by simp),new_put]
   rfl
theorem Sl.stay {h h':AH}{e:Nat}{v:AV}{xs:List (List AV)} (hk:∀ b o,h.get b=some o→h'.get b=some o) (hs:Sl h e v xs):Sl h' e v xs:=by
 rcases hs with hs|⟨b,o,c,cs,ro,h1,h2,h3⟩
 ·exact .inl hs
 ·exact .inr ⟨b,o,c,cs,ro,h1,hk _ _ h2,h3⟩
theorem news_one {os:List AO}{h:AH}{a:AO}:(news os h).new a=news (os++[a]) h:=by
 induction os generalizing h with
 | nil=>rfl
 | cons o r ih=>exact ih
theorem speaks_at {f:FuncId}{S0:AH}{m:Nat} (hg:GoodS prg ⟨.call f [] S0,[]⟩) (hS:S0=AH.zero.keep m) {os:List AO} (hl:os.length=m) (hm:0<m) :
 C prg f [] (news os AH.zero) fun v h'=>v=.bool true∧8+m≤h'.next∧∀ b o,(news os AH.zero).get b=some o→h'.get b=some o:=by
 have he:news os AH.zero=puts (zipN os 8) S0:=by
  rw[news_puts,hl,hS]
  rfl
 have hfst:(zipN os 8).map (·.1)=List.range' 8 m:=by rw[zipN_fst,hl]
 have hmem:∀ b,b∈(zipN os 8).map (·.1)↔8≤b∧b<8+m:=fun b=>by
  rw[hfst,List.mem_range'_1]
 have h8:AH.zero.next=8:=rfl
 rw[he]
 refine (C.of_goodS hg (zipN os 8) (by rw[hfst]; exact List.nodup_range') (fun x hx=>?_)).mono fun v h' ⟨e1,e2⟩=>⟨e1,?_,fun b o hb=>?_⟩
 ·have:=(hmem x.1).1 (List.mem_map.2 ⟨x,hx,rfl⟩)
  rw[hS,AH.keep_get,if_pos ⟨by omega,by omega⟩]
 ·have:=(e2 (8+m-1) ((hmem _).2 (by omega))).1
  omega
 ·have hbl:b<8+m:=by
   have:=AH.lt_of_get hb
   rw[puts_next,hS,AH.keep_next] at this
   omega
  by_cases h8:8≤b
  ·rw[(e2 b ((hmem b).2 ⟨h8,hbl⟩)).2]
   exact hb
  ·exfalso
   rw[← he,news_get _ _ _ (show b<AH.zero.next from by show b<8; omega),AH.get_zero] at hb
   cases hb
end Go.Proofs.YtldkniahgagocaaGreat
