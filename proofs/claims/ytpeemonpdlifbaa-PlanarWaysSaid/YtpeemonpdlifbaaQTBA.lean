/-
  Five vertices, all joined: no dual. What a way through a new vertex and a vertex hung on change. Plain words, no program in sight. A graph with a vertex hung on, and one with an edge as a way of two: they can be laid if and only if the graph can. More than one element appended at once. Five vertices, all joined, can't be laid: too few faces. Plain words, no program in sight. Five vertices, all joined: no dual. Four: one. Plain words, no program in sight. PlanarWays' and its kin's example: the full graphs of five and of four.
-/
import Derived.Test.YtpeemonpdlifbaaQTAK
import Derived.Test.YtpeemonpdlifbaaQTAE
import Derived.Test.YtpeemonpdlifbaaQTAZ
import Derived.Test.YtpeemonpdlifbaaQTAC
import Derived.Test.YtpeemonpdlifbaaQAmR
import Derived.Test.YtpeemonpdlifbaaQTAJ
set_option linter.all false
namespace Go.Pla
open Go.Blk
variable {g g':Gr}{B:List Nat}{Φ:Type}{l r:Nat→Φ}
theorem Even.gr {X:Nat→Bool} (h:Even g B X) (ha:∀ e∈B,∀ v,at_ g e v=at_ g' e v):Even g' B X:=fun v=>by
 rw[← h v]; exact par_congr fun e he=>by rw[ha e he v]
theorem Dual.gr (d:Dual g B l r) (ha:∀ e∈B,∀ v,at_ g e v=at_ g' e v):Dual g' B l r where
 two:=fun S=>(d.two S).gr ha
 one:=fun X hX=>d.one X (hX.gr fun e he v=>(ha e he v).symm)
theorem dual_nil:Dual g [] (fun _=>()) (fun _=>()) where
 two:=fun _ _=>rfl
 one:=fun _ _=>⟨fun _=>false,by simp⟩
theorem par_last {m:Nat}{p:Nat→Bool}:par (List.range (m+1)) p=(par (List.range m) p ^^ p m):=by
 rw[List.range_succ,par_app]; simp [par]
theorem hung_even {m x:Nat} (hx:∀ e,e<m→at_ g e x=false) (hm:at_ g m x=true) {X:Nat→Bool} (h:Even g (List.range (m+1)) X):X m=false:=by
 have:=h x
 rw[par_last,par_no fun e he=>by rw[hx e (List.mem_range.1 he),Bool.and_false],hm] at this
 simpa using this
theorem hung_iff {m x:Nat} (hx:∀ e,e<m→at_ g e x=false) (hm:at_ g m x=true):(∃ (Φ:Type) (l r:Nat→Φ),Dual g (List.range (m+1)) l r)↔∃ (Φ:Type) (l r:Nat→Φ),Dual g (List.range m) l r:=by
 constructor
 ·rintro⟨Φ,l,r,d⟩
  refine⟨Φ,l,r,fun S v=>?_,fun X hX=>?_⟩
  ·have h1:=d.two S v
   have h2:(S (l m) ^^ S (r m))=false:=hung_even hx hm (d.two S)
   rw[par_last] at h1
   dsimp only at h1
   rw[h2] at h1
   simpa using h1
  ·obtain⟨S,hS⟩:=d.one (fun e=>X e&&decide (e<m)) fun v=>by
    rw[par_last,par_congr (q:=fun e=>X e&&at_ g e v) (fun e he=>by simp [List.mem_range.1 he]),hX v]
    simp
   refine⟨S,fun e he=>?_⟩
   have hem:=List.mem_range.1 he
   have:=hS e (List.mem_range.2 (by omega))
   simpa [hem] using this
 ·rintro⟨Φ,l,r,d⟩
  refine⟨Φ,fun e=>if e=m then l m else l e,fun e=>if e=m then l m else r e,fun S v=>?_,fun X hX=>?_⟩
  ·rw[par_last,par_congr (q:=fun e=>(S (l e) ^^ S (r e))&&at_ g e v) (fun e he=>by
    have:e≠m:=by have:=List.mem_range.1 he; omega
    simp [this]),d.two S v]
   simp
  ·have h0:=hung_even hx hm hX
   obtain⟨S,hS⟩:=d.one X fun v=>by
    have:=hX v
    rw[par_last,h0] at this
    simpa using this
   refine⟨S,fun e he=>?_⟩
   by_cases hem:e=m
   ·subst hem; simp [h0]
   ·have hlt:e<m:=by have:=List.mem_range.1 he; omega
    simp only[if_neg hem]
    exact hS e (List.mem_range.2 hlt)
theorem way_iff {m k x:Nat} (hk:k<m) (h1:∀ e,e<m→e≠k→∀ v,at_ g' e v=at_ g e v) (h2:∀ v,v≠x→at_ g k v=(at_ g' k v ^^ at_ g' m v)) (h3:∀ e,e<m→at_ g e x=false) (h4:at_ g' k x=true) (h5:at_ g' m x=true) :
 (∃ (Φ:Type) (l r:Nat→Φ),Dual g' (List.range (m+1)) l r)↔∃ (Φ:Type) (l r:Nat→Φ),Dual g (List.range m) l r:=by
 have hkm:k∈List.range m:=List.mem_range.2 hk
 have both:∀ {X},Even g' (List.range (m+1)) X→X m=X k:=fun {X} hX=>by
  have:=hX x
  rw[par_last,par_congr (q:=fun e=>(e==k)&&X e) (fun e he=>by
   by_cases q:e=k
   ·subst q; rw[h4]; simp
   ·rw[h1 e (List.mem_range.1 he) q x,h3 e (List.mem_range.1 he)]; simp [q]),par_one List.nodup_range hkm,h5] at this
  cases hm:X m<;>cases hk':X k<;>simp [hm,hk'] at this ⊢
 have shift:∀ {X:Nat→Bool}{v:Nat},X m=X k→v≠x→par (List.range (m+1)) (fun e=>X e&&at_ g' e v)=par (List.range m) (fun e=>X e&&at_ g e v):=fun {X v} hm hv=>by
  rw[par_last,hm,par_congr (l:=List.range m) (p:=fun e=>X e&&at_ g e v) (q:=fun e=>(X e&&at_ g' e v) ^^ ((e==k)&&(X e&&at_ g' m v))) (fun e he=>by
   by_cases q:e=k
   ·subst q; rw[h2 v hv]; simp only[beq_self_eq_true,Bool.true_and]; cases X e<;>simp
   ·have q':(e==k)=false:=by rw[beq_eq_false_iff_ne]; exact q
    rw[h1 e (List.mem_range.1 he) q v,q',Bool.false_and,Bool.xor_false]),par_xor,par_one List.nodup_range hkm]
 have ev1:∀ {X:Nat→Bool},Even g' (List.range (m+1)) X→Even g (List.range m) X:=fun {X} hX v=>by
  by_cases hv:v=x
  ·subst hv; exact par_no fun e he=>by rw[h3 e (List.mem_range.1 he),Bool.and_false]
  ·rw[← shift (both hX) hv]; exact hX v
 have ev2:∀ {X:Nat→Bool},Even g (List.range m) X→X m=X k→Even g' (List.range (m+1)) X:=fun {X} hX hm v=>by
  by_cases hv:v=x
  ·subst hv
   rw[par_last,par_congr (q:=fun e=>(e==k)&&X e) (fun e he=>by
    by_cases q:e=k
    ·subst q; rw[h4]; simp
    ·rw[h1 e (List.mem_range.1 he) q v,h3 e (List.mem_range.1 he)]; simp [q]),par_one List.nodup_range hkm,h5,hm]
   simp
  ·rw[shift hm hv]; exact hX v
 constructor
 ·rintro⟨Φ,l,r,d⟩
  refine⟨Φ,l,r,fun S=>ev1 (d.two S),fun X hX=>?_⟩
  obtain⟨S,hS⟩:=d.one (fun e=>if e=m then X k else X e) (ev2 (hX.congr fun e he=>by
   have:e≠m:=by have:=List.mem_range.1 he; omega
   simp [this]) (by have:k≠m:=by omega
                    simp [this]))
  refine⟨S,fun e he=>?_⟩
  have hem:=List.mem_range.1 he
  have:=hS e (List.mem_range.2 (by omega))
  rwa [if_neg (by omega)] at this
 ·rintro⟨Φ,l,r,d⟩
  refine⟨Φ,fun e=>if e=m then l k else l e,fun e=>if e=m then r k else r e,fun S=>ev2 ((d.two S).congr fun e he=>by
   have:e≠m:=by have:=List.mem_range.1 he; omega
   simp [this]) (by have:k≠m:=by omega
                    simp [this]),fun X hX=>?_⟩
  obtain⟨S,hS⟩:=d.one X (ev1 hX)
  refine⟨S,fun e he=>?_⟩
  by_cases hem:e=m
  ·subst hem
   simp only[if_true]
   rw[both hX]; exact hS k hkm
  ·simp only[if_neg hem]
   exact hS e (List.mem_range.2 (by have:=List.mem_range.1 he; omega))
end Go.Pla
namespace Go.Proofs.Ytpeemonpdlifbaa
open Go.Am
open Go.Pla (Dual at_)
theorem isP_iff {n:Nat}{E:List (Int×Int)} (hP:PlainP n E) (hE:InG n E) (hL:∀ i,i<E.length→tlE E i≠hdE E i):IsP n E↔∃ (Φ:Type) (l r:Nat→Φ),Dual (grE n E hE hL) (List.range E.length) l r :=
 ⟨fun h=>h.2 hE hL,fun h=>⟨hP,fun _ _=>h⟩⟩
theorem incB_iff {E:List (Int×Int)}{i x:Nat}:incB E i x=true↔tlE E i=x∨hdE E i=x:=by
 unfold incB
 simp
theorem tlE_app {E F:List (Int×Int)}{i:Nat} (hi:i<E.length):tlE (E++F) i=tlE E i∧hdE (E++F) i=hdE E i:=by
 unfold tlE hdE
 rw[List.getD_eq_getElem?_getD,List.getElem?_append_left hi,← List.getD_eq_getElem?_getD]
 exact⟨rfl,rfl⟩
theorem tlE_last {E:List (Int×Int)}{a b:Nat}:tlE (E++[(((a:Nat):Int),((b:Nat):Int))]) E.length=a∧hdE (E++[(((a:Nat):Int),((b:Nat):Int))]) E.length=b:=by
 unfold tlE hdE
 rw[List.getD_eq_getElem?_getD,List.getElem?_append_right (Nat.le_refl _),Nat.sub_self]
 simp
theorem tlE_set {E:List (Int×Int)}{k i:Nat}{a b:Nat} (hi:i<E.length):tlE (E.set k (((a:Nat):Int),((b:Nat):Int))) i=(if k=i then a else tlE E i)∧hdE (E.set k (((a:Nat):Int),((b:Nat):Int))) i=(if k=i then b else hdE E i):=by
 unfold tlE hdE
 rw[List.getD_eq_getElem?_getD,List.getElem?_set]
 by_cases e:k=i
 ·subst e; simp [hi]
 ·simp [e,List.getD_eq_getElem?_getD]
theorem ing_mk {n:Nat}{E:List (Int×Int)} (h:∀ e∈E,∃ a b:Nat,e=(((a:Nat):Int),((b:Nat):Int))∧a<n∧b<n):InG n E:=fun i hi=>by
 obtain⟨a,b,e,ha,hb⟩:=h E[i] (List.getElem_mem hi)
 have:=tlE_getD' hi e
 rw[this.1,this.2]
 exact⟨e,ha,hb⟩
where
 tlE_getD' {E:List (Int×Int)}{a b:Nat}{i:Nat} (hi:i<E.length) (h:E[i]=(((a:Nat):Int),((b:Nat):Int))):tlE E i=a∧hdE E i=b:=by
  unfold tlE hdE
  rw[List.getD_eq_getElem?_getD,List.getElem?_eq_getElem hi,h]
  simp
theorem ing_ex {n:Nat}{E:List (Int×Int)} (h:InG n E):∀ e∈E,∃ a b:Nat,e=(((a:Nat):Int),((b:Nat):Int))∧a<n∧b<n:=fun e he=>by
 obtain⟨i,hi,rfl⟩:=List.mem_iff_getElem.1 he
 exact⟨_,_,(h i hi).1,(h i hi).2.1,(h i hi).2.2⟩
theorem plain_mk {n:Nat}{E:List (Int×Int)} (h1:1≤n) (h2:n≤64) (h3:E.length≤128) (hE:InG n E) (hL:∀ i,i<E.length→tlE E i≠hdE E i)
 (hD:∀ i j,i<j→j<E.length→¬ ((tlE E i=tlE E j∧hdE E i=hdE E j)∨(tlE E i=hdE E j∧hdE E i=tlE E j))):PlainP (n:Nat) E:=by
 refine⟨?_,fun e he=>?_,?_⟩
 ·unfold mayB
  have:E.all (okE (n:Nat))=true:=by
   rw[List.all_eq_true]
   intro e he
   obtain⟨a,b,rfl,ha,hb⟩:=ing_ex hE e he
   unfold okE
   simp only[Bool.and_eq_true,decide_eq_true_eq]
   omega
  rw[this]
  simp only[Bool.and_true,Bool.and_eq_true,decide_eq_true_eq]
  omega
 ·obtain⟨i,hi,rfl⟩:=List.mem_iff_getElem.1 he
  have:=hL i hi
  rw[(hE i hi).1]
  simp only
  omega
 ·rw[List.nodup_iff_pairwise_ne,List.pairwise_map,List.pairwise_iff_getElem]
  intro i j hi hj hij e
  rw[mnx_iff] at e
  refine hD i j hij hj ?_
  rw[(hE i hi).1,(hE j hj).1] at e
  simp only[Prod.mk.injEq] at e
  omega
theorem plain_no {n:Nat}{E:List (Int×Int)} (hP:PlainP (n:Nat) E):∀ i j,i<j→j<E.length→¬ ((tlE E i=tlE E j∧hdE E i=hdE E j)∨(tlE E i=hdE E j∧hdE E i=tlE E j)):=fun i j hij hj hc=>by
 have hE:InG n E:=by simpa using ing_of hP.1
 have:=hP.2.2
 rw[List.nodup_iff_pairwise_ne,List.pairwise_map,List.pairwise_iff_getElem] at this
 refine this i j (by omega) hj hij (mnx_iff.2 ?_)
 rw[(hE i (by omega)).1,(hE j hj).1]
 simp only[Prod.mk.injEq]
 omega
theorem hung_isP {n x:Nat}{E:List (Int×Int)} (hP:PlainP (n:Nat) E) (hx:x<n) (hn:n<64) (hm:E.length<128):IsP ((n+1:Nat):Int) (E++[(((x:Nat):Int),((n:Nat):Int))])↔IsP (n:Nat) E:=by
 have hE:InG n E:=by simpa using ing_of hP.1
 have hL:=nl_of hP.1 hP.2.1
 have hE':InG (n+1) (E++[(((x:Nat):Int),((n:Nat):Int))]):=ing_mk fun e he=>by
  rcases List.mem_append.1 he with h|h
  ·obtain⟨a,b,rfl,ha,hb⟩:=ing_ex hE e h
   exact⟨a,b,rfl,by omega,by omega⟩
  ·rw[List.mem_singleton] at h
   exact⟨x,n,h,by omega,by omega⟩
 have hl:(E++[(((x:Nat):Int),((n:Nat):Int))]).length=E.length+1:=by simp
 have ta:∀ i,i<E.length→tlE (E++[(((x:Nat):Int),((n:Nat):Int))]) i=tlE E i∧hdE (E++[(((x:Nat):Int),((n:Nat):Int))]) i=hdE E i:=fun i hi=>tlE_app hi
 have tb:=@tlE_last E x n
 generalize E++[(((x:Nat):Int),((n:Nat):Int))]=E' at *
 have hL':∀ i,i<E'.length→tlE E' i≠hdE E' i:=fun i hi=>by
  by_cases q:i<E.length
  ·rw[(ta i q).1,(ta i q).2]; exact hL i q
  ·obtain rfl:i=E.length:=by omega
   rw[tb.1,tb.2]; omega
 have hP':PlainP ((n+1:Nat):Int) E':=plain_mk (by omega) (by omega) (by omega) hE' hL' fun i j hij hj hc=>by
  by_cases q:j<E.length
  ·rw[(ta i (by omega)).1,(ta i (by omega)).2,(ta j q).1,(ta j q).2] at hc
   exact plain_no hP i j hij q hc
  ·obtain rfl:j=E.length:=by omega
   rw[(ta i hij).1,(ta i hij).2,tb.1,tb.2] at hc
   have:=hE i hij
   omega
 rw[isP_iff hP' hE' hL',isP_iff hP hE hL,hl]
 refine (Go.Pla.hung_iff (m:=E.length) (x:=n) (fun e he=>?_) ?_).trans ⟨fun ⟨Φ,l,r,d⟩=>⟨Φ,l,r,d.gr fun e he v=>?_⟩,fun ⟨Φ,l,r,d⟩=>⟨Φ,l,r,d.gr fun e he v=>?_⟩⟩
 ·rw[at_incB (by omega),Bool.eq_false_iff]
  intro h
  rw[incB_iff,(ta e he).1,(ta e he).2] at h
  have:=hE e he
  omega
 ·rw[at_incB (by omega),incB_iff,tb.2]
  exact .inr rfl
 ·have:=List.mem_range.1 he
  rw[at_incB (by omega),at_incB this]
  unfold incB
  rw[(ta e this).1,(ta e this).2]
 ·have:=List.mem_range.1 he
  rw[at_incB this,at_incB (by omega)]
  unfold incB
  rw[(ta e this).1,(ta e this).2]
theorem way_isP {n k:Nat}{E:List (Int×Int)} (hP:PlainP (n:Nat) E) (hk:k<E.length) (hn:n<64) (hm:E.length<128):IsP ((n+1:Nat):Int) (E.set k (((tlE E k:Nat):Int),((n:Nat):Int))++[(((n:Nat):Int),((hdE E k:Nat):Int))])↔IsP (n:Nat) E:=by
 have hE:InG n E:=by simpa using ing_of hP.1
 have hL:=nl_of hP.1 hP.2.1
 have hEk:=hE k hk
 have hE':InG (n+1) (E.set k (((tlE E k:Nat):Int),((n:Nat):Int))++[(((n:Nat):Int),((hdE E k:Nat):Int))]):=ing_mk fun e he=>by
  rcases List.mem_append.1 he with h|h
  ·rcases List.mem_or_eq_of_mem_set h with h|h
   ·obtain⟨a,b,rfl,ha,hb⟩:=ing_ex hE e h
    exact⟨a,b,rfl,by omega,by omega⟩
   ·exact⟨_,_,h,by omega,by omega⟩
  ·rw[List.mem_singleton] at h
   exact⟨_,_,h,by omega,by omega⟩
 have hl:(E.set k (((tlE E k:Nat):Int),((n:Nat):Int))++[(((n:Nat):Int),((hdE E k:Nat):Int))]).length=E.length+1:=by simp
 have ta:∀ i,i<E.length→tlE (E.set k (((tlE E k:Nat):Int),((n:Nat):Int))++[(((n:Nat):Int),((hdE E k:Nat):Int))]) i=(if k=i then tlE E k else tlE E i)∧hdE (E.set k (((tlE E k:Nat):Int),((n:Nat):Int))++[(((n:Nat):Int),((hdE E k:Nat):Int))]) i=(if k=i then n else hdE E i):=fun i hi=>by
  rw[(tlE_app (by rw[List.length_set]; exact hi)).1,(tlE_app (by rw[List.length_set]; exact hi)).2]
  exact tlE_set hi
 have tb:tlE (E.set k (((tlE E k:Nat):Int),((n:Nat):Int))++[(((n:Nat):Int),((hdE E k:Nat):Int))]) E.length=n∧hdE (E.set k (((tlE E k:Nat):Int),((n:Nat):Int))++[(((n:Nat):Int),((hdE E k:Nat):Int))]) E.length=hdE E k:=by
  have:=@tlE_last (E.set k (((tlE E k:Nat):Int),((n:Nat):Int))) n (hdE E k)
  rwa [List.length_set] at this
 generalize E.set k (((tlE E k:Nat):Int),((n:Nat):Int))++[(((n:Nat):Int),((hdE E k:Nat):Int))]=E' at *
 have tk:tlE E' k=tlE E k∧hdE E' k=n:=by
  have:=ta k hk
  simpa using this
 have tn:∀ i,i<E.length→i≠k→tlE E' i=tlE E i∧hdE E' i=hdE E i:=fun i hi hne=>by
  have:=ta i hi
  rwa [if_neg (Ne.symm hne),if_neg (Ne.symm hne)] at this
 have hL':∀ i,i<E'.length→tlE E' i≠hdE E' i:=fun i hi=>by
  by_cases q:i<E.length
  ·by_cases e:i=k
   ·subst e; rw[tk.1,tk.2]; omega
   ·rw[(tn i q e).1,(tn i q e).2]; exact hL i q
  ·obtain rfl:i=E.length:=by omega
   rw[tb.1,tb.2]; omega
 have hP':PlainP ((n+1:Nat):Int) E':=plain_mk (by omega) (by omega) (by omega) hE' hL' fun i j hij hj hc=>by
  have hi:i<E.length:=by omega
  have bi:=hE i hi
  by_cases q:j<E.length
  ·have bj:=hE j q
   by_cases e1:i=k
   ·subst e1
    rw[tk.1,tk.2,(tn j q (by omega)).1,(tn j q (by omega)).2] at hc
    omega
   ·by_cases e2:j=k
    ·subst e2
     rw[tk.1,tk.2,(tn i hi e1).1,(tn i hi e1).2] at hc
     omega
    ·rw[(tn i hi e1).1,(tn i hi e1).2,(tn j q e2).1,(tn j q e2).2] at hc
     exact plain_no hP i j hij q hc
  ·obtain rfl:j=E.length:=by omega
   have:=hL k hk
   by_cases e1:i=k
   ·subst e1
    rw[tk.1,tk.2,tb.1,tb.2] at hc
    omega
   ·rw[(tn i hi e1).1,(tn i hi e1).2,tb.1,tb.2] at hc
    omega
 rw[isP_iff hP' hE' hL',isP_iff hP hE hL,hl]
 have hb:∀ {i v:Nat},i<E.length→at_ (grE n E hE hL) i v=incB E i v:=fun hi=>at_incB hi
 have hb':∀ {i v:Nat},i<E.length+1→at_ (grE (n+1) E' hE' hL') i v=incB E' i v:=fun hi=>at_incB (by omega)
 have no:∀ e,e<E.length→at_ (grE n E hE hL) e n=false:=fun e he=>by
  rw[hb he,Bool.eq_false_iff]
  intro h
  rw[incB_iff] at h
  have:=hE e he
  omega
 refine Go.Pla.way_iff (m:=E.length) (k:=k) (x:=n) hk (fun e he hne v=>?_) (fun v hv=>?_) no ?_ ?_
 ·rw[hb' (by omega),hb he]
  unfold incB
  rw[(tn e he hne).1,(tn e he hne).2]
 ·rw[hb' (by omega),hb' (by omega),hb hk]
  have hne:=hL k hk
  unfold incB
  rw[tk.1,tk.2,tb.1,tb.2]
  have e1:decide (n=v)=false:=decide_eq_false (Ne.symm hv)
  rw[e1,Bool.or_false,Bool.false_or]
  by_cases h1:tlE E k=v
  ·have h2:¬ hdE E k=v:=fun q=>hne (by omega)
   simp [h1,h2]
  ·simp [h1]
 ·rw[hb' (by omega),incB_iff,tk.2]
  exact .inr rfl
 ·rw[hb' (by omega),incB_iff,tb.1]
  exact .inl rfl
end Go.Proofs.Ytpeemonpdlifbaa
namespace Go.Proofs.Ytpeemonpdlifbaa
open Go.Am
theorem apps {h:AH}{esz lo bytes:Nat}{v w:AV}{cs:List AV}{xs:List (List AV)} (hv:IsSl h esz lo v cs) (hlo:lo≤h.next) (he:0<esz) (hw:Sl h esz w xs) (ho:xs.flatten.all AV.one=true)
 (hb:(cs.length / esz+xs.length)*bytes<tooMany) (hc:cs.length / esz+xs.length<tooMany):∃ v' h',appA h esz bytes v w=some (v',h')∧IsSl h' esz lo v' (cs++xs.flatten)∧Ext lo h h'∧h.next≤h'.next∧(∀ c,c<h.next→(∀ b n,v=.sl b 0 n n→c≠b)→h'.get c=h.get c):=by
 obtain⟨hs,hfl⟩:=hw.src
 by_cases h0:xs.length=0
 ·have hx0:xs=[]:=List.length_eq_zero_iff.1 h0
  subst hx0
  refine⟨v,h,?_,by simpa using hv,Ext.refl,Nat.le_refl _,fun _ _ _=>rfl⟩
  rcases hv with ⟨rfl,rfl⟩|⟨b,n,h1,rfl,h3,h4⟩
  ·simp only[appA,hs,ho,if_true,List.length_nil]
  ·simp only[appA,hs,ho,if_true,List.length_nil]
 ·rcases hv with ⟨rfl,rfl⟩|⟨b,n,h1,rfl,h3,h4⟩
  ·refine⟨.sl h.next 0 xs.length xs.length,h.new (.cells xs.flatten esz false),?_,.inr ⟨h.next,xs.length,hlo,rfl,by rw[AH.get_new]; simp,by simpa using hfl⟩,Ext.new hlo,by simp,fun c hc _=>by rw[AH.get_new,if_neg (by omega)]⟩
   simp only[appA,hs,ho,if_true,h0,if_false]
   simp only[List.length_nil,Nat.zero_div,Nat.zero_add] at hb hc
   rw[if_pos ⟨hb,hc⟩]
  ·have hnn:cs.length / esz=n:=by rw[h4,Nat.mul_div_cancel _ he]
   rw[hnn] at hb hc
   have hr2:rdCells h b 0 (n*esz)=some cs:=by
    rw[rdCells_of h3,if_pos (by omega),List.drop_zero,← h4,List.take_length]
   refine⟨.sl h.next 0 (n+xs.length) (n+xs.length),(h.put b .dead).new (.cells (cs++xs.flatten) esz false),?_,.inr ⟨h.next,n+xs.length,hlo,rfl,by rw[AH.get_new,AH.next_put]; simp,by rw[List.length_append,hfl,h4,Nat.add_mul]⟩,?_,by simp,?_⟩
   ·simp only[appA,hs,ho,if_true,h0,if_false]
    rw[if_neg (by omega),if_pos ⟨hb,hc⟩,h3,hr2]
    simp only[if_true]
   ·exact (Ext.put h1).trans (Ext.new (by simpa using hlo))
   ·intro c hc hne
    rw[AH.get_new,AH.next_put,if_neg (by omega),AH.get_put _ _ _ _ (AH.lt_of_get h3),if_neg (Ne.symm (hne b n rfl))]
end Go.Proofs.Ytpeemonpdlifbaa
namespace Go.Pla
open Go.Blk
variable {g:Gr}{B:List Nat}{Φ:Type}
theorem par_more {p:Nat→Bool} (nd:B.Nodup) (h:par B p=false) {e:Nat} (he:e∈B) (hp:p e=true):∃ k∈B,k≠e∧p k=true:=by
 refine Classical.byContradiction fun hno=>?_
 rw[par_congr (q:=fun j=>(j==e)&&true) (fun j hj=>by
  by_cases q:j=e
  ·subst q; simp [hp]
  ·have q':(j==e)=false:=by rw[beq_eq_false_iff_ne]; exact q
   rw[q',Bool.false_and]
   cases hpj:p j with
   | false=>rfl
   | true=>exact absurd ⟨j,hj,q,hpj⟩ hno),par_one (p:=fun _=>true) nd he] at h
 cases h
theorem sub_len:∀ {a b:List Nat},a.Nodup→(∀ x∈a,x∈b)→a.length≤b.length
 | [],_,_,_=>Nat.zero_le _
 | x::a,b,nd,h=>by
   obtain⟨h1,h2⟩:=List.nodup_cons.1 nd
   have hx:=h x (by simp)
   have:=sub_len (b:=b.erase x) h2 fun y hy=>(List.mem_erase_of_ne fun (q:y=x)=>h1 (q▸hy)).2 (h y (by simp [hy]))
   rw[List.length_erase_of_mem hx] at this
   have:=List.length_pos_of_mem hx
   rw[List.length_cons]
   omega
theorem even_three (p:Pln g B) {X:Nat→Bool} (hX:Even g B X) {e:Nat} (he:e∈B) (hXe:X e=true):3≤B.countP X:=by
 have hne:=p.ne he
 have a1:at_ g e (g.tl e)=true:=by unfold at_; simp [Ne.symm hne]
 have a2:at_ g e (g.hd e)=true:=by unfold at_; simp [hne]
 obtain⟨k1,hk1,n1,x1⟩:=par_more p.nd (hX (g.tl e)) he (by simp [hXe,a1])
 obtain⟨k2,hk2,n2,x2⟩:=par_more p.nd (hX (g.hd e)) he (by simp [hXe,a2])
 simp only[Bool.and_eq_true] at x1 x2
 have h12:k1≠k2:=fun q=>by
  subst q
  refine n1 (p.one k1 hk1 e he (g.tl e) (g.hd e) ?_ (jn_iff.2 (.inl ⟨rfl,rfl⟩)))
  have:=p.ne hk1
  have y1:=((at_inc (p.lt k1 hk1)).1 x1.2).2
  have y2:=((at_inc (p.lt k1 hk1)).1 x2.2).2
  rw[jn_iff]
  omega
 have nd3:[e,k1,k2].Nodup:=by simp [Ne.symm n1,Ne.symm n2,h12]
 have hsub:∀ x∈[e,k1,k2],x∈B.filter X:=fun x hx=>by
  simp only[List.mem_cons,List.not_mem_nil,or_false] at hx
  rw[List.mem_filter]
  rcases hx with rfl|rfl|rfl
  ·exact⟨he,hXe⟩
  ·exact⟨hk1,x1.1⟩
  ·exact⟨hk2,x2.1⟩
 rw[List.countP_eq_length_filter]
 exact sub_len nd3 hsub
theorem nodup_ex:∀ (L:List Φ),∃ D:List Φ,D.Nodup∧∀ x,x∈D↔x∈L
 | []=>⟨[],List.nodup_nil,fun _=>Iff.rfl⟩
 | y::L=>by
   obtain⟨D,h1,h2⟩:=nodup_ex L
   by_cases h:y∈D
   ·exact⟨D,h1,fun x=>by
     rw[List.mem_cons,h2]
     constructor
     ·exact .inr
     ·rintro (rfl|q)
      ·exact (h2 _).1 h
      ·exact q⟩
   ·exact⟨y::D,List.nodup_cons.2 ⟨h,h1⟩,fun x=>by rw[List.mem_cons,List.mem_cons,h2]⟩
theorem sum_swap {α β:Type}{p:α→β→Bool}{L:List β}:∀ {D:List α},(D.map fun a=>L.countP (p a)).sum=(L.map fun b=>D.countP fun a=>p a b).sum
 | []=>by induction L with
   | nil=>rfl
   | cons b L ih=>simpa using ih
 | a::D=>by
   rw[List.map_cons,List.sum_cons,sum_swap (D:=D)]
   clear sum_swap
   induction L with
   | nil=>rfl
   | cons b L ih =>
     simp only[List.map_cons,List.sum_cons,List.countP_cons] at ih ⊢
     omega
theorem sum_le {α:Type}{f:α→Nat}{c:Nat}:∀ {L:List α},(∀ a∈L,f a≤c)→(L.map f).sum≤L.length*c
 | [],_=>by simp
 | a::L,h=>by
   rw[List.map_cons,List.sum_cons,List.length_cons,Nat.add_mul]
   have:=h a (by simp)
   have:=sum_le (L:=L) fun b hb=>h b (by simp [hb])
   omega
theorem le_sum {α:Type}{f:α→Nat}{c:Nat}:∀ {L:List α},(∀ a∈L,c≤f a)→L.length*c≤(L.map f).sum
 | [],_=>by simp
 | a::L,h=>by
   rw[List.map_cons,List.sum_cons,List.length_cons,Nat.add_mul]
   have:=h a (by simp)
   have:=le_sum (L:=L) fun b hb=>h b (by simp [hb])
   omega
open Classical in
theorem count_one {D:List Φ} (nd:D.Nodup) {x:Φ}:D.countP (fun a=>decide (x=a))≤1:=by
 induction D with
 | nil=>simp
 | cons y D ih =>
   obtain⟨h1,h2⟩:=List.nodup_cons.1 nd
   rw[List.countP_cons]
   by_cases q:x=y
   ·subst q
    have:D.countP (fun a=>decide (x=a))=0:=by
     rw[List.countP_eq_zero]
     intro a ha
     simp only[decide_eq_true_eq]
     rintro rfl
     exact h1 ha
    rw[this]; simp
   ·have:=ih h2
    simp [q]; simpa using this
def cod (S:Φ→Bool):List Φ→Nat
 | []=>0
 | a::D=>2*cod S D+if S a then 1 else 0
theorem cod_lt {S:Φ→Bool}:∀ {D:List Φ},cod S D<2 ^ D.length
 | []=>by simp [cod]
 | a::D=>by
   have:=cod_lt (S:=S) (D:=D)
   rw[cod,List.length_cons,Nat.pow_succ]
   split<;>omega
theorem cod_inj {S S':Φ→Bool}:∀ {D:List Φ},cod S D=cod S' D→∀ a∈D,S a=S' a
 | [],_,a,ha=>by simp at ha
 | b::D,h,a,ha=>by
   rw[cod,cod] at h
   have h1:cod S D=cod S' D∧S b=S' b:=by
    cases hb:S b<;>cases hb':S' b<;>simp [hb,hb'] at h ⊢<;>omega
   rcases List.mem_cons.1 ha with rfl|ha
   ·exact h1.2
   ·exact cod_inj h1.1 a ha
theorem no_dual_of {l r:Nat→Φ} (p:Pln g B) (d:Dual g B l r) {k:Nat}{X:Nat→Nat→Bool} (hX:∀ c,c<2 ^ k→Even g B (X c)) (hi:∀ c c',c<2 ^ k→c'<2 ^ k→(∀ e∈B,X c e=X c' e)→c=c') (hc:∀ e∈B,∃ c,c<2 ^ k∧X c e=true) (hB:B≠[]):3*(k+1)≤2*B.length:=by
 classical
 have hlr:∀ e∈B,l e≠r e:=fun e he q=>by
  obtain⟨c,h1,h2⟩:=hc e he
  obtain⟨S,hS⟩:=d.one _ (hX c h1)
  have:=hS e he
  rw[h2,q] at this
  simp at this
 obtain⟨D,nd,hD⟩:=nodup_ex (B.flatMap fun e=>[l e,r e])
 have hDm:∀ x,x∈D↔∃ e∈B,x=l e∨x=r e:=fun x=>by rw[hD]; simp
 have h3:∀ x∈D,3≤B.countP fun e=>(decide (l e=x) ^^ decide (r e=x)):=fun x hx=>by
  obtain⟨e,he,hxe⟩:=(hDm x).1 hx
  refine even_three p (X:=fun e=>(decide (l e=x) ^^ decide (r e=x))) (d.two fun a=>decide (a=x)) he ?_
  have:=hlr e he
  rcases hxe with rfl|rfl
  ·simp [Ne.symm this]
  ·simp [this]
 have hsum:=le_sum h3
 rw[sum_swap] at hsum
 have hup:=sum_le (L:=B) (f:=fun e=>D.countP fun x=>(decide (l e=x) ^^ decide (r e=x))) (c:=2) fun e he=>by
  have h1:=count_one nd (x:=l e)
  have h2:=count_one nd (x:=r e)
  have:∀ (D:List Φ),D.countP (fun x=>(decide (l e=x) ^^ decide (r e=x)))≤D.countP (fun x=>decide (l e=x))+D.countP fun x=>decide (r e=x):=by
   intro D
   induction D with
   | nil=>simp
   | cons y D ih =>
     rw[List.countP_cons,List.countP_cons,List.countP_cons]
     generalize decide (l e=y)=u
     generalize decide (r e=y)=v
     cases u<;>cases v<;>simp<;>omega
  have:=this D
  omega
 obtain⟨e0,he0⟩:=List.exists_mem_of_ne_nil B hB
 obtain⟨x0,D',hDD⟩:∃ x0 D',D=x0::D':=List.exists_cons_of_ne_nil fun q=>by
  have:=(hDm (l e0)).2 ⟨e0,he0,.inl rfl⟩
  rw[q] at this; simp at this
 have hS:∀ c,∃ S:Φ→Bool,c<2 ^ k→S x0=false∧∀ e∈B,X c e=(S (l e) ^^ S (r e)):=fun c=>by
  by_cases h:c<2 ^ k
  ·obtain⟨S,hS⟩:=d.one _ (hX c h)
   refine⟨fun a=>S a ^^ S x0,fun _=>⟨by simp,fun e he=>?_⟩⟩
   rw[hS e he]
   dsimp only
   cases S (l e)<;>cases S (r e)<;>cases S x0<;>rfl
  ·exact⟨fun _=>false,fun h'=>absurd h' h⟩
 obtain⟨S,hS⟩:∃ S:Nat→Φ→Bool,∀ c,c<2 ^ k→S c x0=false∧∀ e∈B,X c e=(S c (l e) ^^ S c (r e)):=⟨fun c=>Classical.choose (hS c),fun c=>Classical.choose_spec (hS c)⟩
 have ndc:((List.range (2 ^ k)).map fun c=>cod (S c) D').Nodup:=by
  rw[List.Nodup,List.pairwise_map]
  refine List.Pairwise.imp_of_mem ?_ (List.nodup_range (n:=2 ^ k))
  intro a b ha hb hab he
  rw[List.mem_range] at ha hb
  have heq:=cod_inj he
  refine hab (hi a b ha hb fun e he=>?_)
  have hon:∀ x∈D,S a x=S b x:=fun x hx=>by
   rw[hDD] at hx
   rcases List.mem_cons.1 hx with rfl|hx
   ·rw[(hS a ha).1,(hS b hb).1]
   ·exact heq x hx
  rw[(hS a ha).2 e he,(hS b hb).2 e he,hon _ ((hDm _).2 ⟨e,he,.inl rfl⟩),hon _ ((hDm _).2 ⟨e,he,.inr rfl⟩)]
 have hle:=nd_lt ndc (n:=2 ^ D'.length) fun x hx=>by
  obtain⟨c,_,rfl⟩:=List.mem_map.1 hx
  exact cod_lt
 rw[List.length_map,List.length_range] at hle
 have hkd:k≤D'.length:=(Nat.pow_le_pow_iff_right (by omega)).1 hle
 have hDl:D.length=D'.length+1:=by rw[hDD]; rfl
 omega
end Go.Pla
namespace Go.Pla
open Go.Blk
def t5 (e:Nat):Nat:=[0,0,0,0,1,1,1,2,2,3].getD e 0
def h5 (e:Nat):Nat:=[1,2,3,4,2,3,4,3,4,4].getD e 0
def x5 (c e:Nat):Bool:=if 4≤e then c.testBit (e-4) else par [4,5,6,7,8,9] fun k=>c.testBit (k-4)&&((t5 k==e+1) ^^ (h5 k==e+1))
def chk5:Bool:=(List.range 64).all fun c=>(List.range 5).all fun v=>!(par (List.range 10) fun e=>x5 c e&&((t5 e==v) ^^ (h5 e==v)))
def chkI:Bool:=(List.range 64).all fun c=>(List.range 64).all fun d=>(c==d)||!((List.range 10).all fun e=>x5 c e==x5 d e)
def chkC:Bool:=(List.range 10).all fun e=>(List.range 64).any fun c=>x5 c e
def chkL:Bool:=(List.range 10).all fun e=>decide (t5 e<5∧h5 e<5)
set_option maxRecDepth 100000 in
theorem chk5_ok:chk5=true:=by decide +kernel
set_option maxRecDepth 100000 in
theorem chkI_ok:chkI=true:=by decide +kernel
set_option maxRecDepth 100000 in
theorem chkC_ok:chkC=true:=by decide +kernel
theorem chkL_ok:chkL=true:=by decide +kernel
theorem five_no {g:Gr} (p:Pln g (List.range 10)) (ht:∀ e,e<10→g.tl e=t5 e∧g.hd e=h5 e):¬ ∃ (Φ:Type) (l r:Nat→Φ),Dual g (List.range 10) l r:=by
 rintro⟨Φ,l,r,d⟩
 have hat:∀ e,e<10→∀ v,at_ g e v=((t5 e==v) ^^ (h5 e==v)):=fun e he v=>by unfold at_; rw[(ht e he).1,(ht e he).2]
 have:=no_dual_of p d (k:=6) (X:=x5) (fun c hc v=>?_) (fun c c' hc hc' h=>?_) (fun e he=>?_) (by simp)
 ·simp at this
 ·by_cases hv:v<5
  ·have h1:=chk5_ok
   unfold chk5 at h1
   rw[List.all_eq_true] at h1
   have h2:=h1 c (List.mem_range.2 hc)
   rw[List.all_eq_true] at h2
   have h3:=h2 v (List.mem_range.2 hv)
   rw[par_congr (q:=fun e=>x5 c e&&((t5 e==v) ^^ (h5 e==v))) fun e he=>by rw[hat e (List.mem_range.1 he) v]]
   simpa using h3
  ·refine par_no fun e he=>?_
   have h1:=chkL_ok
   unfold chkL at h1
   rw[List.all_eq_true] at h1
   have h2:=h1 e he
   simp only[decide_eq_true_eq] at h2
   rw[hat e (List.mem_range.1 he) v]
   have a:(t5 e==v)=false:=by rw[beq_eq_false_iff_ne]; omega
   have b:(h5 e==v)=false:=by rw[beq_eq_false_iff_ne]; omega
   rw[a,b]; simp
 ·have h1:=chkI_ok
  unfold chkI at h1
  rw[List.all_eq_true] at h1
  have h2:=h1 c (List.mem_range.2 hc)
  rw[List.all_eq_true] at h2
  have h3:=h2 c' (List.mem_range.2 hc')
  have h4:((List.range 10).all fun e=>x5 c e==x5 c' e)=true:=by
   rw[List.all_eq_true]
   intro e he
   rw[h e he]; simp
  rw[h4] at h3
  simpa using h3
 ·have h1:=chkC_ok
  unfold chkC at h1
  rw[List.all_eq_true] at h1
  have h2:=h1 e he
  rw[List.any_eq_true] at h2
  obtain⟨c,hc,hx⟩:=h2
  exact⟨c,List.mem_range.1 hc,hx⟩
def t4 (e:Nat):Nat:=[0,0,0,1,1,2].getD e 0
def h4 (e:Nat):Nat:=[1,2,3,2,3,3].getD e 0
theorem four_yes {g:Gr} (ht:∀ e,e<6→g.tl e=t4 e∧g.hd e=h4 e):∃ (Φ:Type) (l r:Nat→Φ),Dual g (List.range 6) l r:=by
 have hat:∀ e,e<6→∀ v,at_ g e v=((t4 e==v) ^^ (h4 e==v)):=fun e he v=>by unfold at_; rw[(ht e he).1,(ht e he).2]
 have hp:∀ (X:Nat→Bool) (v:Nat),par (List.range 6) (fun e=>X e&&at_ g e v)=((X 0&&((0==v) ^^ (1==v))) ^^ (X 1&&((0==v) ^^ (2==v))) ^^ (X 2&&((0==v) ^^ (3==v))) ^^ (X 3&&((1==v) ^^ (2==v))) ^^ (X 4&&((1==v) ^^ (3==v))) ^^ (X 5&&((2==v) ^^ (3==v)))):=fun X v=>by
  rw[par_congr (q:=fun e=>X e&&((t4 e==v) ^^ (h4 e==v))) fun e he=>by rw[hat e (List.mem_range.1 he) v]]
  have:List.range 6=[0,1,2,3,4,5]:=rfl
  rw[this]
  simp [par,t4,h4]
 refine⟨Nat,fun e=>[0,0,1,0,1,2].getD e 0,fun e=>[1,2,2,3,3,3].getD e 0,fun S v=>?_,fun X hX=>?_⟩
 ·rw[hp]
  have e0:v=0∨v=1∨v=2∨v=3∨4≤v:=by omega
  have f:∀ (a b c d:Bool),True:=fun _ _ _ _=>trivial
  rcases e0 with rfl|rfl|rfl|rfl|h
  ·simp; cases S 0<;>cases S 1<;>cases S 2<;>rfl
  ·simp; cases S 0<;>cases S 1<;>cases S 3<;>rfl
  ·simp; cases S 0<;>cases S 2<;>cases S 3<;>rfl
  ·simp; cases S 1<;>cases S 2<;>cases S 3<;>rfl
  ·have h0:(0==v)=false:=by rw[beq_eq_false_iff_ne]; omega
   have h1:(1==v)=false:=by rw[beq_eq_false_iff_ne]; omega
   have h2:(2==v)=false:=by rw[beq_eq_false_iff_ne]; omega
   have h3:(3==v)=false:=by rw[beq_eq_false_iff_ne]; omega
   simp [h0,h1,h2,h3]
 ·have a0:=hX 0
  have a1:=hX 1
  have a2:=hX 2
  rw[hp] at a0 a1 a2
  simp at a0 a1 a2
  refine⟨fun f=>if f=1 then X 0 else if f=2 then X 1 else if f=3 then X 3 else false,fun e he=>?_⟩
  have he:=List.mem_range.1 he
  have:e=0∨e=1∨e=2∨e=3∨e=4∨e=5:=by omega
  rcases this with rfl|rfl|rfl|rfl|rfl|rfl
  ·simp
  ·simp
  ·revert a0; cases X 0<;>cases X 1<;>cases X 2<;>simp
  ·simp
  ·revert a1; cases X 0<;>cases X 3<;>cases X 4<;>simp
  ·revert a2; cases X 1<;>cases X 3<;>cases X 5<;>simp
end Go.Pla
namespace Go.Proofs.Ytpeemonpdlifbaa
open Go.Am
open Go.Pla (Dual at_ t5 h5 t4 h4)
def rowF (a k:Nat):List (Int×Int):=(List.range k).map fun b=>(((a:Nat):Int),((a+1+b:Nat):Int))
def fullL (n a:Nat):List (Int×Int):=(List.range a).flatMap fun a=>rowF a (n-(a+1))
theorem rowF_succ {a k:Nat}:rowF a (k+1)=rowF a k++[(((a:Nat):Int),((a+1+k:Nat):Int))]:=by
 unfold rowF
 rw[List.range_succ,List.map_append]
 rfl
theorem fullL_succ {n a:Nat}:fullL n (a+1)=fullL n a++rowF a (n-(a+1)):=by
 unfold fullL
 rw[List.range_succ,List.flatMap_append]
 simp
theorem rowF_len {a k:Nat}:(rowF a k).length=k:=by simp [rowF]
theorem fullL_len {n:Nat}:∀ {a:Nat},(fullL n a).length≤a*n
 | 0=>by simp [fullL]
 | a+1=>by
   have:=@fullL_len n a
   rw[fullL_succ,List.length_append,rowF_len,Nat.add_mul]
   omega
theorem eE_len (e:Int×Int):(eE e).length=2:=rfl
theorem cE_len (E:List (Int×Int)):(E.flatMap eE).length=E.length*2:=flat_len eE_len E
set_option maxHeartbeats 1000000 in
theorem full07_ok {h:AH}{n:Nat} (hn:n≤100):C prg 17 [.int .i64 (n:Nat)] h fun v h'=>∃ ev,v=.agg [.int .i64 (n:Nat),ev]∧SlE h' ev (fullL n n)∧Ext h.next h h':=by
 refine C.func pf17 ?_
 refine W.seq (W.run (by simp only[am,evOp,simprocAttr,initTm]<;>rfl) ?_)
 have x0:Ext h.next h (h.new (.cells [.int .i64 0,.nils] 2 false)):=Ext.new (Nat.le_refl _)
 have g0:(h.new (.cells [.int .i64 0,.nils] 2 false)).get h.next=some (.cells [.int .i64 0,.nils] 2 false):=by rw[AH.get_new,if_pos rfl]
 have n0:(h.new (.cells [.int .i64 0,.nils] 2 false)).next=h.next+1:=rfl
 generalize (h.new (.cells [.int .i64 0,.nils] 2 false))=h1 at *
 obtain⟨h2,w2,x2,g2,n2⟩:=mk_loc (h:=h1) (z:=[.int .i64 0,.nils]) (cs:=[.int .i64 (n:Nat),.nils]) (e:=2) rfl
 refine W.seq (W.runs (fun ts h'=>h'=h2∧tget ts 0=.int .i64 (n:Nat)∧tget ts 2=.ptr h.next 0∧tget ts 3=.ptr h1.next 0) (by simp only[am,evOp,simprocAttr,initTm,w2]) ?_)
 rintro ts h2' ⟨rfl,e0,e2,e3⟩
 have g02:h2'.get h.next=some (.cells [.int .i64 0,.nils] 2 false):=by rw[x2.gt _ (by omega)]; exact g0
 have X2:Ext h.next h h2':=x0.trans (x2.mono (by omega))
 rw[n0] at e3 g2 n2
 refine W.seq (W.cut (fun ts h'=>∃ ev,tget ts 2=.ptr h.next 0∧tget ts 3=.ptr (h.next+1) 0∧IsSl h' 2 (h.next+2) ev ((fullL n n).flatMap eE)∧h'.get (h.next+1)=some (.cells [.int .i64 (n:Nat),ev] 2 false)∧h'.get h.next=some (.cells [.int .i64 0,.nils] 2 false)∧Ext h.next h h') ?_ ?_)
 ·refine W.seq (W.run (by simp only[am,evOp,simprocAttr]<;>rfl) ?_)
  refine W.whl (α:=AV) (N:=n) (fun a ev=>[(0,.int .i64 (n:Nat)),(2,.ptr h.next 0),(3,.ptr (h.next+1) 0),(4,.int .i64 (a:Nat))])
   (fun a ev h'=>IsSl h' 2 (h.next+2) ev ((fullL n a).flatMap eE)∧h'.get (h.next+1)=some (.cells [.int .i64 (n:Nat),ev] 2 false)∧h'.get h.next=some (.cells [.int .i64 0,.nils] 2 false)∧Ext h.next h h'∧h.next+2≤h'.next) .nils (by simp only[hl,am,evOp,simprocAttr,e0,e2,e3,Int.natCast_zero]) ⟨.inl ⟨rfl,rfl⟩,g2,g02,X2,by omega⟩ ?_ ?_ ?_
  ·clear e0 e2 e3
   rintro a ev ts h3 ha _ ⟨e0,e2,e3,e4,-⟩
   simp only at e0 e2 e3 e4
   exact⟨_,(by simp only[am,evOp,simprocAttr,e0,e4,Int.ofNat_lt]<;>rfl),by simp only[am,evOp,simprocAttr],by simp only[hl,am,evOp,simprocAttr,e0,e2,e3,e4]⟩
  ·clear e0 e2 e3
   rintro a ev ts h3 ha ⟨i3,g3,r3,X3,n3⟩ ⟨e0,e2,e3,e4,-⟩
   simp only at e0 e2 e3 e4
   have wa:IntKind.i64.wrap (((a:Nat):Int)+1)=((a+1:Nat):Int):=wr64 (by omega) (by omega)
   have fl:=@fullL_len n a
   have fl2:a*n≤100*100:=Nat.mul_le_mul (by omega) hn
   refine W.seq (W.run (by simp only[am,evOp,simprocAttr,e4,wa]<;>rfl) ?_)
   refine W.whl (α:=AV) (N:=n-(a+1)) (fun k ev=>[(0,.int .i64 (n:Nat)),(2,.ptr h.next 0),(3,.ptr (h.next+1) 0),(4,.int .i64 (a:Nat)),(5,.int .i64 (a+1+k:Nat))])
    (fun k ev h'=>IsSl h' 2 (h.next+2) ev ((fullL n a++rowF a k).flatMap eE)∧h'.get (h.next+1)=some (.cells [.int .i64 (n:Nat),ev] 2 false)∧h'.get h.next=some (.cells [.int .i64 0,.nils] 2 false)∧Ext h.next h h'∧h.next+2≤h'.next) ev (by simp only[hl,am,evOp,simprocAttr,e0,e2,e3,e4,Nat.add_zero]) ⟨by simpa [rowF] using i3,g3,r3,X3,n3⟩ ?_ ?_ ?_
   ·clear e0 e2 e3 e4 i3 g3 r3 X3 n3
    rintro k ev ts h4 hk _ ⟨e0,e2,e3,e4,e5,-⟩
    simp only at e0 e2 e3 e4 e5
    have c1:decide (((a+1+k:Nat):Int)<((n:Nat):Int))=decide (k<n-(a+1)):=by rw[decide_eq_decide]; omega
    exact⟨_,(by simp only[am,evOp,simprocAttr,e0,e5,c1]<;>rfl),by simp only[am,evOp,simprocAttr],by simp only[hl,am,evOp,simprocAttr,e0,e2,e3,e4,e5]⟩
   ·clear e0 e2 e3 e4 i3 g3 r3 X3 n3
    rintro k ev ts h4 hk ⟨i4,g4,r4,X4,n4⟩ ⟨e0,e2,e3,e4,e5,-⟩
    simp only at e0 e2 e3 e4 e5
    have wk:IntKind.i64.wrap (((a+1+k:Nat):Int)+1)=((a+1+(k+1):Nat):Int):=wr64 (by omega) (by omega)
    have rg:rdCells h4 (h.next+1) 1 1=some [ev]:=rd_at g4 rfl
    have hlen:((fullL n a++rowF a k).flatMap eE).length / 2≤100*100+100:=by
     rw[cE_len,List.length_append,rowF_len]
     omega
    obtain⟨ev',h5,a5,i5,x5,n5⟩:=i4.push (bytes:=16) [.int .i64 (a:Nat),.int .i64 (a+1+k:Nat)] n4 (by omega) rfl rfl (by unfold tooMany; omega) (by unfold tooMany; omega)
    have g5:h5.get (h.next+1)=some (.cells [.int .i64 (n:Nat),ev] 2 false):=by rw[x5.gt _ (by omega)]; exact g4
    have r5:h5.get h.next=some (.cells [.int .i64 0,.nils] 2 false):=by rw[x5.gt _ (by omega)]; exact r4
    have w5:=wr_at (v:=ev') g5 (i:=1) (by simp)
    have u5:=Upd.put (o:=.cells ([AV.int .i64 (n:Nat),ev].set 1 ev') 2 false) g5
    refine W.run (by simp only[am,evOp,simprocAttr,e3,e4,e5,rg,a5,i5.cells.1,i5.cells.2,w5]<;>rfl) ?_
    generalize h5.put (h.next+1) (.cells ([AV.int .i64 (n:Nat),ev].set 1 ev') 2 false)=h6 at *
    refine⟨ev',⟨?_,u5.get,by rw[u5.ne (by omega)]; exact r5,X4.trans ((x5.mono (by omega)).trans (u5.ext (by omega))),by have:=u5.nx; omega⟩,_,(by simp only[am,evOp,simprocAttr,e5,wk]<;>rfl),by simp only[hl,am,evOp,simprocAttr,e0,e2,e3,e4]⟩
    rw[rowF_succ,← List.append_assoc,List.flatMap_append]
    exact i5.upd u5 (by omega)
   ·clear e0 e2 e3 e4 i3 g3 r3 X3 n3
    rintro ev ts h4 ⟨i4,g4,r4,X4,n4⟩ ⟨e0,e2,e3,e4,e5,-⟩
    simp only at e0 e2 e3 e4
    exact⟨ev,⟨by rw[fullL_succ]; exact i4,g4,r4,X4,n4⟩,_,(by simp only[am,evOp,simprocAttr,e4,wa]<;>rfl),by simp only[hl,am,evOp,simprocAttr,e0,e2,e3]⟩
  ·clear e0 e2 e3
   rintro ev ts h3 ⟨i3,g3,r3,X3,n3⟩ ⟨e0,e2,e3,e4,-⟩
   exact⟨ev,e2,e3,i3,g3,r3,X3⟩
 clear e0 e2 e3
 rintro ts h3 ⟨ev,e2,e3,i3,g3,r3,X3⟩
 have rg:rdCells h3 (h.next+1) 0 2=some [.int .i64 (n:Nat),ev]:=by rw[rdCells_of g3]; rfl
 have w4:wrCells h3 h.next 0 [.int .i64 (n:Nat),ev]=some (h3.put h.next (.cells [.int .i64 (n:Nat),ev] 2 false)):=by rw[wrCells_of r3]; rfl
 have u4:=Upd.put (o:=.cells [.int .i64 (n:Nat),ev] 2 false) r3
 refine W.seq (W.run (by simp only[am,evOp,simprocAttr,e2,e3,rg,w4,i3.cells.2]<;>rfl) ?_)
 generalize h3.put h.next (.cells [.int .i64 (n:Nat),ev] 2 false)=h4 at *
 have r4:rdCells h4 h.next 0 2=some [.int .i64 (n:Nat),ev]:=by rw[rdCells_of u4.get]; rfl
 exact W.ret ⟨.agg [.int .i64 (n:Nat),ev],(by simp only[rs,rf17,am,evOp,simprocAttr,e2,r4]<;>rfl),ev,rfl,IsSl.sl (by omega) eE_len (i3.upd u4 (by omega)),X3.trans (u4.ext (Nat.le_refl _))⟩
theorem plain4:PlainP 4 (fullL 4 4):=⟨by decide,by decide,by decide⟩
theorem not_is5:¬ IsP 5 (fullL 5 5):=fun ⟨hP,h⟩=>by
 have hE:=ing_of hP.1
 have hL:=nl_of hP.1 hP.2.1
 have hl:(fullL 5 5).length=10:=by decide
 have hp:Go.Pla.Pln (grE (5:Int).toNat (fullL 5 5) hE hL) (List.range 10):=by
  have:=pl_whole (hE:=hE) (hL:=hL) hP.2.2
  rwa [hl] at this
 refine Go.Pla.five_no hp (fun e he=>?_) (by have:=h hE hL; rwa [hl] at this)
 have:e=0∨e=1∨e=2∨e=3∨e=4∨e=5∨e=6∨e=7∨e=8∨e=9:=by omega
 rcases this with rfl|rfl|rfl|rfl|rfl|rfl|rfl|rfl|rfl|rfl<;>exact⟨rfl,rfl⟩
theorem is4:IsP 4 (fullL 4 4):=⟨plain4,fun hE hL=>by
 have hl:(fullL 4 4).length=6:=by decide
 rw[hl]
 refine Go.Pla.four_yes (fun e he=>?_)
 have:e=0∨e=1∨e=2∨e=3∨e=4∨e=5:=by omega
 rcases this with rfl|rfl|rfl|rfl|rfl|rfl<;>exact⟨rfl,rfl⟩⟩
theorem speaks07_ok {h:AH}:C prg 6 [] h fun v h'=>v=.bool true∧Ext h.next h h':=by
 refine C.func pf6 ?_
 refine W.seq (W.run (by simp only[am,evOp,simprocAttr,initTm]<;>rfl) ?_)
 refine W.seq (W.reg (G.callq (by simp only[am,evOp,simprocAttr]) (by simp only[am,evOp,simprocAttr]<;>rfl) (full07_ok (n:=5) (by omega)) fun r h1 hq=>?_))
 obtain⟨ev,rfl,s1,x1⟩:=hq
 refine G.callq (by simp only[am,evOp,simprocAttr]) (by simp only[am,evOp,simprocAttr]<;>rfl) (pis_ok (n:=5) s1 (by decide)) fun r h2 hq=>?_
 obtain⟨b,rfl,hb,x2⟩:=hq
 have b0:b=false:=by
  cases b with
  | false=>rfl
  | true=>exact absurd (hb.1 rfl) not_is5
 subst b0
 have n1:=x1.nx
 have n2:=x2.nx
 refine G.gcall 2 (by simp only[am,evOp,simprocAttr]<;>rfl) rfl (by simp only[am,evOp,simprocAttr]) (by simp only[am,evOp,simprocAttr]<;>rfl) (full07_ok (n:=4) (by omega)) fun r h3 hq=>?_
 obtain⟨ev4,rfl,s3,x3⟩:=hq
 have n3:=x3.nx
 refine G.callq (by simp only[am,evOp,simprocAttr]) (by simp only[am,evOp,simprocAttr]<;>rfl) (pis_ok (n:=4) s3 (by decide)) fun r h4 hq=>?_
 obtain⟨b,rfl,hb4,x4⟩:=hq
 obtain rfl:b=true:=hb4.2 is4
 refine G.run (by simp only[am,evOp,simprocAttr]<;>rfl) ?_
 exact W.ret ⟨.bool true,(by simp only[rs,rf6,am,evOp,simprocAttr]<;>rfl),rfl,x1.trans ((x2.mono n1).trans ((x3.mono (by omega)).trans (x4.mono (by omega))))⟩
end Go.Proofs.Ytpeemonpdlifbaa
