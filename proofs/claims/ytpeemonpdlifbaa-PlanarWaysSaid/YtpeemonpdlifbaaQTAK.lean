/-
  Maps with keys of any kind: what each holds, in the order in which they came. planar: the way by which a vertex was reached. A queue of our own: a slice, what stands before it being no longer wanted. The search in breadth: all of it, and how long it takes. Plain words, no program in sight.
-/
import Derived.Test.YtpeemonpdlifbaaQAmR
import Derived.Test.YtpeemonpdlifbaaQTAJ
import Derived.Test.YtpeemonpdlifbaaQTAD
import Derived.Test.YtpeemonpdlifbaaQTAC
import Derived.Test.YtpeemonpdlifbaaQTAE
set_option linter.all false
namespace Go.Proofs.Ytpeemonpdlifbaa
open Go.Am
def upG {α:Type} [DecidableEq α]:List (α×AV)→α→AV→List (α×AV)
 | [],k,v=>[(k,v)]
 | p::r,k,v=>if p.1=k then (k,v)::r else p::upG r k v
def lkG {α:Type} [DecidableEq α]:List (α×AV)→α→Option AV
 | [],_=>none
 | p::r,k=>if p.1=k then some p.2 else lkG r k
def KeyE {α:Type} [DecidableEq α] (e:RE) (κ:α→AV):Prop:=∀ a b,keyEq e (κ a) (κ b)=some (decide (a=b))
theorem keyI:KeyE .ki (fun k:Int=>AV.int .i64 k):=fun a b=>by
 simp only[keyEq,if_true,Option.some.injEq]
 by_cases e:a=b
 ·subst e; simp
 ·rw[decide_eq_false e,beq_eq_false_iff_ne]; exact e
theorem keyP:KeyE (.flat [.i64,.i64]) (fun k:Int×Int=>AV.agg [.int .i64 k.1,.int .i64 k.2]):=fun a b=>by
 obtain⟨a1,a2⟩:=a
 obtain⟨b1,b2⟩:=b
 by_cases e:a1=b1
 ·subst e
  by_cases e:a2=b2
  ·subst e
   simp [keyEq,eqF,flatEq]
  ·have:(a2==b2)=false:=by rw[beq_eq_false_iff_ne]; exact e
   simp [keyEq,eqF,flatEq,this,e]
 ·have:(a1==b1)=false:=by rw[beq_eq_false_iff_ne]; exact e
  simp [keyEq,eqF,flatEq,this,e]
theorem KeyE.ok {α:Type} [DecidableEq α] {e:RE}{κ:α→AV} (hk:KeyE e κ) (a:α):keyOk e (κ a)=true:=by
 unfold keyOk
 rw[hk a a]
 rfl
section
variable {α:Type} [DecidableEq α] {e:RE}{κ:α→AV}
theorem upG_keys:∀ {l:List (α×AV)}{k:α}{v:AV},(upG l k v).map (·.1)=if k∈l.map (·.1) then l.map (·.1) else l.map (·.1)++[k]
 | [],k,v=>by simp [upG]
 | p::r,k,v=>by
   unfold upG
   by_cases q:p.1=k
   ·rw[if_pos q,List.map_cons,List.map_cons,if_pos (by simp [q]),q]
   ·rw[if_neg q,List.map_cons,upG_keys,List.map_cons]
    by_cases m:k∈r.map (·.1)
    ·rw[if_pos m,if_pos (List.mem_cons_of_mem _ m)]
    ·rw[if_neg m,if_neg (by rw[List.mem_cons]; rintro (h|h); exact q h.symm; exact m h)]
     rfl
theorem upG_nodup {l:List (α×AV)}{k:α}{v:AV} (h:(l.map (·.1)).Nodup):((upG l k v).map (·.1)).Nodup:=by
 rw[upG_keys]
 split
 ·exact h
 ·rename_i hk
  rw[List.nodup_append]
  refine⟨h,by simp,fun a ha b hb=>?_⟩
  rw[List.mem_singleton] at hb
  subst hb
  rintro rfl
  exact hk ha
theorem lkG_up:∀ {l:List (α×AV)}{k k':α}{v:AV},lkG (upG l k v) k'=if k'=k then some v else lkG l k'
 | [],k,k',v=>by
   simp only[upG,lkG]
   by_cases q:k=k'
   ·rw[if_pos q,if_pos q.symm]
   ·rw[if_neg q,if_neg fun e=>q e.symm]
 | p::r,k,k',v=>by
   unfold upG
   by_cases q:p.1=k
   ·rw[if_pos q]
    simp only[lkG]
    by_cases m:k'=k
    ·rw[if_pos m,if_pos m.symm]
    ·rw[if_neg m,if_neg (fun e=>m e.symm),if_neg (fun e=>m (e.symm.trans q))]
   ·rw[if_neg q]
    simp only[lkG]
    rw[lkG_up]
    by_cases m:p.1=k'
    ·rw[if_pos m,if_pos m,if_neg (fun e=>q (m.trans e))]
    ·rw[if_neg m,if_neg m]
theorem lkG_none {l:List (α×AV)}{k:α}:lkG l k=none↔k∉l.map (·.1):=by
 induction l with
 | nil=>simp [lkG]
 | cons p r ih =>
   simp only[lkG,List.map_cons,List.mem_cons]
   by_cases q:p.1=k
   ·rw[if_pos q]
    simp [q.symm]
   ·rw[if_neg q,ih]
    constructor
    ·rintro h (e|e)
     ·exact q e.symm
     ·exact h e
    ·exact fun h e=>h (.inr e)
theorem lkG_mem:∀ {l:List (α×AV)},(l.map (·.1)).Nodup→∀ p∈l,lkG l p.1=some p.2
 | q::r,hn,p,hp=>by
   rw[List.map_cons] at hn
   obtain⟨h1,h2⟩:=List.nodup_cons.1 hn
   simp only[lkG]
   rcases List.mem_cons.1 hp with rfl|hp
   ·rw[if_pos rfl]
   ·rw[if_neg fun e=>h1 (by rw[e]; exact List.mem_map_of_mem hp)]
    exact lkG_mem h2 p hp
theorem mem_lkG:∀ {l:List (α×AV)}{k:α}{v:AV},lkG l k=some v→(k,v)∈l
 | p::r,k,v,h=>by
   simp only[lkG] at h
   split at h
   ·rename_i q
    cases h
    subst q
    exact List.mem_cons_self ..
   ·exact List.mem_cons_of_mem _ (mem_lkG h)
def EntG (κ:α→AV) (es:List (AV×AV×Nat)) (l:List (α×AV)):Prop:=es.map (fun x=>(x.1,x.2.1))=l.map fun p=>(κ p.1,p.2)
theorem EntG.len {es:List (AV×AV×Nat)}{l:List (α×AV)} (h:EntG κ es l):es.length=l.length:=by
 have:=congrArg List.length h
 simpa using this
theorem kfindG (hk:KeyE e κ):∀ {es:List (AV×AV×Nat)}{l:List (α×AV)},EntG κ es l→∀ k:α,(lkG l k=none∧kfind e (κ k) es=some none∧∀ v,upG l k v=l++[(k,v)]) ∨
 ∃ i v n,kfind e (κ k) es=some (some (i,v,n))∧es[i]?=some (κ k,v,n)∧lkG l k=some v∧∀ u,upG l k u=l.set i (k,u)
 | [],l,h,k=>by
   have:l=[]:=by
    have:=congrArg List.length h
    simp at this
    exact List.length_eq_zero_iff.1 this.symm
   subst this
   exact .inl ⟨rfl,rfl,fun _=>rfl⟩
 | x::r,[],h,k=>by simp [EntG] at h
 | (a,b,n)::r,p::l,h,k=>by
   have h':=h
   simp only[EntG,List.map_cons,List.cons.injEq,Prod.mk.injEq] at h'
   obtain⟨⟨rfl,rfl⟩,h2⟩:=h'
   have hq:=hk k p.1
   by_cases q:p.1=k
   ·rw[decide_eq_true q.symm] at hq
    refine .inr ⟨0,p.2,n,?_,by rw[q]; rfl,?_,fun u=>?_⟩
    ·simp only[kfind,hq]
    ·simp only[lkG,if_pos q]
    ·simp only[upG,if_pos q,List.set_cons_zero]
   ·rw[decide_eq_false (fun e=>q e.symm)] at hq
    rcases kfindG hk (es:=r) (l:=l) h2 k with ⟨h3,h4,h5⟩|⟨i,v,m,h3,h4,h5,h6⟩
    ·refine .inl ⟨?_,?_,fun v=>?_⟩
     ·simp only[lkG,if_neg q,h3]
     ·simp only[kfind,hq,h4]
      rfl
     ·simp only[upG,if_neg q,h5]
      rfl
    ·refine .inr ⟨i+1,v,m,?_,h4,?_,fun u=>?_⟩
     ·simp only[kfind,hq,h3]
      rfl
     ·simp only[lkG,if_neg q,h5]
     ·simp only[upG,if_neg q,h6,List.set_cons_succ]
structure EsG (κ:α→AV) (es:List (AV×AV×Nat)) (c:Nat) (l:List (α×AV)):Prop where
 ent:EntG κ es l
 nod:(l.map (·.1)).Nodup
 st1:(es.map (·.2.2)).Pairwise (·<·)
 st2:∀ x∈es,x.2.2<c
def MapG (κ:α→AV) (h:AH) (mb:Nat) (l:List (α×AV)):Prop:=∃ es c,h.get mb=some (.mapo es c)∧EsG κ es c l
theorem MapG.nil {h:AH}{mb c:Nat} (hg:h.get mb=some (.mapo [] c)):MapG κ h mb []:=⟨[],c,hg,rfl,.nil,.nil,fun x hx=>by cases hx⟩
theorem MapG.cong {h h':AH}{mb:Nat}{l:List (α×AV)} (m:MapG κ h mb l) (hg:h'.get mb=h.get mb):MapG κ h' mb l:=by
 obtain⟨es,c,h1,h2⟩:=m
 exact⟨es,c,by rw[hg]; exact h1,h2⟩
theorem MapG.lt {h:AH}{mb:Nat}{l:List (α×AV)} (m:MapG κ h mb l):mb<h.next:=by
 obtain⟨es,c,h1,_⟩:=m
 exact AH.lt_of_get h1
theorem MapG.len {h:AH}{mb:Nat}{l:List (α×AV)} (m:MapG κ h mb l):lenMA h (.mp mb)=some (.int .i64 (l.length:Nat)):=by
 obtain⟨es,c,h1,h2⟩:=m
 have:=h2.ent.len
 simp only[lenMA,h1,this]
theorem MapG.nod {h:AH}{mb:Nat}{l:List (α×AV)} (m:MapG κ h mb l):(l.map (·.1)).Nodup:=by
 obtain⟨es,c,h1,h2⟩:=m
 exact h2.nod
theorem MapG.look (hk:KeyE e κ) {h:AH}{mb:Nat}{l:List (α×AV)} (m:MapG κ h mb l) (z:AV) (k:α):mlkA h e false z (.mp mb) (κ k)=some ((lkG l k).getD z):=by
 obtain⟨es,c,h1,h2⟩:=m
 rcases kfindG hk h2.ent k with ⟨q1,q2,_⟩|⟨i,v,n,q1,q2,q3,_⟩
 ·simp only[mlkA,h1,hk.ok,q2,if_true,q1]; rfl
 ·simp only[mlkA,h1,hk.ok,q1,if_true,q3]; rfl
theorem MapG.look2 (hk:KeyE e κ) {h:AH}{mb:Nat}{l:List (α×AV)} (m:MapG κ h mb l) (z:AV) (k:α):mlkA h e true z (.mp mb) (κ k)=some (.tup [(lkG l k).getD z,.bool (lkG l k).isSome]):=by
 obtain⟨es,c,h1,h2⟩:=m
 rcases kfindG hk h2.ent k with ⟨q1,q2,_⟩|⟨i,v,n,q1,q2,q3,_⟩
 ·simp only[mlkA,h1,hk.ok,q2,if_true,q1]; rfl
 ·simp only[mlkA,h1,hk.ok,q1,if_true,q3]; rfl
theorem EsG.set {es:List (AV×AV×Nat)}{c i n:Nat}{l:List (α×AV)}{k:α}{v u:AV} (h:EsG κ es c l) (hi:es[i]?=some (κ k,v,n)) (hu:upG l k u=l.set i (k,u)):EsG κ (es.set i (κ k,u,n)) c (upG l k u):=by
 refine⟨?_,upG_nodup h.nod,?_,fun x hx=>?_⟩
 ·unfold EntG
  rw[hu,List.map_set,List.map_set,h.ent]
 ·have:(es.set i (κ k,u,n)).map (·.2.2)=es.map (·.2.2):=by
   rw[List.map_set]
   refine List.ext_getElem? fun j=>?_
   rw[List.getElem?_set]
   split
   ·rename_i e
    subst e
    have hl:=(List.getElem?_eq_some_iff.1 hi).1
    rw[List.getElem?_map,hi,List.length_map,if_pos hl]
    rfl
   ·rfl
  rw[this]
  exact h.st1
 ·rcases List.mem_or_eq_of_mem_set hx with hx|rfl
  ·exact h.st2 x hx
  ·have:=h.st2 _ (List.mem_of_getElem? hi)
   exact this
theorem EsG.add {es:List (AV×AV×Nat)}{c:Nat}{l:List (α×AV)}{k:α}{v:AV} (h:EsG κ es c l) (hu:upG l k v=l++[(k,v)]):EsG κ (es++[(κ k,v,c)]) (c+1) (upG l k v):=by
 refine⟨?_,upG_nodup h.nod,?_,fun x hx=>?_⟩
 ·unfold EntG
  rw[hu,List.map_append,List.map_append,h.ent]
  rfl
 ·rw[List.map_append,List.pairwise_append]
  refine⟨h.st1,by simp,fun a ha b hb=>?_⟩
  simp only[List.map_cons,List.map_nil,List.mem_singleton] at hb
  subst hb
  obtain⟨x,hx,rfl⟩:=List.mem_map.1 ha
  exact h.st2 x hx
 ·rcases List.mem_append.1 hx with hx|hx
  ·have:=h.st2 x hx; omega
  ·rw[List.mem_singleton] at hx
   subst hx
   show c<c+1
   omega
theorem MapG.up (hk:KeyE e κ) {h:AH}{mb:Nat}{l:List (α×AV)} (m:MapG κ h mb l) (k:α) (v:AV):∃ h',mupA h e (.mp mb) (κ k) v=some (.un,h')∧MapG κ h' mb (upG l k v)∧∃ o,Upd h h' mb o:=by
 obtain⟨es,c,h1,h2⟩:=m
 rcases kfindG hk h2.ent k with ⟨q1,q2,q3⟩|⟨i,w,n,q1,q2,q3,q4⟩
 ·have u:=Upd.put (o:=.mapo (es++[(κ k,v,c)]) (c+1)) h1
  exact⟨_,by simp only[mupA,h1,hk.ok,q2,if_true],⟨_,_,u.get,h2.add (q3 v)⟩,_,u⟩
 ·have u:=Upd.put (o:=.mapo (es.set i (κ k,v,n)) c) h1
  exact⟨_,by simp only[mupA,h1,hk.ok,q1,if_true],⟨_,_,u.get,h2.set q2 (q4 v)⟩,_,u⟩
theorem sfindG:∀ {es:List (AV×AV×Nat)}{i n:Nat}{k v:AV},(es.map (·.2.2)).Pairwise (·<·)→es[i]?=some (k,v,n)→sfind ((n:Nat):Int) es=some (i,k,n)
 | (a,b,m)::r,0,n,k,v,hp,hi=>by
   simp only[List.getElem?_cons_zero,Option.some.injEq,Prod.mk.injEq] at hi
   obtain⟨rfl,rfl,rfl⟩:=hi
   simp only[sfind,if_true]
 | (a,b,m)::r,i+1,n,k,v,hp,hi=>by
   rw[List.getElem?_cons_succ] at hi
   rw[List.map_cons,List.pairwise_cons] at hp
   have:=hp.1 n (List.mem_map.2 ⟨_,List.mem_of_getElem? hi,rfl⟩)
   have hne:¬ ((m:Nat):Int)=((n:Nat):Int):=by have this:m<n:=this; omega
   simp only[sfind,if_neg hne,sfindG hp.2 hi,Option.map_some]
theorem MapG.men (hk:KeyE e κ) {h:AH}{mb:Nat}{l:List (α×AV)} (m:MapG κ h mb l) (z:AV) (k:α):∃ h1 n,menA h e z (.mp mb) (κ k)=some (.tup [(lkG l k).getD z,.int .i64 ((n:Nat):Int)],h1)∧(∃ o,Upd h h1 mb o)∧mlkA h1 e false z (.mp mb) (κ k)=some ((lkG l k).getD z) ∧
 ∀ v,∃ h2,mstA h1 (.mp mb) (.int .i64 ((n:Nat):Int)) v=some (.un,h2)∧MapG κ h2 mb (upG l k v)∧∃ o,Upd h1 h2 mb o:=by
 obtain⟨es,c,h1,h2⟩:=m
 rcases kfindG hk h2.ent k with ⟨q1,q2,q3⟩|⟨i,w,n,q1,q2,q3,q4⟩
 ·have u:=Upd.put (o:=.mapo (es++[(κ k,z,c)]) (c+1)) h1
  have E:=h2.add (q3 z)
  have m2:MapG κ (h.put mb (.mapo (es++[(κ k,z,c)]) (c+1))) mb (upG l k z):=⟨_,_,u.get,E⟩
  refine⟨_,c,by simp only[menA,h1,hk.ok,q2,if_true,q1]; rfl,⟨_,u⟩,by rw[m2.look hk,lkG_up,if_pos rfl,q1]; rfl,fun v=>?_⟩
  have hi:(es++[(κ k,z,c)])[es.length]?=some (κ k,z,c):=by rw[List.getElem?_append_right (Nat.le_refl _),Nat.sub_self]; rfl
  have u2:=Upd.put (o:=.mapo ((es++[(κ k,z,c)]).set es.length (κ k,v,c)) (c+1)) u.get
  refine⟨_,by simp only[mstA,u.get,sfindG E.st1 hi],⟨_,_,u2.get,?_⟩,_,u2⟩
  have hs:=h2.add (q3 v)
  have:(es++[(κ k,z,c)]).set es.length (κ k,v,c)=es++[(κ k,v,c)]:=by
   rw[List.set_append_right _ _ (Nat.le_refl _),Nat.sub_self]
   rfl
  rw[this]
  exact hs
 ·have u:=Upd.put (o:=.mapo (es.set i (κ k,w,n)) c) h1
  have E:=h2.set q2 (q4 w)
  have m2:MapG κ (h.put mb (.mapo (es.set i (κ k,w,n)) c)) mb (upG l k w):=⟨_,_,u.get,E⟩
  refine⟨_,n,by simp only[menA,h1,hk.ok,q1,if_true,q3,Option.getD_some],⟨_,u⟩,by rw[m2.look hk,lkG_up,if_pos rfl,q3],fun v=>?_⟩
  have hl:=(List.getElem?_eq_some_iff.1 q2).1
  have hi:(es.set i (κ k,w,n))[i]?=some (κ k,w,n):=List.getElem?_set_self hl
  have u2:=Upd.put (o:=.mapo ((es.set i (κ k,w,n)).set i (κ k,v,n)) c) u.get
  refine⟨_,by simp only[mstA,u.get,sfindG E.st1 hi],⟨_,_,u2.get,?_⟩,_,u2⟩
  rw[List.set_set]
  exact h2.set q2 (q4 v)
end
end Go.Proofs.Ytpeemonpdlifbaa
namespace Go.Proofs.Ytpeemonpdlifbaa
open Go.Am
open Go.Pla (Met ks tr tr_app tr_root tr_last)
theorem rev_own {h:AH}{v:AV}{xs:List Nat}{lo:Nat} (hv:IsSl h 1 lo v (nC xs)) (hl:xs.length<2 ^ 40):C prg 57 [v] h fun _ h'=>IsSl h' 1 lo v (nC xs.reverse)∧Ext lo h h'∧h'.next=h.next∧∀ c,c<h.next→(∀ b n,v=.sl b 0 n n→c≠b)→h'.get c=h.get c:=by
 have hi:∀ ys:List Nat,ints (ys.map fun n=>((n:Nat):Int)).toArray=nC ys:=fun ys=>by rw[nC,flat_cI]; rfl
 have bi:∀ {d e:Array Int},d.size=e.size→blkI (ints d) 0 e=.cells (ints e) 1 false:=fun {d e} he=>by
  unfold blkI splice
  have:(ints d).drop (0+(ints e).length)=[]:=by rw[List.drop_eq_nil_iff,ints_len,ints_len]; omega
  rw[this,List.take_zero]
  simp
 rcases hv with ⟨rfl,hz⟩|⟨b,n,h1,rfl,h3,h4⟩
 ·have hx:xs=[]:=by
   have:=congrArg List.length hz
   rw[nC_len] at this
   exact List.length_eq_zero_iff.1 (by simpa using this)
  subst hx
  refine (reverse_nil (h:=h)).mono fun _ h' e=>?_
  subst e
  exact⟨.inl ⟨rfl,rfl⟩,Ext.refl,rfl,fun _ _ _=>rfl⟩
 ·rw[nC_len] at h4
  generalize hd:(xs.map fun n=>((n:Nat):Int)).toArray=d
  have hs:d.size=xs.length:=by rw[← hd]; simp
  have hn:n=d.size:=by omega
  subst hn
  rw[← hi xs,hd,← bi (d:=d) (e:=d) rfl] at h3
  refine (reverse_ok (c:=d.size) h3 (by rw[ints_len]; omega) (by omega)).mono fun _ h' u=>⟨.inr ⟨b,d.size,h1,rfl,?_,?_⟩,u.ext h1,u.nx,fun c _ hc=>u.ne (hc b _ rfl)⟩
  ·have hr:nC xs.reverse=ints d.reverse:=by rw[← hi,← hd]; simp
   rw[hr,← bi (d:=d) (e:=d.reverse) (by simp)]
   exact u.get
  ·rw[nC_len]; simp; omega
def Lm (L:List (Nat×Nat)):List (Int×AV):=L.map fun p=>(((p.1:Nat):Int),AV.int .i64 ((p.2:Nat):Int))
abbrev MapL2 (h:AH) (mb:Nat) (L:List (Nat×Nat)):Prop:=MapG (fun k:Int=>AV.int .i64 k) h mb (Lm L)
theorem lm_lk:∀ {L:List (Nat×Nat)}{k:Int},lkG (Lm L) k=none∨∃ y x A C,k=((y:Nat):Int)∧lkG (Lm L) k=some (.int .i64 ((x:Nat):Int))∧L=A++(y,x)::C
 | [],k=>.inl rfl
 | (y,x)::L,k=>by
   by_cases h:((y:Nat):Int)=k
   ·refine .inr ⟨y,x,[],L,h.symm,?_,rfl⟩
    simp only[Lm,List.map_cons,lkG,if_pos h]
   ·have e:lkG (Lm ((y,x)::L)) k=lkG (Lm L) k:=by simp only[Lm,List.map_cons,lkG,if_neg h]
    rcases lm_lk (L:=L) (k:=k) with h1|⟨y',x',A,C,h1,h2,h3⟩
    ·exact .inl (e.trans h1)
    ·exact .inr ⟨y',x',(y,x)::A,C,h1,e.trans h2,by rw[h3]; rfl⟩
theorem lm_none {L:List (Nat×Nat)}{k:Nat}:lkG (Lm L) ((k:Nat):Int)=none↔k∉ks L:=by
 rw[lkG_none]
 simp only[Lm,ks,List.map_map,List.mem_map,not_exists,not_and]
 constructor
 ·intro h p hp e; exact h p hp (by have e':p.1=k:=e; show ((p.1:Nat):Int)=_; rw[e'])
 ·intro h p hp e; exact h p hp (by have e':((p.1:Nat):Int)=((k:Nat):Int):=e; omega)
section
variable {g:Go.Blk.Gr}{Bl:List Nat}{laid thr:Nat→Bool}
theorem met_up {r:Nat}{L:List (Nat×Nat)} (m:Met g Bl laid thr r L) (hB:∀ i∈Bl,i<g.m) {x:Nat} (hx:x∈ks L):(x=r∧lkG (Lm L) ((x:Nat):Int)=some (.int .i64 ((x:Nat):Int)))∨∃ z,z≠x∧z∈ks L∧lkG (Lm L) ((x:Nat):Int)=some (.int .i64 ((z:Nat):Int))∧tr L x=tr L z++[x]:=by
 rcases lm_lk (L:=L) (k:=((x:Nat):Int)) with h|⟨y,z,A,C,h1,h2,h3⟩
 ·exact absurd hx (lm_none.1 h)
 have hy:x=y:=by omega
 subst hy
 by_cases hA:A=[]
 ·subst hA
  obtain⟨T,hT⟩:=m.root
  rw[hT] at h3
  simp only[List.nil_append] at h3
  injection h3 with h4 _
  injection h4 with h4 h5
  subst h4 h5
  exact .inl ⟨rfl,h2⟩
 ·obtain⟨p1,p2,i,hi,hj,_⟩:=m.par A x z C h3 hA
  have hne:z≠x:=by
   intro e; subst e
   have:=(g.ok i (hB i hi)).2.2
   rcases Go.Pla.jn_iff.1 hj with ⟨a,b⟩|⟨a,b⟩<;>omega
  have nd:=m.nd
  refine .inr ⟨z,hne,by rw[h3,Go.Pla.ks_app]; exact List.mem_append_left _ p1,h2,?_⟩
  have e1:L=(A++[(x,z)])++C:=by rw[h3]; simp
  rw[e1] at nd ⊢
  rw[tr_app nd (by simp [ks]),tr_last hA]
  rw[List.append_assoc] at nd ⊢
  rw[tr_app nd p1]
theorem ptrail_ok {h:AH}{mb r y:Nat}{L:List (Nat×Nat)} (hm:MapL2 h mb L) (m:Met g Bl laid thr r L) (hB:∀ i∈Bl,i<g.m) (hy:y∈ks L) (hL:L.length<2 ^ 30):C prg 75 [.mp mb,.int .i64 (y:Nat)] h fun v h'=>IsSl h' 1 h.next v (nC (tr L y))∧Ext h.next h h':=by
 refine C.func pf75 ?_
 have hml:=hm.lt
 have x0:Ext h.next h (h.new (.cells [.int .i64 (y:Nat)] 1 false)):=Ext.new (Nat.le_refl _)
 have g0:(h.new (.cells [.int .i64 (y:Nat)] 1 false)).get h.next=some (.cells [.int .i64 (y:Nat)] 1 false):=by rw[AH.get_new,if_pos rfl]
 refine W.seq (W.run (by simp only[am,evOp,simprocAttr,initTm]<;>rfl) ?_)
 refine W.seq (W.runs (fun ts h1=>h1=h.new (.cells [.int .i64 (y:Nat)] 1 false)∧tget ts 0=.mp mb∧tget ts 1=.int .i64 (y:Nat)∧tget ts 5=.sl h.next 0 1 1) (by simp only[am,evOp,simprocAttr,initTm]) ?_)
 rintro ts h1 ⟨rfl,e0,e1,e5⟩
 generalize h.new (.cells [.int .i64 (y:Nat)] 1 false)=h1 at *
 refine W.seq (W.block (W.loop (fun n ts h2=>∃ (x:Nat) (zs:List Nat) (v:AV),n=(tr L x).length∧x∈ks L∧tr L y=tr L x++zs.reverse∧IsSl h2 1 h.next v (nC (zs++[x]))∧Ext h.next h h2∧tget ts 0=.mp mb∧tget ts 1=.int .i64 (x:Nat)∧tget ts 5=v) ?_ (n:=(tr L y).length) ⟨y,[],_,rfl,hy,by simp,.inr ⟨h.next,1,Nat.le_refl _,rfl,g0,rfl⟩,x0,e0,e1,e5⟩))
 clear e0 e1 e5 g0 x0
 rintro n ts h2 ⟨x,zs,v,hn,hx,ht,hv,x2,e0,e1,e5⟩
 have hm2:MapL2 h2 mb L:=hm.cong (x2.gt _ hml)
 have lk:=hm2.look keyI (.int .i64 0) ((x:Nat):Int)
 have hzl:zs.length+(tr L x).length≤L.length:=by
  have h1:=congrArg List.length ht
  rw[List.length_append,List.length_reverse] at h1
  have h2:=Go.Pla.tr_len L y
  omega
 rcases met_up m hB hx with ⟨hr,hl⟩|⟨z,hzx,hz,hl,htz⟩
 ·
  rw[hl] at lk
  dsimp only[Option.getD] at lk
  refine W.seq (W.seq (W.run (by simp only[am,evOp,simprocAttr,e0,e1,lk,decide_true,Bool.not_true]<;>rfl) ?_))
  refine W.no (by simp only[am,evOp,simprocAttr,decide_true,Bool.not_true]) ?_
  refine W.exit ⟨fun _=>?_,fun e=>absurd rfl e⟩
  have hend:tr L y=(zs++[x]).reverse:=by rw[ht,hr,tr_root m]; simp
  refine W.seq (W.reg (G.gcall 1 (by simp only[am,evOp,simprocAttr,e0,e5]<;>rfl) rfl (by simp only[am,evOp,simprocAttr,e0,e5]) (by simp only[am,evOp,simprocAttr,e0,e5]<;>rfl) (rev_own hv (by rw[List.length_append]; simp; omega)) fun _ h3 hq=>?_))
  obtain⟨i3,x3,_,_⟩:=hq
  refine G.run (by simp only[am,evOp,simprocAttr]<;>rfl) ?_
  refine W.seq (W.run (by simp only[am,evOp,simprocAttr,e5]<;>rfl) ?_)
  exact W.ret ⟨v,(by simp only[rs,rf75,am,evOp,simprocAttr,e5]<;>rfl),by rw[hend]; exact i3,x2.trans x3⟩
 ·rw[hl] at lk
  dsimp only[Option.getD] at lk
  have dz:decide (((z:Nat):Int)=((x:Nat):Int))=false:=by rw[decide_eq_false_iff_not]; omega
  refine W.seq (W.seq (W.run (by simp only[am,evOp,simprocAttr,e0,e1,lk,dz,Bool.not_false]<;>rfl) ?_))
  refine W.yes (by simp only[am,evOp,simprocAttr,dz,Bool.not_false]) (W.skip (W.block ?_))
  refine W.seq (W.runs (fun ts h'=>h'=h2∧tget ts 0=.mp mb∧tget ts 1=.int .i64 (z:Nat)∧tget ts 5=v) (by simp only[am,evOp,simprocAttr,e0,e1,e5,lk]) ?_)
  rintro ts h3 ⟨rfl,e0,e1,e5⟩
  have hnl:(nC (zs++[x])).length=zs.length+1:=by rw[nC_len,List.length_append]; rfl
  obtain⟨v',h4,a4,i4,x4,n4⟩:=hv.push (bytes:=8) [.int .i64 (z:Nat)] x2.nx (by omega) rfl rfl (by rw[hnl,Nat.div_one]; unfold tooMany; omega) (by rw[hnl,Nat.div_one]; unfold tooMany; omega)
  refine W.runs (fun ts h'=>h'=h4∧tget ts 0=.mp mb∧tget ts 1=.int .i64 (z:Nat)∧tget ts 5=v') (by simp only[am,evOp,simprocAttr,e0,e1,e5,a4]) ?_
  rintro ts h5 ⟨rfl,e0,e1,e5⟩
  refine⟨(tr L z).length,?_,z,zs++[x],v',rfl,hz,?_,?_,x2.trans x4,e0,e1,e5⟩
  ·rw[hn,htz]; simp
  ·rw[ht,htz]; simp
  ·rw[nC_app]; exact i4
end
end Go.Proofs.Ytpeemonpdlifbaa
namespace Go.Proofs.Ytpeemonpdlifbaa
open Go.Am
def IsQ (h:AH) (lo:Nat) (v:AV) (xs:List Nat):Prop:=SlN h v xs∧∃ b o cs,v=.sl b o xs.length xs.length∧lo≤b∧h.get b=some (.cells cs 1 false)
theorem IsQ.ext {h h':AH}{lo k:Nat}{v:AV}{xs:List Nat} (q:IsQ h lo v xs) (x:Ext k h h') (hk:h.next≤k):IsQ h' lo v xs:=by
 obtain⟨h0,b,o,cs,h1,h2,h3⟩:=q
 exact⟨h0.ext x hk,b,o,cs,h1,h2,by rw[x.gt _ (Nat.lt_of_lt_of_le (AH.lt_of_get h3) hk)]; exact h3⟩
theorem IsQ.cong {h h':AH}{lo:Nat}{v:AV}{xs:List Nat} (q:IsQ h lo v xs) (hk:∀ c,lo≤c→c<h.next→h'.get c=h.get c):IsQ h' lo v xs:=by
 obtain⟨h0,b,o,cs,h1,h2,h3⟩:=q
 exact⟨h0.cong fun b' o' n' c' e=>by rw[h1] at e; cases e; exact hk _ h2 (AH.lt_of_get h3),b,o,cs,h1,h2,by rw[hk _ h2 (AH.lt_of_get h3)]; exact h3⟩
theorem IsQ.one {h:AH}{lo b x:Nat} (hb:lo≤b) (hg:h.get b=some (.cells [.int .i64 (x:Nat)] 1 false)):IsQ h lo (.sl b 0 1 1) [x] :=
 ⟨Sl.row hg rfl (Nat.le_refl _),b,0,_,rfl,hb,hg⟩
theorem IsQ.len {h:AH}{lo:Nat}{v:AV}{xs:List Nat} (q:IsQ h lo v xs):lenLA v=some (.int .i64 (xs.length:Nat)):=by
 obtain⟨_,b,o,cs,rfl,_⟩:=q; rfl
theorem IsQ.head {h:AH}{lo:Nat}{v:AV}{x:Nat}{xs:List Nat} (q:IsQ h lo v (x::xs)):∃ b o,iadrL 1 v (.int .i64 0)=some (.ptr b o)∧rdCells h b o 1=some [.int .i64 (x:Nat)]:=by
 obtain⟨b,o,h1,h2,_⟩:=q.1.at1 (i:=0) (y:=.int .i64 (x:Nat)) rfl
 exact⟨b,o,h1,h2⟩
theorem IsQ.tail {h:AH}{lo:Nat}{v:AV}{x:Nat}{xs:List Nat} (q:IsQ h lo v (x::xs)):∃ v',slV h 1 v (some (.int .i64 1)) none none=some v'∧IsQ h lo v' xs:=by
 obtain⟨h0,b,o,cs,h1,h2,h3⟩:=q
 obtain⟨v',e1,e2,_,_⟩:=h0.from (lo:=1) (by simp)
 refine⟨v',e1,(by
  rw[List.map_cons,List.map_cons,List.drop_one,List.tail_cons] at e2; exact e2),b,if xs.length=0 then o else o+1,cs,?_,h2,h3⟩
 have hb1:bnd (.int .i64 ((1:Nat):Int)) (xs.length+1)=some 1:=bnd_nat (by omega)
 subst h1
 simp only[slV,h3,if_true,bnds,List.length_cons,Option.isSome_none,Bool.false_eq_true,if_false,hb1,Option.map_some,Option.some.injEq] at e1
 rw[← e1]
 congr 1
 by_cases hz:xs.length=0
 ·rw[if_pos (by omega),if_pos hz]
 ·rw[if_neg (by omega),if_neg hz,Nat.mul_one]
theorem IsQ.push {h:AH}{lo:Nat}{v:AV}{xs:List Nat} (q:IsQ h lo v xs) (hlo:lo≤h.next) (hl:xs.length<2 ^ 34) (x:Nat) :
 ∃ v' h',appA (h.new (.cells [.int .i64 (x:Nat)] 1 false)) 1 8 v (.sl h.next 0 1 1)=some (v',h')∧IsQ h' lo v' (xs++[x])∧Ext lo h h'∧h.next≤h'.next∧(∀ c,c<h.next→(∀ b o n m,v=.sl b o n m→c≠b)→h'.get c=h.get c)∧∀ b o n m,v'=.sl b o n m→h.next≤b:=by
 obtain⟨h0,b,o,cs,rfl,h2,h3⟩:=q
 have hb:=AH.lt_of_get h3
 have x0:Ext h.next h (h.new (.cells [.int .i64 (x:Nat)] 1 false)):=Ext.new (Nat.le_refl _)
 have g0:(h.new (.cells [.int .i64 (x:Nat)] 1 false)).get h.next=some (.cells [.int .i64 (x:Nat)] 1 false):=by rw[AH.get_new,if_pos rfl]
 have n0:(h.new (.cells [.int .i64 (x:Nat)] 1 false)).next=h.next+1:=rfl
 have gb:(h.new (.cells [.int .i64 (x:Nat)] 1 false)).get b=some (.cells cs 1 false):=by rw[x0.gt _ hb]; exact h3
 have s0:=(h0.ext x0 (Nat.le_refl _)).src
 have s1:=(Sl.row (h:=h.new (.cells [.int .i64 (x:Nat)] 1 false)) (c:=1) g0 rfl (Nat.le_refl _)).src
 generalize h.new (.cells [.int .i64 (x:Nat)] 1 false)=h1 at *
 have u:=Upd.put (o:=.dead) gb
 have x2:Ext (h1.put b .dead).next (h1.put b .dead) ((h1.put b .dead).new (.cells (nC xs++[.int .i64 (x:Nat)]) 1 false)):=Ext.new (Nat.le_refl _)
 have g2:((h1.put b .dead).new (.cells (nC xs++[.int .i64 (x:Nat)]) 1 false)).get (h1.put b .dead).next=some (.cells (nC xs++[.int .i64 (x:Nat)]) 1 false):=by rw[AH.get_new,if_pos rfl]
 have hf:((xs.map fun n=>((n:Nat):Int)).map eI).flatten=nC xs:=by rw[nC,List.flatMap_def]
 have hsrc:rdCells h1 b o (xs.length*1)=some (nC xs):=by
  have:=s0.1
  simp only[srcCells,gb,if_true,hf,List.length_map] at this
  revert this
  cases rdCells h1 b o (xs.length*1) with
  | none=>intro h; simp at h
  | some w=>intro h; simp at h; rw[h]
 refine⟨.sl (h1.put b .dead).next 0 (xs.length+1) (xs.length+1),(h1.put b .dead).new (.cells (nC xs++[.int .i64 (x:Nat)]) 1 false),?_,⟨?_,(h1.put b .dead).next,0,_,by simp,?_,g2⟩,?_,?_⟩
 ·simp only[appA]
  have s1':srcCells h1 1 (.sl h.next 0 1 1)=some (1,[.int .i64 (x:Nat)]):=s1.1
  rw[s1']
  have ho:([AV.int .i64 (x:Nat)].all AV.one)=true:=rfl
  simp only[ho,gb,hsrc,if_true]
  rw[if_neg (by omega),if_neg (by omega),if_pos (by unfold tooMany; omega),u.nx]
 ·refine nC_sl (lo:=0) (.inr ⟨_,_,Nat.zero_le _,rfl,?_,?_⟩)
  ·rw[nC_app]; exact g2
  ·rw[nC_len,List.length_append]; simp
 ·rw[u.nx,n0]; omega
 ·exact ((x0.mono (by omega)).trans (u.ext h2)).trans (x2.mono (by rw[u.nx,n0]; omega))
 ·have:=x2.nx
  rw[u.nx,n0] at this
  refine⟨by omega,fun c hc hne=>?_,fun b' o' n' m' e=>?_⟩
  ·rw[x2.gt c (by rw[u.nx,n0]; omega),u.ne (hne b o _ _ rfl),x0.gt c hc]
  ·cases e
   rw[u.nx,n0]; omega
end Go.Proofs.Ytpeemonpdlifbaa
namespace Go.Pla
open Go.Blk
variable {g:Gr}{Bl:List Nat}{laid thr:Nat→Bool}
theorem nd_lt {n:Nat}{l:List Nat} (nd:l.Nodup) (h:∀ x∈l,x<n):l.length≤n:=by
 have h1:((List.range n).filter fun e=>decide (e∈l)).Perm l:=(List.perm_ext_iff_of_nodup (List.nodup_range.filter _) nd).2 fun e=>by
  simp only[List.mem_filter,decide_eq_true_eq,List.mem_range]
  exact⟨fun h=>h.2,fun q=>⟨h e q,q⟩⟩
 have h2:=h1.length_eq
 have h3:=List.length_filter_le (fun e=>decide (e∈l)) (List.range n)
 rw[List.length_range] at h3
 omega
theorem stepE_pre {x:Nat}{s:LQ}{i:Nat}:∃ C,(stepE g laid thr x s i).1=s.1++C:=by
 unfold stepE
 split
 ·exact⟨_,rfl⟩
 ·exact⟨[],by simp⟩
theorem fold_pre {x:Nat}:∀ (is:List Nat) (s:LQ),∃ C,(is.foldl (stepE g laid thr x) s).1=s.1++C
 | [],s=>⟨[],by simp⟩
 | i::is,s=>by
   obtain⟨C,h1⟩:=fold_pre is (stepE g laid thr x s i)
   obtain⟨D,h2⟩:=stepE_pre (g:=g) (laid:=laid) (thr:=thr) (x:=x) (s:=s) (i:=i)
   exact⟨D++C,by rw[List.foldl_cons,h1,h2,List.append_assoc]⟩
theorem full_pre:∀ (f:Nat) (s:LQ),∃ C,full g Bl laid thr f s=s.1++C
 | 0,s=>⟨[],by simp [full]⟩
 | f+1,(L,[])=>⟨[],by simp [full]⟩
 | f+1,(L,x::Q)=>by
   obtain⟨C,h1⟩:=full_pre f (Bl.foldl (stepE g laid thr x) (L,Q))
   obtain⟨D,h2⟩:=fold_pre (g:=g) (laid:=laid) (thr:=thr) (x:=x) Bl (L,Q)
   exact⟨D++C,by
    show full g Bl laid thr f (Bl.foldl (stepE g laid thr x) (L,Q))=_
    rw[h1,h2,List.append_assoc]⟩
theorem Met.lt {r:Nat}{L:List (Nat×Nat)} (m:Met g Bl laid thr r L) (hB:∀ i∈Bl,i<g.m) (hr:r<g.n):∀ z∈ks L,z<g.n:=by
 intro z hz
 obtain⟨p,hp,rfl⟩:=List.mem_map.1 hz
 obtain⟨A,C,rfl⟩:=List.append_of_mem hp
 by_cases hA:A=[]
 ·subst hA
  obtain⟨T,hT⟩:=m.root
  rw[List.nil_append] at hT
  injection hT with h _
  rw[h]; exact hr
 ·obtain⟨_,_,i,hi,hj,_⟩:=m.par A p.1 p.2 C rfl hA
  have:=g.ok i (hB i hi)
  rcases jn_iff.1 hj with ⟨a,b⟩|⟨a,b⟩<;>omega
def todo (n:Nat) (s:LQ):Nat:=n-(ks s.1).length+s.2.length
theorem todo_step {r x i:Nat}{is:List Nat}{s:LQ} (h:Srch g Bl laid thr r s (some (x,i::is))) (hB:∀ i∈Bl,i<g.m) (hr:r<g.n) (hi:i∈Bl):todo g.n (stepE g laid thr x s i)≤todo g.n s:=by
 have h2:=h.step hB hi
 have hl:=nd_lt h2.met.nd (h2.met.lt hB hr)
 revert hl
 unfold stepE todo
 split
 ·intro hl
  have e1:(ks (s.1++[(g.oth i x,x)])).length=(ks s.1).length+1:=by simp [ks]
  dsimp only at hl ⊢
  rw[e1] at hl ⊢
  split
  ·simp; omega
  ·omega
 ·intro _; exact Nat.le_refl _
theorem Srch.fold {r x:Nat} (hB:∀ i∈Bl,i<g.m) (hr:r<g.n):∀ {is:List Nat}{s:LQ},(∀ i∈is,i∈Bl)→Srch g Bl laid thr r s (some (x,is))→Srch g Bl laid thr r (is.foldl (stepE g laid thr x) s) none∧todo g.n (is.foldl (stepE g laid thr x) s)≤todo g.n s
 | [],s,_,h=>⟨h.end,Nat.le_refl _⟩
 | i::is,s,hi,h=>by
   have h1:=h.step hB (hi i (by simp))
   have h2:=todo_step h hB hr (hi i (by simp))
   obtain⟨h3,h4⟩:=Srch.fold hB hr (fun j hj=>hi j (by simp [hj])) h1
   exact⟨h3,Nat.le_trans h4 h2⟩
theorem full_srch {r:Nat} (hB:∀ i∈Bl,i<g.m) (hr:r<g.n):∀ (f:Nat) {s:LQ},Srch g Bl laid thr r s none→todo g.n s≤f→Srch g Bl laid thr r (full g Bl laid thr f s,[]) none
 | 0,(L,[]),h,_=>h
 | 0,(L,x::Q),_,ht=>by simp [todo] at ht
 | f+1,(L,[]),h,_=>h
 | f+1,(L,x::Q),h,ht=>by
   obtain⟨h1,h2⟩:=h.pop.fold hB hr (fun _ h=>h)
   exact full_srch hB hr f h1 (by simp only[todo,List.length_cons] at ht h2 ⊢; omega)
theorem tail_app {A C:List (Nat×Nat)} (h:A≠[]):ks (A++C).tail=ks A.tail++ks C:=by
 cases A with
 | nil=>exact absurd rfl h
 | cons a A=>simp [ks]
def Hit (F:List (Nat×Nat)) (fin:Nat→Bool) (o:Option Nat):Prop :=
 match o with
 | some y=>∃ A x C,F=A++(y,x)::C∧A≠[]∧(∀ z∈ks A.tail,fin z=false)∧fin y=true
 | none=>∀ z∈ks F.tail,fin z=false
end Go.Pla
