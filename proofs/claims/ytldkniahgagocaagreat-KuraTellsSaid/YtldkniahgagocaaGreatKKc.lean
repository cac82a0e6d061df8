/-
  Maps from numbers: to numbers, whatever they are; to lists of numbers. A range over such a map. kura: a way from a vertex; all ways from one. kura: the heads, by a range over a map in any order.
-/
import Derived.Test.YtldkniahgagocaaGreatKKb
import Derived.Test.YtldkniahgagocaaGreatKKa
set_option linter.all false
namespace Go.Proofs.YtldkniahgagocaaGreat
open Go.Am
def addK (ks:List Nat) (k:Nat):List Nat:=if k∈ks then ks else ks++[k]
def addAll (ks l:List Nat):List Nat:=l.foldl addK ks
theorem addK_mem {ks:List Nat}{k x:Nat}:x∈addK ks k↔x∈ks∨x=k:=by
 unfold addK
 split
 ·rename_i h
  constructor
  ·exact .inl
  ·rintro (h'|rfl)
   ·exact h'
   ·exact h
 ·simp
theorem addK_nodup {ks:List Nat}{k:Nat} (h:ks.Nodup):(addK ks k).Nodup:=by
 unfold addK
 split
 ·exact h
 ·rename_i hk
  rw[List.nodup_append]
  refine⟨h,by simp,fun a ha b hb=>?_⟩
  rw[List.mem_singleton] at hb
  subst hb
  rintro rfl
  exact hk ha
theorem addAll_mem {l:List Nat}:∀ {ks:List Nat}{x:Nat},x∈addAll ks l↔x∈ks∨x∈l:=by
 induction l with
 | nil=>intro ks x; simp [addAll]
 | cons a r ih =>
   intro ks x
   show x∈addAll (addK ks a) r↔_
   rw[ih,addK_mem,List.mem_cons,or_assoc]
theorem addAll_nodup {l:List Nat}:∀ {ks:List Nat},ks.Nodup→(addAll ks l).Nodup:=by
 induction l with
 | nil=>intro ks h; exact h
 | cons a r ih=>intro ks h; exact ih (addK_nodup h)
theorem addAll_app {ks a b:List Nat}:addAll ks (a++b)=addAll (addAll ks a) b:=List.foldl_append ..
def KeyI (es:List (AV×AV×Nat)) (ks:List Nat):Prop:=es.map (·.1)=ks.map fun k=>AV.int .i64 ((k:Nat):Int)
theorem kfindK:∀ {es:List (AV×AV×Nat)}{ks:List Nat},KeyI es ks→∀ k:Nat,(k∉ks∧kfind .ki (.int .i64 (k:Nat)) es=some none) ∨
 ∃ i v n,kfind .ki (.int .i64 (k:Nat)) es=some (some (i,v,n))∧es[i]?=some (.int .i64 (k:Nat),v,n)∧ks[i]?=some k∧∀ j,j<i→ks[j]?≠some k
 | [],ks,h,k=>by
   have:ks=[]:=by
    have:=congrArg List.length h
    simp at this
    exact List.length_eq_zero_iff.1 this.symm
   subst this
   exact .inl ⟨by simp,rfl⟩
 | e::r,[],h,k=>by simp [KeyI] at h
 | (a,b,n)::r,p::ks,h,k=>by
   have h':=h
   simp only[KeyI,List.map_cons,List.cons.injEq] at h'
   obtain⟨rfl,h2⟩:=h'
   have hk:keyEq .ki (.int .i64 ((k:Nat):Int)) (.int .i64 ((p:Nat):Int))=some (((k:Nat):Int)==((p:Nat):Int)):=by simp [keyEq]
   by_cases q:p=k
   ·subst q
    refine .inr ⟨0,b,n,?_,rfl,rfl,fun j hj=>absurd hj (Nat.not_lt_zero _)⟩
    simp only[kfind,hk,beq_self_eq_true]
   ·have hne:(((k:Nat):Int)==((p:Nat):Int))=false:=by rw[beq_eq_false_iff_ne]; omega
    rcases kfindK (es:=r) (ks:=ks) h2 k with ⟨h3,h4⟩|⟨i,v,m,h3,h4,h5,h6⟩
    ·refine .inl ⟨?_,?_⟩
     ·rw[List.mem_cons]
      rintro (e|e)
      ·exact q e.symm
      ·exact h3 e
     ·simp only[kfind,hk,hne,h4]
      rfl
    ·refine .inr ⟨i+1,v,m,?_,h4,h5,fun j hj=>?_⟩
     ·simp only[kfind,hk,hne,h3]
      rfl
     ·cases j with
      | zero=>simpa using q
      | succ j=>simpa using h6 j (by omega)
theorem keyOk_int {k:Int}:keyOk .ki (.int .i64 k)=true:=by simp [keyOk,keyEq]
theorem set_map_fst {es:List (AV×AV×Nat)}{i:Nat}{k v:AV}{n:Nat}{u:AV} (h:es[i]?=some (k,v,n)):(es.set i (k,u,n)).map (·.1)=es.map (·.1)∧(es.set i (k,u,n)).map (·.2.2)=es.map (·.2.2):=by
 rw[List.map_set,List.map_set]
 have h1:(es.map (·.1))[i]?=some k:=by rw[List.getElem?_map,h]; rfl
 have h2:(es.map (·.2.2))[i]?=some n:=by rw[List.getElem?_map,h]; rfl
 constructor
 ·refine List.ext_getElem? fun j=>?_
  rw[List.getElem?_set]
  split
  ·rename_i e; subst e; rw[h1]; split
   ·rfl
   ·rename_i hn; rw[List.getElem?_eq_none (by omega)] at h1; cases h1
  ·rfl
 ·refine List.ext_getElem? fun j=>?_
  rw[List.getElem?_set]
  split
  ·rename_i e; subst e; rw[h2]; split
   ·rfl
   ·rename_i hn; rw[List.getElem?_eq_none (by omega)] at h2; cases h2
  ·rfl
def MapK (h:AH) (db:Nat) (ks:List Nat):Prop:=∃ es c,h.get db=some (.mapo es c)∧KeyI es ks∧∀ e∈es,∃ z,e.2.1=.int .i64 z
theorem MapK.len {h:AH}{db:Nat}{ks:List Nat} (m:MapK h db ks):lenMA h (.mp db)=some (.int .i64 (ks.length:Nat)):=by
 obtain⟨es,c,h1,h2,_⟩:=m
 have:=congrArg List.length h2
 simp only[List.length_map] at this
 simp only[lenMA,h1,this]
theorem MapK.look {h:AH}{db:Nat}{ks:List Nat} (m:MapK h db ks) (k:Nat):∃ z,mlkA h .ki false (.int .i64 0) (.mp db) (.int .i64 (k:Nat))=some (.int .i64 z):=by
 obtain⟨es,c,h1,h2,h3⟩:=m
 rcases kfindK h2 k with ⟨q1,q2⟩|⟨i,v,n,q1,q2,q3,q4⟩
 ·exact⟨0,by simp only[mlkA,h1,keyOk_int,q2,if_true]; rfl⟩
 ·obtain⟨z,hz⟩:=h3 _ (List.mem_of_getElem? q2)
  simp only at hz
  subst hz
  exact⟨z,by simp only[mlkA,h1,keyOk_int,q1,if_true]; rfl⟩
theorem MapK.up {h:AH}{db:Nat}{ks:List Nat} (m:MapK h db ks) (k:Nat) (z:Int):∃ h',mupA h .ki (.mp db) (.int .i64 (k:Nat)) (.int .i64 z)=some (.un,h')∧MapK h' db (addK ks k)∧∃ o,Upd h h' db o:=by
 obtain⟨es,c,h1,h2,h3⟩:=m
 rcases kfindK h2 k with ⟨q1,q2⟩|⟨i,v,n,q1,q2,q3,q4⟩
 ·have u:=Upd.put (o:=.mapo (es++[(.int .i64 (k:Nat),.int .i64 z,c)]) (c+1)) h1
  refine⟨_,by simp only[mupA,h1,keyOk_int,q2,if_true],⟨_,_,u.get,?_,fun e he=>?_⟩,_,u⟩
  ·unfold addK KeyI
   rw[if_neg q1,List.map_append,List.map_append,h2]
   rfl
  ·rcases List.mem_append.1 he with he|he
   ·exact h3 e he
   ·rw[List.mem_singleton] at he
    subst he
    exact⟨z,rfl⟩
 ·have u:=Upd.put (o:=.mapo (es.set i (.int .i64 (k:Nat),.int .i64 z,n)) c) h1
  refine⟨_,by simp only[mupA,h1,keyOk_int,q1,if_true],⟨_,_,u.get,?_,fun e he=>?_⟩,_,u⟩
  ·unfold addK KeyI
   rw[if_pos (List.mem_of_getElem? q3),(set_map_fst q2).1]
   exact h2
  ·rcases List.mem_or_eq_of_mem_set he with he|rfl
   ·exact h3 e he
   ·exact⟨z,rfl⟩
theorem MapK.nil {h:AH}{db c:Nat} (hg:h.get db=some (.mapo [] c)):MapK h db []:=⟨[],c,hg,rfl,fun e he=>by cases he⟩
theorem MapK.cong {h h':AH}{db:Nat}{ks:List Nat} (m:MapK h db ks) (hg:h'.get db=h.get db):MapK h' db ks:=by
 obtain⟨es,c,h1,h2⟩:=m
 exact⟨es,c,by rw[hg]; exact h1,h2⟩
theorem MapK.lt {h:AH}{db:Nat}{ks:List Nat} (m:MapK h db ks):db<h.next:=by
 obtain⟨es,c,h1,_⟩:=m
 exact AH.lt_of_get h1
theorem MapK.clr {h:AH}{db:Nat}{ks:List Nat} (m:MapK h db ks):∃ h',mclA h (.mp db)=some (.un,h')∧MapK h' db []∧∃ o,Upd h h' db o:=by
 obtain⟨es,c,h1,h2⟩:=m
 have u:=Upd.put (o:=.mapo [] c) h1
 exact⟨_,by simp only[mclA,h1],MapK.nil u.get,_,u⟩
abbrev ML:=List (Nat×List Nat)
def lkL (ml:ML) (x:Nat):List Nat:=((ml.find? fun p=>p.1==x).map (·.2)).getD []
def upL:ML→Nat→Nat→ML
 | [],x,i=>[(x,[i])]
 | p::r,x,i=>if p.1=x then (x,p.2++[i])::r else p::upL r x i
theorem lkL_cons (p:Nat×List Nat) (r:ML) (x:Nat):lkL (p::r) x=if p.1=x then p.2 else lkL r x:=by
 unfold lkL
 rw[List.find?_cons]
 by_cases e:p.1=x
 ·rw[if_pos e,show (p.1==x)=true from by simpa using e]
  rfl
 ·rw[if_neg e,show (p.1==x)=false from by simpa using e]
theorem lkL_upL (ml:ML) (x i y:Nat):lkL (upL ml x i) y=if x=y then lkL ml y++[i] else lkL ml y:=by
 induction ml with
 | nil =>
   rw[upL,lkL_cons]
   by_cases e:x=y
   ·rw[if_pos e,if_pos e]; rfl
   ·rw[if_neg e,if_neg e]
 | cons p r ih =>
   rw[upL]
   by_cases e:p.1=x
   ·rw[if_pos e,lkL_cons,lkL_cons]
    simp only
    by_cases e2:x=y
    ·rw[if_pos e2,if_pos e2,if_pos (e.trans e2)]
    ·rw[if_neg e2,if_neg e2,if_neg (by omega)]
   ·rw[if_neg e,lkL_cons,lkL_cons,ih]
    by_cases e2:x=y
    ·have h3:¬ p.1=y:=by omega
     simp only[if_pos e2,if_neg h3]
    ·rw[if_neg e2,if_neg e2]
theorem upL_ne {ml:ML} (h:∀ p∈ml,p.2≠[]) (x i:Nat):∀ p∈upL ml x i,p.2≠[]:=by
 induction ml with
 | nil=>intro p hp; simp only[upL,List.mem_singleton] at hp; subst hp; simp
 | cons q r ih =>
   intro p hp
   rw[upL] at hp
   split at hp
   ·rcases List.mem_cons.1 hp with rfl|hp
    ·simp
    ·exact h p (List.mem_cons_of_mem _ hp)
   ·rcases List.mem_cons.1 hp with rfl|hp
    ·exact h _ (List.mem_cons_self ..)
    ·exact ih (fun p hp=>h p (List.mem_cons_of_mem _ hp)) p hp
theorem upL_keys (ml:ML) (x i:Nat):(upL ml x i).map (·.1)=addK (ml.map (·.1)) x:=by
 induction ml with
 | nil=>rfl
 | cons p r ih =>
   rw[upL,List.map_cons]
   unfold addK at ih ⊢
   by_cases e:p.1=x
   ·rw[if_pos e,if_pos (by rw[e]; exact List.mem_cons_self ..),List.map_cons,e]
   ·rw[if_neg e,List.map_cons,ih]
    by_cases e2:x∈r.map (·.1)
    ·rw[if_pos e2,if_pos (List.mem_cons_of_mem _ e2)]
    ·rw[if_neg e2,if_neg]
     ·rfl
     ·rw[List.mem_cons]
      rintro (q|q)
      ·exact e q.symm
      ·exact e2 q
theorem lkL_mem {ml:ML} (hn:(ml.map (·.1)).Nodup) {p:Nat×List Nat} (hp:p∈ml):lkL ml p.1=p.2:=by
 induction ml with
 | nil=>cases hp
 | cons q r ih =>
   rw[List.map_cons] at hn
   obtain⟨h1,h2⟩:=List.nodup_cons.1 hn
   rw[lkL_cons]
   rcases List.mem_cons.1 hp with rfl|hp
   ·rw[if_pos rfl]
   ·rw[if_neg fun e=>h1 (by rw[e]; exact List.mem_map_of_mem hp)]
    exact ih h2 hp
theorem lkL_none {ml:ML}{x:Nat} (h:x∉ml.map (·.1)):lkL ml x=[]:=by
 induction ml with
 | nil=>rfl
 | cons q r ih =>
   rw[List.map_cons,List.mem_cons] at h
   rw[lkL_cons,if_neg fun e=>h (.inl e.symm)]
   exact ih fun q=>h (.inr q)
theorem upL_at {ml:ML}{x i k:Nat}{p:Nat×List Nat} (hk:ml[k]?=some p) (hp:p.1=x) (hj:∀ j,j<k→(ml.map (·.1))[j]?≠some x):upL ml x i=ml.set k (x,p.2++[i]):=by
 induction ml generalizing k with
 | nil=>simp at hk
 | cons q r ih =>
   cases k with
   | zero =>
     simp only[List.getElem?_cons_zero,Option.some.injEq] at hk
     subst hk
     rw[upL,if_pos hp]
     rfl
   | succ k =>
     have h0:=hj 0 (by omega)
     simp only[List.map_cons,List.getElem?_cons_zero,ne_eq,Option.some.injEq] at h0
     rw[upL,if_neg h0,List.set_cons_succ,ih (k:=k) (by simpa using hk) fun j hj'=>by simpa using hj (j+1) (by omega)]
theorem upL_new {ml:ML}{x i:Nat} (h:x∉ml.map (·.1)):upL ml x i=ml++[(x,[i])]:=by
 induction ml with
 | nil=>rfl
 | cons q r ih =>
   rw[List.map_cons,List.mem_cons] at h
   rw[upL,if_neg fun e=>h (.inl e.symm),ih fun q=>h (.inr q)]
   rfl
structure MapL (h:AH) (lo:Nat) (es:List (AV×AV×Nat)) (c:Nat) (ml:ML):Prop where
 keys:KeyI es (ml.map (·.1))
 at_:∀ (i:Nat) (e:AV×AV×Nat) (p:Nat×List Nat),es[i]?=some e→ml[i]?=some p→IsSl h 1 lo e.2.1 (nC p.2)
 sep:∀ (i j:Nat) (e e':AV×AV×Nat),i≠j→es[i]?=some e→es[j]?=some e'→∀ b n b' n',e.2.1=.sl b 0 n n→e'.2.1=.sl b' 0 n' n'→b≠b'
 st:(es.map (·.2.2)).Pairwise (·<·)∧∀ e∈es,e.2.2<c
theorem MapL.nil {h:AH}{lo c:Nat}:MapL h lo [] c []:=⟨rfl,fun i e p q=>by simp at q,fun i j e e' _ q=>by simp at q,.nil,fun e he=>by cases he⟩
theorem MapL.len {h:AH}{lo c:Nat}{es:List (AV×AV×Nat)}{ml:ML} (m:MapL h lo es c ml):es.length=ml.length:=by
 have:=congrArg List.length m.keys
 simpa using this
theorem MapL.cong {h h':AH}{lo c:Nat}{es:List (AV×AV×Nat)}{ml:ML} (m:MapL h lo es c ml) (hk:∀ c,lo≤c→c<h.next→h'.get c=h.get c):MapL h' lo es c ml :=
 ⟨m.keys,fun i e p q1 q2=>(m.at_ i e p q1 q2).cong fun b n e' hb=>hk b hb ((m.at_ i e p q1 q2).lt e'),m.sep,m.st⟩
theorem MapL.look {h:AH}{lo c mb:Nat}{es:List (AV×AV×Nat)}{ml:ML} (m:MapL h lo es c ml) (hg:h.get mb=some (.mapo es c)) (x:Nat) :
 ∃ v,mlkA h .ki false .nils (.mp mb) (.int .i64 (x:Nat))=some v∧IsSl h 1 lo v (nC (lkL ml x)):=by
 rcases kfindK m.keys x with ⟨q1,q2⟩|⟨i,v,n,q1,q2,q3,q4⟩
 ·exact⟨.nils,by simp only[mlkA,hg,keyOk_int,q2,if_true]; rfl,.inl ⟨rfl,by rw[lkL_none q1]; rfl⟩⟩
 ·refine⟨v,by simp only[mlkA,hg,keyOk_int,q1,if_true]; rfl,?_⟩
  rw[List.getElem?_map] at q3
  obtain⟨p,hp,rfl⟩:=Option.map_eq_some_iff.1 q3
  have h1:=m.at_ i _ p q2 hp
  have:lkL ml p.1=p.2:=by
   have key:∀ {ml:ML}{i:Nat}{p:Nat×List Nat},ml[i]?=some p→(∀ j,j<i→(ml.map (·.1))[j]?≠some p.1)→lkL ml p.1=p.2:=by
    intro ml
    induction ml with
    | nil=>intro i p h; simp at h
    | cons q r ih =>
      intro i p hp hj
      cases i with
      | zero =>
        simp only[List.getElem?_cons_zero,Option.some.injEq] at hp
        subst hp
        rw[lkL_cons,if_pos rfl]
      | succ i =>
        have h0:=hj 0 (by omega)
        simp only[List.map_cons,List.getElem?_cons_zero,ne_eq,Option.some.injEq] at h0
        rw[lkL_cons,if_neg h0]
        exact ih (by simpa using hp) fun j hj'=>by simpa using hj (j+1) (by omega)
   exact key hp q4
  rw[this]
  exact h1
theorem mlkA_eq {h h':AH}{mb:Nat}{e:RE}{ok:Bool}{z k:AV} (hg:h'.get mb=h.get mb):mlkA h' e ok z (.mp mb) k=mlkA h e ok z (.mp mb) k:=by
 simp only[mlkA,hg]
theorem MapL.up {h:AH}{lo c mb x0:Nat}{es:List (AV×AV×Nat)}{ml:ML} (m:MapL h lo es c ml) (hg:h.get mb=some (.mapo es c)) (hmb:mb<lo) (hlo:lo≤h.next) (x i:Nat) (hx0:h.get x0=some (.cells [.int .i64 (i:Nat)] 1 false)) (hxl:lo≤x0)
 (hxn:∀ (j:Nat) (e:AV×AV×Nat),es[j]?=some e→∀ b n,e.2.1=.sl b 0 n n→b≠x0) (hl:(lkL ml x).length<2 ^ 30) :
 ∃ v v' h1 h2 es' c',mlkA h .ki false .nils (.mp mb) (.int .i64 (x:Nat))=some v∧appA h 1 8 v (.sl x0 0 1 1)=some (v',h1)∧h1.get mb=some (.mapo es c)∧mupA h1 .ki (.mp mb) (.int .i64 (x:Nat)) v'=some (.un,h2)∧h2.get mb=some (.mapo es' c')∧MapL h2 lo es' c' (upL ml x i) ∧
   Ext lo h h1∧Kp (fun c=>c=mb∨lo≤c) h h2∧(∀ c,c<h.next→(∀ (j:Nat) (e:AV×AV×Nat),es[j]?=some e→∀ n,e.2.1≠.sl c 0 n n)→h1.get c=h.get c∧(c≠mb→h2.get c=h.get c)) ∧
   (∀ (j:Nat) (e:AV×AV×Nat),es'[j]?=some e→∀ b n,e.2.1=.sl b 0 n n→b=h.next∨∃ (j:Nat) (e:AV×AV×Nat) (n:Nat),es[j]?=some e∧e.2.1=.sl b 0 n n)∧h2.next=h.next+1:=by
 have hmx:mb<h.next:=AH.lt_of_get hg
 have nine:nC [i]=[AV.int .i64 ((i:Nat):Int)]:=rfl
 rcases kfindK m.keys x with ⟨q1,q2⟩|⟨k,v,n,q1,q2,q3,q4⟩
 ·
  have hz:lkL ml x=[]:=lkL_none q1
  have hn:IsSl h 1 lo .nils (nC []):=.inl ⟨rfl,rfl⟩
  obtain⟨v',h1,a1,a2,a3,a4,a5,a6,a7⟩:=hn.app (bytes:=8) hlo (by omega) hx0 hxl (fun b n e=>by cases e) rfl rfl (by unfold tooMany; simp [nC]) (by unfold tooMany; simp [nC])
  have g1:h1.get mb=some (.mapo es c):=by rw[a3.gt _ hmb]; exact hg
  have u:=Upd.put (o:=.mapo (es++[(.int .i64 (x:Nat),v',c)]) (c+1)) g1
  have hel:es.length=ml.length:=m.len
  refine⟨.nils,v',h1,_,es++[(.int .i64 (x:Nat),v',c)],c+1,by simp only[mlkA,hg,keyOk_int,q2,if_true]; rfl,a1,g1,by simp only[mupA,g1,keyOk_int,q2,if_true],u.get,?_,a3,?_,fun c hc hcn=>?_,fun j e e1 b n e3=>?_,by rw[u.nx,a5]⟩
  ·have keep:∀ (j:Nat) (e:AV×AV×Nat) (p:Nat×List Nat),es[j]?=some e→ml[j]?=some p→IsSl (h1.put mb (.mapo (es++[(.int .i64 (x:Nat),v',c)]) (c+1))) 1 lo e.2.1 (nC p.2):=fun j e p e1 e2=>by
    refine (m.at_ j e p e1 e2).cong fun b n e3 hb=>?_
    rw[u.ne (by omega),a6 b ((m.at_ j e p e1 e2).lt e3) fun b' n' e4=>by cases e4]
   have lt:∀ (j:Nat) (e:AV×AV×Nat),es[j]?=some e→∀ b n,e.2.1=.sl b 0 n n→b<h.next:=fun j e e1 b n e3=>by
    have hj:=(List.getElem?_eq_some_iff.1 e1).1
    exact (m.at_ j e _ e1 (List.getElem?_eq_getElem (show j<ml.length by omega))).lt e3
   refine⟨?_,fun j e p e1 e2=>?_,fun j j' e e' hne e1 e2 b n b' n' f1 f2=>?_,?_⟩
   ·rw[upL_keys]
    unfold addK KeyI
    rw[if_neg q1,List.map_append,List.map_append,m.keys]
    rfl
   ·rw[upL_new q1] at e2
    by_cases hj:j<es.length
    ·rw[List.getElem?_append_left hj] at e1
     rw[List.getElem?_append_left (by omega)] at e2
     exact keep j e p e1 e2
    ·have hj':j<(es++[(AV.int .i64 ((x:Nat):Int),v',c)]).length:=(List.getElem?_eq_some_iff.1 e1).1
     rw[List.length_append,List.length_cons,List.length_nil] at hj'
     have:j=es.length:=by omega
     subst this
     rw[List.getElem?_append_right (by omega),Nat.sub_self] at e1
     rw[hel,List.getElem?_append_right (by omega),Nat.sub_self] at e2
     cases e1
     cases e2
     exact a2.cong fun b n _ hb=>u.ne (by omega)
   ·have one:∀ (j:Nat) (e:AV×AV×Nat),(es++[(AV.int .i64 ((x:Nat):Int),v',c)])[j]?=some e→(j<es.length∧es[j]?=some e)∨(j=es.length∧e.2.1=v'):=fun j e e1=>by
     by_cases hj:j<es.length
     ·rw[List.getElem?_append_left hj] at e1
      exact .inl ⟨hj,e1⟩
     ·have hj':j<(es++[(AV.int .i64 ((x:Nat):Int),v',c)]).length:=(List.getElem?_eq_some_iff.1 e1).1
      rw[List.length_append,List.length_cons,List.length_nil] at hj'
      have:j=es.length:=by omega
      subst this
      rw[List.getElem?_append_right (by omega),Nat.sub_self] at e1
      cases e1
      exact .inr ⟨rfl,rfl⟩
    rcases one j e e1 with ⟨l1,o1⟩|⟨l1,o1⟩<;>rcases one j' e' e2 with ⟨l2,o2⟩|⟨l2,o2⟩
    ·exact m.sep j j' e e' hne o1 o2 b n b' n' f1 f2
    ·have:=lt j e o1 b n f1
     rw[o2,a4] at f2
     cases f2
     omega
    ·have:=lt j' e' o2 b' n' f2
     rw[o1,a4] at f1
     cases f1
     omega
    ·omega
   ·obtain⟨s1,s2⟩:=m.st
    refine⟨?_,fun e he=>?_⟩
    ·rw[List.map_append,List.pairwise_append]
     refine⟨s1,by simp,fun a ha b hb=>?_⟩
     simp only[List.map_cons,List.map_nil,List.mem_singleton] at hb
     subst hb
     obtain⟨e,he,rfl⟩:=List.mem_map.1 ha
     exact s2 e he
    ·rcases List.mem_append.1 he with he|he
     ·have:=s2 e he; omega
     ·rw[List.mem_singleton] at he
      subst he
      simp
  ·refine⟨by rw[u.nx,a5]; omega,fun c hc hn=>?_,fun c hc=>by rw[u.ty,a7]⟩
   have hc1:c≠mb:=fun e=>hn (.inl e)
   have hc2:¬ lo≤c:=fun e=>hn (.inr e)
   rw[u.ne hc1,a3.gt _ (by omega)]
  ·have q:h1.get c=h.get c:=a6 c hc fun b' n e4=>by cases e4
   exact⟨q,fun hm=>by rw[u.ne hm,q]⟩
  ·by_cases hj:j<es.length
   ·rw[List.getElem?_append_left hj] at e1
    exact .inr ⟨j,e,n,e1,e3⟩
   ·have hj':j<(es++[(AV.int .i64 ((x:Nat):Int),v',c)]).length:=(List.getElem?_eq_some_iff.1 e1).1
    rw[List.length_append,List.length_cons,List.length_nil] at hj'
    have:j=es.length:=by omega
    subst this
    rw[List.getElem?_append_right (by omega),Nat.sub_self] at e1
    cases e1
    rw[a4] at e3
    cases e3
    exact .inl rfl
 ·
  rw[List.getElem?_map] at q3
  obtain⟨p,hp,hpx⟩:=Option.map_eq_some_iff.1 q3
  have hs:=m.at_ k _ p q2 hp
  have hpl:lkL ml x=p.2:=by
   obtain⟨v2,b1,b2⟩:=m.look hg x
   have key:∀ {ml:ML}{i:Nat}{p:Nat×List Nat},ml[i]?=some p→(∀ j,j<i→(ml.map (·.1))[j]?≠some p.1)→lkL ml p.1=p.2:=by
    intro ml
    induction ml with
    | nil=>intro i p h; simp at h
    | cons q r ih =>
      intro i p hp hj
      cases i with
      | zero =>
        simp only[List.getElem?_cons_zero,Option.some.injEq] at hp
        subst hp
        rw[lkL_cons,if_pos rfl]
      | succ i =>
        have h0:=hj 0 (by omega)
        simp only[List.map_cons,List.getElem?_cons_zero,ne_eq,Option.some.injEq] at h0
        rw[lkL_cons,if_neg h0]
        exact ih (by simpa using hp) fun j hj'=>by simpa using hj (j+1) (by omega)
   rw[← hpx] at q4 ⊢
   exact key hp q4
  obtain⟨v',h1,a1,a2,a3,a4,a5,a6,a7⟩:=hs.app (bytes:=8) hlo (by omega) hx0 hxl (fun b n e=>hxn k _ q2 b n e) rfl rfl (by rw[nC_len,← hpl]; unfold tooMany; omega) (by rw[nC_len,← hpl]; unfold tooMany; omega)
  have g1:h1.get mb=some (.mapo es c):=by rw[a3.gt _ hmb]; exact hg
  have u:=Upd.put (o:=.mapo (es.set k (.int .i64 (x:Nat),v',n)) c) g1
  have hel:es.length=ml.length:=m.len
  have hkl:k<es.length:=(List.getElem?_eq_some_iff.1 q2).1
  refine⟨v,v',h1,_,es.set k (.int .i64 (x:Nat),v',n),c,by simp only[mlkA,hg,keyOk_int,q1,if_true]; rfl,a1,g1,by simp only[mupA,g1,keyOk_int,q1,if_true],u.get,?_,a3,?_,fun c hc hcn=>?_,fun j e e1 b n e3=>?_,by rw[u.nx,a5]⟩
  ·have hup:upL ml x i=ml.set k (x,p.2++[i]):=upL_at hp hpx q4
   have lt:∀ (j:Nat) (e:AV×AV×Nat),es[j]?=some e→∀ b n,e.2.1=.sl b 0 n n→b<h.next:=fun j e e1 b n e3=>by
    have hj:=(List.getElem?_eq_some_iff.1 e1).1
    exact (m.at_ j e _ e1 (List.getElem?_eq_getElem (show j<ml.length by omega))).lt e3
   have one:∀ (j:Nat) (e:AV×AV×Nat),(es.set k (AV.int .i64 ((x:Nat):Int),v',n))[j]?=some e→(j≠k∧es[j]?=some e)∨(j=k∧e.2.1=v'):=fun j e e1=>by
    rw[List.getElem?_set] at e1
    split at e1
    ·rename_i e0
     cases e1
     exact .inr ⟨e0.symm,rfl⟩
    ·rename_i e0
     exact .inl ⟨fun q=>e0 q.symm,e1⟩
   refine⟨?_,fun j e p' e1 e2=>?_,fun j j' e e' hne e1 e2 b n1 b' n1' f1 f2=>?_,?_⟩
   ·rw[upL_keys]
    unfold addK KeyI
    rw[if_pos (by rw[← hpx]; exact List.mem_map_of_mem (List.mem_of_getElem? hp)),(set_map_fst q2).1]
    exact m.keys
   ·rw[hup] at e2
    rcases one j e e1 with ⟨o1,o2⟩|⟨rfl,o2⟩
    ·rw[List.getElem?_set_ne (fun q=>o1 q.symm)] at e2
     refine (m.at_ j e p' o2 e2).cong fun b n1 e3 hb=>?_
     rw[u.ne (by omega),a6 b ((m.at_ j e p' o2 e2).lt e3) fun b' n' e4=>m.sep j k e _ o1 o2 q2 b n1 b' n' e3 e4]
    ·rw[List.getElem?_set_self (by omega)] at e2
     cases e2
     rw[o2,nC_app]
     exact a2.cong fun b n _ hb=>u.ne (by omega)
   ·rcases one j e e1 with ⟨l1,o1⟩|⟨l1,o1⟩<;>rcases one j' e' e2 with ⟨l2,o2⟩|⟨l2,o2⟩
    ·exact m.sep j j' e e' hne o1 o2 b n1 b' n1' f1 f2
    ·have:=lt j e o1 b n1 f1
     rw[o2,a4] at f2
     cases f2
     omega
    ·have:=lt j' e' o2 b' n1' f2
     rw[o1,a4] at f1
     cases f1
     omega
    ·omega
   ·obtain⟨s1,s2⟩:=m.st
    refine⟨by rw[(set_map_fst q2).2]; exact s1,fun e he=>?_⟩
    rcases List.mem_or_eq_of_mem_set he with he|rfl
    ·exact s2 e he
    ·have:=s2 _ (List.mem_of_getElem? q2)
     exact this
  ·refine⟨by rw[u.nx,a5]; omega,fun c hc hn=>?_,fun c hc=>by rw[u.ty,a7]⟩
   have hc1:c≠mb:=fun e=>hn (.inl e)
   have hc2:¬ lo≤c:=fun e=>hn (.inr e)
   rw[u.ne hc1,a3.gt _ (by omega)]
  ·have q:h1.get c=h.get c:=a6 c hc fun b' n' e4=>by
    rintro rfl
    have q3:=hcn k _ q2 n'
    exact q3 e4
   exact⟨q,fun hm=>by rw[u.ne hm,q]⟩
  ·rw[List.getElem?_set] at e1
   split at e1
   ·cases e1
    rw[a4] at e3
    cases e3
    exact .inl rfl
   ·exact .inr ⟨j,e,n,e1,e3⟩
end Go.Proofs.YtldkniahgagocaaGreat
namespace Go.Proofs.YtldkniahgagocaaGreat
open Go.Am
open Go.Kur (Gr Wk)
structure Web (g:Gr) (h:AH) (wb:Nat) (n:Int) (E:List (Int×Int)):Prop where
 cell:∃ ev mb,h.get wb=some (.cells [.int .i64 n,ev,.mp mb] 3 false)∧SlE h ev E∧∃ es c ml lo,h.get mb=some (.mapo es c)∧MapL h lo es c ml∧(∀ x,lkL ml x=g.ends x)∧(ml.map (·.1)).Nodup∧(∀ p∈ml,p.2≠[])∧ml.length<2 ^ 30
 ok:∀ i∈g.E,E[i]?=some (((g.tl i:Nat):Int),((g.hd i:Nat):Int))∧g.tl i<2 ^ 30∧g.hd i<2 ^ 30
 len:E.length<2 ^ 30∧g.E.length<2 ^ 30
theorem Web.at {g:Gr}{h0 h:AH}{wb:Nat}{n:Int}{E:List (Int×Int)} (w:Web g h0 wb n E) (x:Ext h0.next h0 h) :
 ∃ ev mb,rdCells h wb 1 1=some [ev]∧rdCells h wb 2 1=some [.mp mb]∧SlE h ev E∧(∀ x:Nat,∃ v,mlkA h .ki false .nils (.mp mb) (.int .i64 (x:Nat))=some v∧SlN h v (g.ends x))∧wb<h0.next:=by
 obtain⟨ev,mb,h1,h2,es,c,ml,lo,h3,h4,h5,_⟩:=w.cell
 have l1:=AH.lt_of_get h1
 have l2:=AH.lt_of_get h3
 have g1:h.get wb=some (.cells [.int .i64 n,ev,.mp mb] 3 false):=by rw[x.gt _ l1]; exact h1
 have g3:h.get mb=some (.mapo es c):=by rw[x.gt _ l2]; exact h3
 refine⟨ev,mb,rd_at g1 rfl,rd_at g1 rfl,h2.ext x (Nat.le_refl _),fun y=>?_,l1⟩
 obtain⟨v,a1,a2⟩:=(h4.cong (h':=h) fun c _ hc=>x.gt c hc).look g3 y
 rw[h5] at a2
 exact⟨v,a1,nC_sl a2⟩
theorem kp_ext {db:Nat}{h0 h h':AH} (hd:h0.next≤db) (x:Ext h0.next h0 h) (k:Kp (fun c=>c=db) h h'):Ext h0.next h0 h' :=
 x.trans ⟨k.nx,fun c hc=>k.gt c (by have:=x.nx; omega) (by omega),fun c hc=>k.ty c (by have:=x.nx; omega)⟩
set_option maxHeartbeats 1000000 in
theorem far_ok {g:Gr}{h0 h:AH}{wb db:Nat}{n:Int}{E:List (Int×Int)}{ks:List Nat} (w:Web g h0 wb n E) (hx:Ext h0.next h0 h) (md:MapK h db ks) (hdb:h0.next≤db) {x y e:Nat}{es:List Nat} (hw:Wk g x es y) (he:es.head?=some e) (hy:g.deg y≠2) (hxb:x<2 ^ 31) :
 C prg 35 [.ptr wb 0,.int .i64 (x:Nat),.int .i64 (e:Nat),.mp db] h fun r h'=>r=.int .i64 (y:Nat)∧Kp (fun c=>c=db) h h'∧MapK h' db (addAll ks es):=by
 refine C.func pf35 ?_
 refine W.seq (W.run (by simp only[am,evOp,simprocAttr,initTm]<;>rfl) ?_)
 refine W.block (W.loop (fun m ts h'=>∃ x' es' e' ks',m=es'.length∧Wk g x' es' y∧es'.head?=some e'∧x'<2 ^ 31∧addAll ks' es'=addAll ks es∧MapK h' db ks'∧Kp (fun c=>c=db) h h'∧Held [(0,.ptr wb 0),(1,.int .i64 (x':Nat)),(2,.int .i64 (e':Nat)),(3,.mp db)] ts) ?_ (n:=es.length)
  ⟨x,es,e,ks,rfl,hw,he,hxb,rfl,md,Kp.refl,by simp only[hl,am,evOp,simprocAttr,initTm]⟩)
 rintro m ts h1 ⟨x',es',e',ks',rfl,hw',he',hxb',hks,md1,k1,e0,e1,e2,e3,-⟩
 simp only at e0 e1 e2 e3
 refine W.block ?_
 obtain⟨z,hz⟩:=md1.look e'
 obtain⟨h2,hm,md2,o,u2⟩:=md1.up e' (IntKind.i64.wrap (z+1))
 refine W.seq (W.run (by simp only[am,evOp,simprocAttr,e3,e2,hz,hm]<;>rfl) ?_)
 have k2:Kp (fun c=>c=db) h h2:=k1.trans (u2.kp (S:=fun c=>c=db) rfl) fun c _ e=>e
 have X2:=kp_ext hdb hx k2
 obtain⟨ev,mb,r1,r2,hE,hL,hwb⟩:=w.at X2
 have heE:e'∈g.E:=hw'.mem e' (List.mem_of_mem_head? (by rw[he']; rfl))
 obtain⟨o1,o2,o3⟩:=w.ok e' heE
 have hel:e'<E.length:=(List.getElem?_eq_some_iff.1 o1).1
 obtain⟨b1,p1,a1,a2,_⟩:=hE.at (map_at (f:=eE) hel)
 have hEe:E[e']=(((g.tl e':Nat):Int),((g.hd e':Nat):Int)):=(List.getElem?_eq_some_iff.1 o1).2
 rw[hEe] at a2
 obtain⟨h3,w3,x3,g3,n3⟩:=mk_loc (h:=h2) (z:=[.int .i64 0,.int .i64 0]) (cs:=[.int .i64 ((g.tl e':Nat):Int),.int .i64 ((g.hd e':Nat):Int)]) (e:=2) rfl
 refine W.seq (W.run (by simp only[am,evOp,simprocAttr,e0,e2,r1,a1,a2,eE,w3]<;>rfl) ?_)
 have s0:rdCells h3 h2.next 0 1=some [.int .i64 ((g.tl e':Nat):Int)]:=rd_at g3 rfl
 have s1:rdCells h3 h2.next 1 1=some [.int .i64 ((g.hd e':Nat):Int)]:=rd_at g3 rfl
 obtain⟨e'',r',hes⟩:∃ e'' r',es'=e''::r':=by
  cases es' with
  | nil=>cases he'
  | cons a r=>exact⟨a,r,rfl⟩
 subst hes
 simp only[List.head?_cons,Option.some.injEq] at he'
 subst he'
 have hj:=Kur.joins_of hw'.head
 have ho:g.oth e'' x'<2 ^ 31:=by unfold Gr.oth; omega
 have hox:g.tl e''+g.hd e''=g.oth e'' x'+x':=by
  rcases hj.2 with ⟨q1,q2⟩|⟨q1,q2⟩<;>omega
 have wA:IntKind.i64.wrap (((g.tl e'':Nat):Int)+((g.hd e'':Nat):Int))=((g.tl e''+g.hd e'':Nat):Int):=by rw[wr64 (by omega) (by omega)]; omega
 have wS:IntKind.i64.wrap (((g.tl e''+g.hd e'':Nat):Int)-((x':Nat):Int))=((g.oth e'' x':Nat):Int):=by rw[wr64 (by omega) (by omega)]; omega
 refine W.seq (W.run (by simp only[am,evOp,simprocAttr,e1,s0,s1,wA,wS]<;>rfl) ?_)
 have k3:Kp (fun c=>c=db) h h3:=k2.trans (x3.kp (S:=fun c=>c=db) (Nat.le_refl _)) fun c _ e=>e
 have md3:MapK h3 db (addK ks' e''):=md2.cong (x3.gt _ md2.lt)
 have X3:=kp_ext hdb hx k3
 obtain⟨ev2,mb2,r3,r4,hE2,hL2,_⟩:=w.at X3
 obtain⟨v,hv,sv⟩:=hL2 (g.oth e'' x')
 have svl:=sv.len
 rw[List.length_map,List.length_map] at svl
 refine W.seq (W.run (by simp only[am,evOp,simprocAttr,e0,r4,hv]<;>rfl) ?_)
 refine W.seq ?_
 by_cases hd:g.deg (g.oth e'' x')=2
 ·have hd':(g.ends (g.oth e'' x')).length=2:=hd
  have c1:decide ((((g.ends (g.oth e'' x')).length:Nat):Int)=2)=true:=decide_eq_true (by omega)
  refine W.seq (W.run (by simp only[am,evOp,simprocAttr,svl,c1]<;>rfl) ?_)
  refine W.no (by simp only[am,evOp,simprocAttr]) (W.skip ?_)
  cases hw' with
  | one hj' =>
    rw[hj'.oth] at hd
    exact absurd hd hy
  | @cons _ _ z' es2 _ hj' hz' hw2 =>
    have hoz:=hj'.oth
    subst hoz
    obtain⟨c,d,hcd⟩:=Kur.two_of hz'
    have hnx:g.nxt (g.oth e'' x') e''=c+d-e'':=by unfold Gr.nxt; rw[hcd]; rfl
    rw[hcd] at sv
    have hmem:e''=c∨e''=d:=by
     have:=hj'.symm.left
     rw[hcd] at this
     simpa using this
    obtain⟨b2,p2,f1,f2,_⟩:=sv.at1 (i:=0) (y:=.int .i64 ((c:Nat):Int)) rfl
    obtain⟨b3,p3,f3,f4,_⟩:=sv.at1 (i:=1) (y:=.int .i64 ((d:Nat):Int)) rfl
    have f1:iadrL 1 v (.int .i64 0)=some (.ptr b2 p2):=f1
    have f3:iadrL 1 v (.int .i64 1)=some (.ptr b3 p3):=f3
    have hcE:∀ i∈g.ends (g.oth e'' x'),i<2 ^ 30:=fun i hi=>by
     have q:=(w.ok i (Kur.mem_ends.1 hi).1).1
     have:=(List.getElem?_eq_some_iff.1 q).1
     have:=w.len.1
     omega
    have hc:=hcE c (by rw[hcd]; simp)
    have hdd:=hcE d (by rw[hcd]; simp)
    have wB:IntKind.i64.wrap (((c:Nat):Int)+((d:Nat):Int))=((c+d:Nat):Int):=by rw[wr64 (by omega) (by omega)]; omega
    have wC:IntKind.i64.wrap (((c+d:Nat):Int)-((e'':Nat):Int))=((g.nxt (g.oth e'' x') e'':Nat):Int):=by rw[wr64 (by omega) (by omega),hnx]; omega
    refine W.run (by simp only[am,evOp,simprocAttr,e2,f1,f2,f3,f4,wB,wC]<;>rfl) ?_
    exact⟨(g.nxt (g.oth e'' x') e''::es2).length,by simp,g.oth e'' x',_,g.nxt (g.oth e'' x') e'',addK ks' e'',rfl,hw2,rfl,ho,hks,md3,k3,by simp only[hl,am,evOp,simprocAttr,e0,e1,e2,e3]⟩
 ·have hd':¬ (g.ends (g.oth e'' x')).length=2:=hd
  have c1:decide ((((g.ends (g.oth e'' x')).length:Nat):Int)=2)=false:=decide_eq_false (by omega)
  refine W.seq (W.run (by simp only[am,evOp,simprocAttr,svl,c1]<;>rfl) ?_)
  refine W.yes (by simp only[am,evOp,simprocAttr]) ?_
  cases hw' with
  | one hj' =>
    have hoz:=hj'.oth
    refine W.seq (W.run (by simp only[am,evOp,simprocAttr]<;>rfl) ?_)
    refine W.ret ⟨_,(by simp only[rs,rf35,am,evOp,simprocAttr]<;>rfl),by rw[hoz],k3,?_⟩
    rw[← hks]
    exact md3
  | @cons _ _ z' es2 _ hj' hz' hw2 =>
    rw[hj'.oth] at hd
    exact absurd hz' hd
theorem MapK.off {h:AH}{db e:Nat}{ks:List Nat}{v:AV}{xs:List (List AV)} (m:MapK h db ks) (hs:Sl h e v xs):Off (fun c=>c=db) v:=by
 obtain⟨es,c,h1,_⟩:=m
 rcases hs with ⟨_,rfl|rfl⟩|⟨b,o,c',cs,ro,rfl,q,_⟩
 ·trivial
 ·trivial
 ·intro e
  have e:b=db:=e
  rw[e,h1] at q
  cases q
def Alive (g:Gr) (x:Nat):Prop:=∀ e∈g.ends x,∃ es y,Wk g x es y∧es.head?=some e∧g.deg y≠2∧es.length≤g.E.length
def fr (g:Gr) (x e:Nat):List Nat×Nat:=Kur.far g g.E.length x e
def fins (g:Gr) (x:Nat) (l:List Nat):List Nat:=l.map fun e=>(fr g x e).2
def mrks (g:Gr) (x:Nat) (l:List Nat):List Nat:=l.flatMap fun e=>(fr g x e).1
theorem Alive.fr {g:Gr}{x e:Nat} (a:Alive g x) (he:e∈g.ends x):∃ es y,Wk g x es y∧es.head?=some e∧g.deg y≠2∧fr g x e=(es,y):=by
 obtain⟨es,y,h1,h2,h3,h4⟩:=a e he
 exact⟨es,y,h1,h2,h3,h1.far h3 h2 h4⟩
def meetsM (g:Gr) (x:Nat):List Nat:=sortN (fins g x (g.ends x))
def marksM (g:Gr) (x:Nat):List Nat:=mrks g x (g.ends x)
set_option maxHeartbeats 1000000 in
theorem meets_ok {g:Gr}{h0 h:AH}{wb db:Nat}{n:Int}{E:List (Int×Int)}{ks:List Nat} (w:Web g h0 wb n E) (hx:Ext h0.next h0 h) (md:MapK h db ks) (hdb:h0.next≤db) {x:Nat} (ha:Alive g x) (hxb:x<2 ^ 31) :
 C prg 25 [.ptr wb 0,.int .i64 (x:Nat),.mp db] h fun r h'=>IsSl h' 1 h.next r (nC (meetsM g x))∧Kp (fun c=>c=db) h h'∧MapK h' db (addAll ks (marksM g x)):=by
 refine C.func pf25 ?_
 refine W.seq (W.run (by simp only[am,evOp,simprocAttr,initTm]<;>rfl) ?_)
 obtain⟨ev,mb,r1,r2,hE,hL,hwb⟩:=w.at hx
 obtain⟨v,hv,sv⟩:=hL x
 have svl:=sv.len
 rw[List.length_map,List.length_map] at svl
 have hlen:(g.ends x).length<2 ^ 31:=by
  have h2:=w.len.2
  have:(g.ends x).length≤2*g.E.length:=by
   unfold Gr.ends
   generalize g.E=l
   induction l with
   | nil=>exact Nat.le_refl _
   | cons a r ih =>
     rw[List.flatMap_cons,List.length_append,List.length_cons]
     have:(g.at1 x a).length≤2:=by
      unfold Gr.at1
      rw[List.length_append]
      split<;>split<;>simp
     omega
  omega
 refine W.seq (W.seq (W.run (by simp only[am,evOp,simprocAttr,initTm,r2,hv,svl]<;>rfl) ?_))
 refine W.rng (α:=AV) (N:=(g.ends x).length) (fun _ a=>[(0,.ptr wb 0),(1,.int .i64 (x:Nat)),(2,.mp db),(14,v),(6,a)])
  (fun k a h'=>IsSl h' 1 h.next a (nC (fins g x ((g.ends x).take k)))∧Kp (fun c=>c=db) h h'∧MapK h' db (addAll ks (mrks g x ((g.ends x).take k)))) .nils (fun _ _=>rfl) (by omega) (by simp only[hl,am,evOp,simprocAttr,initTm]) ⟨.inl ⟨rfl,rfl⟩,Kp.refl,md⟩ ?_ ?_
 ·rintro k a ts h1 hk ⟨j1,j2,j3⟩ ⟨ei,en,e0,e1,e2,e14,e6,-⟩
  simp only at ei en e0 e1 e2 e14 e6
  have hdl:=md.lt
  have n1:=j2.nx
  have X1:=kp_ext hdb hx j2
  obtain⟨b1,p1,a1,a2,_⟩:=(sv.kp j2 (md.off sv)).at1 (i:=k) (y:=.int .i64 (((g.ends x)[k]:Nat):Int)) (by rw[List.getElem?_map,List.getElem?_map,List.getElem?_eq_getElem hk]; rfl)
  refine W.seq (W.run (by simp only[am,evOp,simprocAttr,e14,ei,a1,a2]<;>rfl) ?_)
  obtain⟨es,y,f1,f2,f3,f4⟩:=ha.fr (List.getElem_mem hk)
  have hfar:=far_ok w X1 j3 hdb f1 f2 f3 hxb
  refine W.reg (G.gcall 5 (by simp only[am,evOp,simprocAttr,e0,e1,e2,e6]<;>rfl) rfl (by simp only[am,evOp,simprocAttr,e0,e1,e2,e6]) (by simp only[am,evOp,simprocAttr,e0,e1,e2,e6]<;>rfl) (hfar) fun r h2 hq=>?_)
  obtain⟨rfl,k2,m2⟩:=hq
  have n2:=k2.nx
  have hst:fins g x ((g.ends x).take (k+1))=fins g x ((g.ends x).take k)++[y]:=by
   unfold fins
   rw[List.take_succ_eq_append_getElem hk,List.map_append,List.map_cons,List.map_nil,f4]
  have hsm:mrks g x ((g.ends x).take (k+1))=mrks g x ((g.ends x).take k)++es:=by
   unfold mrks
   rw[List.take_succ_eq_append_getElem hk,List.flatMap_append,List.flatMap_cons,List.flatMap_nil,List.append_nil,f4]
  have hfl:(fins g x ((g.ends x).take k)).length=k:=by unfold fins; rw[List.length_map,List.length_take]; omega
  have j1':IsSl h2 1 h.next a (nC (fins g x ((g.ends x).take k))):=j1.cong fun b n e hb=>k2.gt b (j1.lt e) (by omega)
  obtain⟨a',h3,p1',p2',p3',p4'⟩:=j1'.push (bytes:=8) [.int .i64 ((y:Nat):Int)] (by omega) (by omega) rfl rfl (by rw[nC_len,hfl]; unfold tooMany; omega) (by rw[nC_len,hfl]; unfold tooMany; omega)
  refine G.run (by simp only[am,evOp,simprocAttr,e6,p1']<;>rfl) ?_
  refine⟨a',⟨?_,?_,?_⟩,by simp only[hl,am,evOp,simprocAttr,ei,en,e0,e1,e2,e14]⟩
  ·rw[hst,nC_app]
   exact p2'
  ·have q:=j2.trans k2 fun c _ e=>e
   exact⟨Nat.le_trans q.nx p3'.nx,fun c hc hn=>(p3'.gt c hc).trans (q.gt c hc hn),fun c hc=>(p3'.ty c hc).trans (q.ty c hc)⟩
  ·rw[hsm,addAll_app]
   exact m2.cong (p3'.gt _ (by omega))
 ·rintro a ts h1 ⟨j1,j2,j3⟩ ⟨e0,e1,e2,e14,e6,-⟩
  simp only at e0 e1 e2 e14 e6
  rw[List.take_length] at j1 j3
  have hs:=sortS_ok j1 (by unfold fins; rw[List.length_map]; omega)
  refine W.seq (W.reg (G.gcall 1 (by simp only[am,evOp,simprocAttr,e6]<;>rfl) rfl (by simp only[am,evOp,simprocAttr,e6]) (by simp only[am,evOp,simprocAttr,e6]<;>rfl) (hs) fun r h2 hq=>?_))
  obtain⟨s1,s2,s3,s4⟩:=hq
  refine G.run (by simp only[am,evOp,simprocAttr]<;>rfl) ?_
  have hdl:=md.lt
  have hab:∀ c,c<h.next→∀ n,a≠.sl c 0 n n:=fun c hc n e=>by
   rcases j1 with ⟨q,_⟩|⟨b,m,hb,q,_⟩
   ·rw[q] at e; cases e
   ·rw[q] at e; cases e; omega
  refine W.seq (W.run (by simp only[am,evOp,simprocAttr,e6]<;>rfl) ?_)
  refine W.ret ⟨a,(by simp only[rs,rf25,am,evOp,simprocAttr]<;>rfl),s1,?_,j3.cong (s2 _ (hab db hdl))⟩
  exact⟨by rw[s3]; exact j2.nx,fun c hc hn=>by rw[s2 c (hab c hc)]; exact j2.gt c hc hn,fun c hc=>by rw[s4]; exact j2.ty c hc⟩
end Go.Proofs.YtldkniahgagocaaGreat
namespace Go.Proofs.YtldkniahgagocaaGreat
open Go.Am
open Go.Kur (Gr Wk)
theorem nx_ok {h:AH}{it mb c:Nat}{es:List (AV×AV×Nat)}{seen:List Nat} (hi:h.get it=some (.mit (some mb) c seen c)) (hm:h.get mb=some (.mapo es c)) (hs:∀ e∈es,e.2.2<c) :
 ∃ al,nxMA h (.ptr it 0)=some al∧∀ v h',(v,h')∈al→((∀ e∈es,e.2.2∈seen)∧v=.tup [.bool false]∧h'=h)∨∃ e∈es,e.2.2∉seen∧v=.tup [.bool true,e.1,e.2.1]∧h'=h.put it (.mit (some mb) c (seen++[e.2.2]) c):=by
 have hno:(!seen.isEmpty&&!es.isEmpty&&es.all (fun e=>decide (e.2.2≥c)))=false:=by
  cases es with
  | nil=>simp
  | cons e r =>
    have:=hs e (List.mem_cons_self ..)
    have h1:decide (e.2.2≥c)=false:=decide_eq_false (by omega)
    simp [h1]
 refine⟨_,by simp only[nxMA,hi,hm,hno]; rfl,fun v h' hv=>?_⟩
 rcases List.mem_append.1 hv with hv|hv
 ·split at hv
  ·rename_i ho
   rw[List.mem_singleton] at hv
   cases hv
   refine .inl ⟨fun e he=>?_,rfl,rfl⟩
   simp only[overM,List.isEmpty_iff] at ho
   refine Classical.byContradiction fun hc=>?_
   have:e∈(es.filter fun e=>!seen.contains e.2.2).filter fun e=>decide (e.2.2<c):=List.mem_filter.2 ⟨List.mem_filter.2 ⟨he,by simpa using hc⟩,decide_eq_true (hs e he)⟩
   rw[ho] at this
   cases this
  ·cases hv
 ·obtain⟨e,he,q⟩:=List.mem_map.1 hv
  cases q
  have:e∈es∧e.2.2∉seen:=by
   unfold cand at he
   rcases List.mem_append.1 he with he|he
   ·have:=(List.mem_filter.1 he).1
    obtain⟨a,b⟩:=List.mem_filter.1 this
    exact⟨a,by simpa using b⟩
   ·have:=(List.mem_filter.1 he).1
    obtain⟨a,b⟩:=List.mem_filter.1 this
    exact⟨a,by simpa using b⟩
  exact .inr ⟨e,this.1,this.2,rfl,rfl⟩
theorem ent_ok {h:AH}{it mb c:Nat}{es:List (AV×AV×Nat)}{seen:List Nat}{e:AV×AV×Nat} (hi:h.get it=some (.mit (some mb) c (seen++[e.2.2]) c)) (hm:h.get mb=some (.mapo es c)) (hs:(es.map (·.2.2)).Pairwise (·<·)) (he:e∈es) :
 entA h (.ptr it 0)=some (.tup [e.1,e.2.1]):=by
 have hf:es.find? (fun x=>x.2.2==e.2.2)=some e:=by
  clear hm
  induction es with
  | nil=>cases he
  | cons a r ih =>
    rw[List.map_cons,List.pairwise_cons] at hs
    rw[List.find?_cons]
    rcases List.mem_cons.1 he with rfl|he
    ·rw[show (e.2.2==e.2.2)=true from by simp]
    ·have:=hs.1 e.2.2 (List.mem_map_of_mem he)
     rw[show (a.2.2==e.2.2)=false from by rw[beq_eq_false_iff_ne]; omega]
     exact ih hs.2 he
 simp only[entA,hi,hm,List.getLast?_append,List.getLast?_singleton,Option.some_or,if_true,hf,Option.map_some]
theorem rise_ext:∀ {l m:List Nat},l.Pairwise (·<·)→m.Pairwise (·<·)→(∀ x,x∈l↔x∈m)→l=m
 | [],[],_,_,_=>rfl
 | [],y::m,_,_,h=>by have:=(h y).2 (List.mem_cons_self ..); cases this
 | x::l,[],_,_,h=>by have:=(h x).1 (List.mem_cons_self ..); cases this
 | x::l,y::m,h1,h2,h=>by
   obtain⟨a1,a2⟩:=List.pairwise_cons.1 h1
   obtain⟨b1,b2⟩:=List.pairwise_cons.1 h2
   have e:x=y:=by
    have hx:=(h x).1 (List.mem_cons_self ..)
    have hy:=(h y).2 (List.mem_cons_self ..)
    rcases List.mem_cons.1 hx with q|q
    ·exact q
    ·rcases List.mem_cons.1 hy with p|p
     ·exact p.symm
     ·have:=a1 y p; have:=b1 x q; omega
   subst e
   rw[rise_ext a2 b2 fun z=>?_]
   have hz:=h z
   rw[List.mem_cons,List.mem_cons] at hz
   constructor
   ·intro q
    rcases hz.1 (.inr q) with p|p
    ·have:=a1 z q; omega
    ·exact p
   ·intro q
    rcases hz.2 (.inr q) with p|p
    ·have:=b1 z q; omega
    ·exact p
theorem sortN_lt {l:List Nat} (h:l.Nodup):(sortN l).Pairwise (·<·):=by
 have h1:=sortN_le l
 have h2:(sortN l).Nodup:=((sortN_perm l).nodup_iff).2 h
 exact (h1.and h2).imp fun ⟨a,b⟩=>by have b:_≠_:=b; omega
def HeadsOf (g:Gr) (hs:List Nat):Prop:=hs.Pairwise (·<·)∧∀ x,x∈hs↔g.ends x≠[]∧g.deg x≠2
set_option maxHeartbeats 2000000 in
theorem heads_ok {g:Gr}{h0 h:AH}{wb:Nat}{n:Int}{E:List (Int×Int)} (w:Web g h0 wb n E) (hx:Ext h0.next h0 h) {cnt:Nat} (hc:cnt<100) :
 C prg 10 [.ptr wb 0,.int .i64 (cnt:Nat)] h fun r h'=>Ext h.next h h'∧((∃ a hs,r=.tup [a,.bool true]∧IsSl h' 1 h.next a (nC hs)∧HeadsOf g hs∧∀ x∈hs,g.deg x=cnt)∨(r=.tup [.nils,.bool false]∧∃ x,g.ends x≠[]∧g.deg x≠2∧g.deg x≠cnt)):=by
 refine C.func pf10 ?_
 refine W.seq (W.run (by simp only[am,evOp,simprocAttr,initTm]<;>rfl) ?_)
 obtain⟨ev,mb,h1,h2,es,c,ml,lo,h3,h4,h5,h6,h7,h8⟩:=w.cell
 have l1:=AH.lt_of_get h1
 have l3:=AH.lt_of_get h3
 have g1:h.get wb=some (.cells [.int .i64 n,ev,.mp mb] 3 false):=by rw[hx.gt _ l1]; exact h1
 have g3:h.get mb=some (.mapo es c):=by rw[hx.gt _ l3]; exact h3
 have m3:MapL h lo es c ml:=h4.cong fun c _ hc=>hx.gt c hc
 have r2:rdCells h wb 2 1=some [.mp mb]:=rd_at g1 rfl
 have hel:=m3.len
 have hnx:=hx.nx
 have hrg:rgMA h (.mp mb)=some (.ptr h.next 0,h.new (.mit (some mb) c [] c)):=by simp only[rgMA,g3]
 have x1:Ext h.next h (h.new (.mit (some mb) c [] c)):=Ext.new (Nat.le_refl _)
 have gi:(h.new (.mit (some mb) c [] c)).get h.next=some (.mit (some mb) c [] c):=by rw[AH.get_new,if_pos rfl]
 have n1:(h.new (.mit (some mb) c [] c)).next=h.next+1:=rfl
 refine W.seq (W.seq (W.run (by simp only[am,evOp,simprocAttr,initTm,r2,hrg]<;>rfl) ?_))
 generalize h.new (.mit (some mb) c [] c)=hA at *
 have hent:∀ i,(hi:i<es.length)→∃ p,ml[i]?=some p∧es[i].1=.int .i64 ((p.1:Nat):Int)∧IsSl h 1 lo es[i].2.1 (nC (g.ends p.1))∧g.ends p.1≠[]:=fun i hi=>by
  have hml:i<ml.length:=by omega
  refine⟨ml[i],List.getElem?_eq_getElem hml,?_,?_,?_⟩
  ·have q:(es.map (·.1))[i]?=_:=congrArg (·[i]?) m3.keys
   rw[List.getElem?_map,List.getElem?_map,List.getElem?_map,List.getElem?_eq_getElem hi,List.getElem?_eq_getElem hml] at q
   exact Option.some.inj q
  ·have q:=m3.at_ i _ _ (List.getElem?_eq_getElem hi) (List.getElem?_eq_getElem hml)
   rw[← lkL_mem h6 (List.getElem_mem hml),h5] at q
   exact q
  ·rw[← h5,lkL_mem h6 (List.getElem_mem hml)]
   exact h7 _ (List.getElem_mem hml)
 have hstamp:∀ i j,(hi:i<es.length)→(hj:j<es.length)→es[i].2.2=es[j].2.2→i=j:=fun i j hi hj e=>by
  have hp:=m3.st.1
  rcases Nat.lt_trichotomy i j with q|q|q
  ·have:=(List.pairwise_iff_getElem.1 hp) i j (by simpa using hi) (by simpa using hj) q
   rw[List.getElem_map,List.getElem_map] at this
   omega
  ·exact q
  ·have:=(List.pairwise_iff_getElem.1 hp) j i (by simpa using hj) (by simpa using hi) q
   rw[List.getElem_map,List.getElem_map] at this
   omega
 let key:Nat→Nat:=fun i=>(ml.getD i (0,[])).1
 let outL:List Nat→List Nat:=fun ix=>(ix.map key).filter fun x=>!decide (g.deg x=2)
 have hkey:∀ {i:Nat}{p:Nat×List Nat},ml[i]?=some p→key i=p.1:=fun {i p} q=>by
  show (ml.getD i (0,[])).1=p.1
  rw[List.getD_eq_getElem?_getD,q]
  rfl
 have hcdeg:∀ {i:Nat},i<es.length→g.ends (key i)≠[]:=fun {i} hi=>by
  obtain⟨p,q1,_,_,q4⟩:=hent i hi
  rw[hkey q1]
  exact q4
 refine W.cut (fun ts h'=>∃ a ix,ix.Perm (List.range es.length)∧(∀ i∈ix,g.deg (key i)=2∨g.deg (key i)=cnt)∧IsSl h' 1 hA.next a (nC (outL ix))∧Ext h.next h h'∧hA.next≤h'.next∧Held [(4,a)] ts) ?_ ?_
 ·refine W.block (W.loop (fun m ts h'=>∃ a ix,m=es.length-ix.length∧ix.Nodup∧(∀ i∈ix,i<es.length)∧(∀ i∈ix,g.deg (key i)=2∨g.deg (key i)=cnt)∧IsSl h' 1 hA.next a (nC (outL ix))∧Ext h.next h h'∧hA.next≤h'.next ∧
   h'.get h.next=some (.mit (some mb) c (ix.map fun i=>(es.getD i (.nilp,.nilp,0)).2.2) c)∧Held [(0,.ptr wb 0),(1,.int .i64 (cnt:Nat)),(12,.ptr h.next 0),(4,a)] ts) ?_ (n:=es.length)
   ⟨.nils,[],by simp,List.nodup_nil,(fun i hi=>by cases hi),(fun i hi=>by cases hi),.inl ⟨rfl,rfl⟩,x1,Nat.le_refl _,gi,by simp only[hl,am,evOp,simprocAttr,initTm]⟩)
  rintro m ts hB ⟨a,ix,rfl,i1,i2,i3,i4,i5,i6,i7,e0,e1,e12,e4,-⟩
  simp only at e0 e1 e12 e4
  have b3:hB.get mb=some (.mapo es c):=by rw[i5.gt _ (by omega)]; exact g3
  obtain⟨al,q1,q2⟩:=nx_ok i7 b3 m3.st.2
  refine W.seq (W.reg (G.nxM rfl (by rw[ev_t,e12]; exact q1) fun v h' hv=>⟨rfl,?_⟩))
  rcases q2 v h' hv with ⟨p1,rfl,rfl⟩|⟨e,p1,p2,rfl,rfl⟩
  ·
   refine G.run (by simp only[am,evOp,simprocAttr]<;>rfl) ?_
   refine W.seq (W.no (by simp only[am,evOp,simprocAttr]) ?_)
   refine W.exit ⟨fun _=>⟨a,ix,?_,i3,i4,i5,i6,by simp only[hl,am,evOp,simprocAttr,e4]⟩,fun e=>absurd rfl e⟩
   refine Kur.perm_of_sub i1 (fun i hi=>List.mem_range.2 (i2 i hi)) ?_
   rw[List.length_range]
   have:∀ i∈List.range es.length,i∈ix:=fun i hi=>by
    have hi:=List.mem_range.1 hi
    obtain⟨j,hj,e⟩:=List.mem_map.1 (p1 _ (List.getElem_mem hi))
    have hj':=i2 j hj
    rw[List.getD_eq_getElem?_getD,List.getElem?_eq_getElem hj'] at e
    have:=hstamp j i hj' hi e
    rwa [← this]
   have:=Kur.len_le_of_sub List.nodup_range this
   rwa [List.length_range] at this
  ·
   obtain⟨k,hk,rfl⟩:=List.getElem_of_mem p1
   have hkx:k∉ix:=fun q=>p2 (List.mem_map.2 ⟨k,q,by rw[List.getD_eq_getElem?_getD,List.getElem?_eq_getElem hk]; rfl⟩)
   obtain⟨p,v1,v2,v3,v4⟩:=hent k hk
   have u:=Upd.put (o:=.mit (some mb) c ((ix.map fun i=>(es.getD i (.nilp,.nilp,0)).2.2)++[es[k].2.2]) c) i7
   generalize hB.put h.next (.mit (some mb) c ((ix.map fun i=>(es.getD i (.nilp,.nilp,0)).2.2)++[es[k].2.2]) c)=hC at *
   have c3:hC.get mb=some (.mapo es c):=by rw[u.ne (by omega)]; exact b3
   have hentA:=ent_ok u.get c3 m3.st.1 (List.getElem_mem hk)
   have X3:Ext h.next h hC:=i5.trans (u.ext (Nat.le_refl _))
   have nC3:=u.nx
   have sv:IsSl hC 1 lo es[k].2.1 (nC (g.ends p.1)):=v3.ext X3 (Nat.le_refl _)
   have svl:lenLA es[k].2.1=some (.int .i64 ((g.ends p.1).length:Nat)):=by
    have:=(nC_sl sv).len
    rw[List.length_map,List.length_map] at this
    exact this
   have hkp:=hkey v1
   have hmit:(ix.map fun i=>(es.getD i (.nilp,.nilp,0)).2.2)++[es[k].2.2]=(ix++[k]).map fun i=>(es.getD i (.nilp,.nilp,0)).2.2:=by
    rw[List.map_append]
    simp [List.getD_eq_getElem?_getD,List.getElem?_eq_getElem hk]
   rw[hmit] at u
   have hlt:(ix++[k]).length≤es.length:=by
    have:=Kur.len_le_of_sub (l:=ix++[k]) (m:=List.range es.length) (by
     rw[List.nodup_append]
     exact⟨i1,by simp,fun a ha b hb=>by rw[List.mem_singleton] at hb; subst hb; rintro rfl; exact hkx ha⟩) fun i hi=>by
      rw[List.mem_range]
      rcases List.mem_append.1 hi with q|q
      ·exact i2 i q
      ·rw[List.mem_singleton] at q; subst q; exact hk
    rwa [List.length_range] at this
   rw[List.length_append,List.length_cons,List.length_nil] at hlt
   have nd':(ix++[k]).Nodup:=by
    rw[List.nodup_append]
    exact⟨i1,by simp,fun a ha b hb=>by rw[List.mem_singleton] at hb; subst hb; rintro rfl; exact hkx ha⟩
   have in':∀ i∈ix++[k],i<es.length:=fun i hi=>by
    rcases List.mem_append.1 hi with q|q
    ·exact i2 i q
    ·rw[List.mem_singleton] at q; subst q; exact hk
   have i4':IsSl hC 1 hA.next a (nC (outL ix)):=i4.cong fun b m _ hb=>u.ne (by omega)
   refine G.run (by simp only[am,evOp,simprocAttr]<;>rfl) ?_
   refine W.seq (W.yes (by simp only[am,evOp,simprocAttr]) (W.skip ?_))
   refine W.block (W.seq (W.run (by simp only[am,evOp,simprocAttr,e12,hentA]<;>rfl) ?_))
   refine W.seq ?_
   by_cases d2:g.deg p.1=2
   ·have d2':(g.ends p.1).length=2:=d2
    have c1:decide ((((g.ends p.1).length:Nat):Int)=2)=true:=decide_eq_true (by omega)
    refine W.seq (W.run (by simp only[am,evOp,simprocAttr,svl,c1]<;>rfl) ?_)
    refine W.yes (by simp only[am,evOp,simprocAttr]) (W.exit ⟨fun _=>?_,fun e=>absurd rfl e⟩)
    have ho:outL (ix++[k])=outL ix:=by
     show ((ix++[k]).map key).filter _=_
     rw[List.map_append,List.filter_append]
     simp [hkp,d2,outL]
    refine⟨es.length-(ix++[k]).length,by rw[List.length_append,List.length_cons,List.length_nil]; omega,a,ix++[k],rfl,nd',in',fun i hi=>?_,by rw[ho]; exact i4',X3,by omega,u.get,by simp only[hl,am,evOp,simprocAttr,e0,e1,e12,e4]⟩
    rcases List.mem_append.1 hi with q|q
    ·exact i3 i q
    ·rw[List.mem_singleton] at q
     subst q
     rw[hkp]
     exact .inl d2
   ·have d2':¬ (g.ends p.1).length=2:=d2
    have c1:decide ((((g.ends p.1).length:Nat):Int)=2)=false:=decide_eq_false (by omega)
    refine W.seq (W.run (by simp only[am,evOp,simprocAttr,svl,c1]<;>rfl) ?_)
    refine W.no (by simp only[am,evOp,simprocAttr]) (W.skip ?_)
    refine W.seq ?_
    by_cases d4:g.deg p.1=cnt
    ·have d4':(g.ends p.1).length=cnt:=d4
     have c2:decide ((((g.ends p.1).length:Nat):Int)=((cnt:Nat):Int))=true:=decide_eq_true (by omega)
     refine W.seq (W.run (by simp only[am,evOp,simprocAttr,svl,e1,c2]<;>rfl) ?_)
     refine W.no (by simp only[am,evOp,simprocAttr]) (W.skip ?_)
     have hol:(outL ix).length≤ix.length:=Nat.le_trans (List.length_filter_le _ _) (by rw[List.length_map]; exact Nat.le_refl _)
     obtain⟨a',hD,t1,t2,t3,t4⟩:=i4'.push (bytes:=8) [.int .i64 ((p.1:Nat):Int)] (by omega) (by omega) rfl rfl (by rw[nC_len]; unfold tooMany; omega) (by rw[nC_len]; unfold tooMany; omega)
     refine W.run (by simp only[am,evOp,simprocAttr,e4,v2,t1]<;>rfl) ?_
     have ho:outL (ix++[k])=outL ix++[p.1]:=by
      show ((ix++[k]).map key).filter _=_
      rw[List.map_append,List.filter_append]
      simp [hkp,d2,outL]
     refine⟨es.length-(ix++[k]).length,by rw[List.length_append,List.length_cons,List.length_nil]; omega,a',ix++[k],rfl,nd',in',fun i hi=>?_,by rw[ho,nC_app]; exact t2,X3.trans (t3.mono (by omega)),by omega,by rw[t3.gt _ (by omega)]; exact u.get,by simp only[hl,am,evOp,simprocAttr,e0,e1,e12]⟩
     rcases List.mem_append.1 hi with q|q
     ·exact i3 i q
     ·rw[List.mem_singleton] at q
      subst q
      rw[hkp]
      exact .inr d4
    ·have d4':¬ (g.ends p.1).length=cnt:=d4
     have c2:decide ((((g.ends p.1).length:Nat):Int)=((cnt:Nat):Int))=false:=decide_eq_false (by omega)
     refine W.seq (W.run (by simp only[am,evOp,simprocAttr,svl,e1,c2]<;>rfl) ?_)
     refine W.yes (by simp only[am,evOp,simprocAttr]) (W.seq (W.run (by simp only[am,evOp,simprocAttr]<;>rfl) ?_))
     exact W.ret ⟨_,(by simp only[rs,rf10,am,evOp,simprocAttr]<;>rfl),X3,.inr ⟨rfl,p.1,v4,d2,d4⟩⟩
 ·rintro ts hB ⟨a,ix,i1,i2,i3,i4,i5,e4,-⟩
  simp only at e4
  have hol:(outL ix).length≤ix.length:=Nat.le_trans (List.length_filter_le _ _) (by rw[List.length_map]; exact Nat.le_refl _)
  have hxl:=i1.length_eq
  rw[List.length_range] at hxl
  have hs:=sortS_ok i3 (by omega)
  refine W.seq (W.reg (G.gcall 1 (by simp only[am,evOp,simprocAttr,e4]<;>rfl) rfl (by simp only[am,evOp,simprocAttr,e4]) (by simp only[am,evOp,simprocAttr,e4]<;>rfl) (hs) fun r h2 hq=>?_))
  obtain⟨s1,s2,s3,s4⟩:=hq
  refine G.run (by simp only[am,evOp,simprocAttr]<;>rfl) ?_
  have hab:∀ c,c<hA.next→∀ n,a≠.sl c 0 n n:=fun c hc n e=>by
   rcases i3 with ⟨q,_⟩|⟨b,m,hb,q,_⟩
   ·rw[q] at e; cases e
   ·rw[q] at e; cases e; omega
  refine W.seq (W.run (by simp only[am,evOp,simprocAttr,e4]<;>rfl) ?_)
  have hmap:(ix.map key).Perm (ml.map (·.1)):=by
   refine (i1.map key).trans ?_
   rw[hel]
   have:(List.range ml.length).map key=ml.map (·.1):=by
    refine List.ext_getElem? fun i=>?_
    rw[List.getElem?_map,List.getElem?_map]
    by_cases hi:i<ml.length
    ·rw[List.getElem?_range hi,List.getElem?_eq_getElem hi]
     show some (key i)=_
     rw[hkey (List.getElem?_eq_getElem hi)]
     rfl
    ·rw[List.getElem?_eq_none (by simp; omega),List.getElem?_eq_none (by omega)]
     rfl
   rw[this]
  have hnd:(outL ix).Nodup:=((hmap.nodup_iff).2 h6).filter _
  have hmem:∀ x,x∈outL ix↔g.ends x≠[]∧g.deg x≠2:=fun x=>by
   show x∈(ix.map key).filter _↔_
   rw[List.mem_filter,hmap.mem_iff]
   simp only[Bool.not_eq_true',decide_eq_false_iff_not]
   constructor
   ·rintro⟨q1,q2⟩
    obtain⟨p,hp,rfl⟩:=List.mem_map.1 q1
    refine⟨?_,q2⟩
    rw[← h5,lkL_mem h6 hp]
    exact h7 p hp
   ·rintro⟨q1,q2⟩
    refine⟨Classical.byContradiction fun hc=>q1 ?_,q2⟩
    rw[← h5,lkL_none hc]
  refine W.ret ⟨_,(by simp only[rs,rf10,am,evOp,simprocAttr]<;>rfl),⟨by rw[s3]; exact i4.nx,fun c hc=>by rw[s2 c (hab c (by omega))]; exact i4.gt c hc,fun c hc=>by rw[s4]; exact i4.ty c hc⟩,.inl ⟨a,sortN (outL ix),rfl,s1.mono (by omega),⟨sortN_lt hnd,fun x=>?_⟩,fun x hx=>?_⟩⟩
  ·rw[(sortN_perm _).mem_iff]
   exact hmem x
  ·rw[(sortN_perm _).mem_iff] at hx
   have hx2:x∈(ix.map key).filter _:=hx
   obtain⟨q1,q2⟩:=List.mem_filter.1 hx2
   obtain⟨i,hi,rfl⟩:=List.mem_map.1 q1
   rcases i2 i hi with q|q
   ·simp [q] at q2
   ·exact q
end Go.Proofs.YtldkniahgagocaaGreat
