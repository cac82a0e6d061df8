/-
  The search in depth: the room that it takes; one edge more. arborref03.Part: of each vertex the least that hangs together with it, without some. The least edges of blocks, round by round: the plain part. block's search: what it holds in memory.
-/
import Derived.Test.YtpeemonpdlifbaaQTAL
import Derived.Test.YtpeemonpdlifbaaQTAE
import Derived.Test.YtpeemonpdlifbaaQTAD
set_option linter.all false
namespace Go.Blk
variable {g:Gr}{ends:Nat→List Nat}{sort:List Nat→List Nat}
theorem sum_le_of {f f':Nat→Nat}:∀ {l:List Nat},(∀ v∈l,f' v≤f v)→(l.map f').sum≤(l.map f).sum
 | [],_=>Nat.le_refl _
 | a::l,h=>by
   simp only[List.map_cons,List.sum_cons]
   have h1:=sum_le_of (l:=l) fun v hv=>h v (List.mem_cons_of_mem _ hv)
   have h2:=h a (List.mem_cons_self ..)
   omega
theorem sum_add_of {f f':Nat→Nat}{d x:Nat}:∀ {l:List Nat},(∀ v∈l,f' v≤f v)→x∈l→f' x+d≤f x→(l.map f').sum+d≤(l.map f).sum
 | [],_,hx,_=>by cases hx
 | a::l,h,hx,hd=>by
   simp only[List.map_cons,List.sum_cons]
   rcases List.mem_cons.1 hx with rfl|hx
   ·have:=sum_le_of (l:=l) fun v hv=>h v (List.mem_cons_of_mem _ hv)
    omega
   ·have h1:=sum_add_of (l:=l) (fun v hv=>h v (List.mem_cons_of_mem _ hv)) hx hd
    have h2:=h a (List.mem_cons_self ..)
    omega
def wt (g:Gr) (ends:Nat→List Nat) (s:DS):Nat:=((List.range g.n).map fun v=>if s.num v=0 then 1+2*(ends v).length else 0).sum
def pot (g:Gr) (ends:Nat→List Nat) (s:DS):Nat:=s.cnt+s.stk.length+s.blk.length+wt g ends s
theorem enter_met {x:Nat}{s:DS}:∀ v,s.num v≠0→(enter x s).num v≠0:=fun v hv=>by
 show upd s.num x (s.cnt+1) v≠0
 by_cases e:v=x
 ·subst e; rw[upd_same]; omega
 ·rw[upd_ne e]; exact hv
theorem pot_enter {x:Nat}{s:DS} (hx:x<g.n) (h0:s.num x=0):pot g ends (enter x s)+2*(ends x).length≤pot g ends s:=by
 have h1:wt g ends (enter x s)+(1+2*(ends x).length)≤wt g ends s:=by
  refine sum_add_of (x:=x) (fun v _=>?_) (List.mem_range.2 hx) ?_
  ·by_cases e:s.num v=0
   ·rw[if_pos e]
    split<;>omega
   ·rw[if_neg e,if_neg (enter_met v e)]
    exact Nat.le_refl _
  ·have e:(enter x s).num x≠0:=by show upd s.num x (s.cnt+1) x≠0; rw[upd_same]; omega
   rw[if_neg e,if_pos h0]
   omega
 unfold pot
 have h2:(enter x s).cnt=s.cnt+1:=rfl
 have h3:(enter x s).stk=s.stk:=rfl
 have h4:(enter x s).blk=s.blk:=rfl
 rw[h2,h3,h4]
 omega
theorem pot_close {s:DS}{i:Nat}:pot g ends (s.close sort i)≤pot g ends s+1:=by
 have h1:(s.close sort i).stk.length≤s.stk.length:=by
  show (s.stk.take _).length≤_
  rw[List.length_take]; omega
 have h2:(s.close sort i).blk.length=s.blk.length+1:=by
  show (s.blk++[_]).length=_
  simp
 have h3:wt g ends (s.close sort i)=wt g ends s:=rfl
 have h4:(s.close sort i).cnt=s.cnt:=rfl
 unfold pot
 omega
theorem pot_push {s:DS}{i:Nat}:pot g ends { s with stk:=s.stk++[i]}=pot g ends s+1:=by
 unfold pot
 have:wt g ends { s with stk:=s.stk++[i]}=wt g ends s:=rfl
 simp only[this,List.length_append,List.length_cons,List.length_nil]
 omega
theorem pot_edge {vis:Nat→Nat→DS→DS}{x:Nat}{by_:Option Nat}{i:Nat} (hi:g.inc i x) (hv:∀ (y i:Nat) (s:DS),y<g.n→s.num y=0→(∀ v,s.num v≠0→(vis y i s).num v≠0)∧pot g ends (vis y i s)≤pot g ends s) (s:DS) :
 (∀ v,s.num v≠0→(edgeS g sort vis x by_ s i).num v≠0)∧pot g ends (edgeS g sort vis x by_ s i)≤pot g ends s+2:=by
 unfold edgeS
 by_cases hb:by_=some i
 ·rw[if_pos hb]; exact⟨fun v h=>h,by omega⟩
 rw[if_neg hb]
 by_cases hy:s.num (g.oth i x)=0
 ·rw[if_pos hy]
  obtain⟨a,b⟩:=hv (g.oth i x) i { s with stk:=s.stk++[i]} (inc_lt (inc_oth hi).1) hy
  rw[pot_push] at b
  generalize vis (g.oth i x) i { s with stk:=s.stk++[i]}=s2 at *
  simp only
  split
  ·refine⟨fun v h=>a v h,?_⟩
   have:=pot_close (g:=g) (ends:=ends) (sort:=sort) (s:={ s2 with low:=upd s2.low x (min (s2.low x) (s2.low (g.oth i x)))}) (i:=i)
   have e:pot g ends ({ s2 with low:=upd s2.low x (min (s2.low x) (s2.low (g.oth i x)))}:DS)=pot g ends s2:=rfl
   rw[e] at this
   exact Nat.le_trans this (by omega)
  ·refine⟨fun v h=>a v h,?_⟩
   exact Nat.le_trans b (by omega)
 ·rw[if_neg hy]
  split
  ·refine⟨fun v h=>h,?_⟩
   have:pot g ends { s with stk:=s.stk++[i],low:=upd s.low x (min (s.low x) (s.num (g.oth i x)))}=pot g ends s+1:=pot_push (s:={ s with low:=upd s.low x (min (s.low x) (s.num (g.oth i x)))})
   exact Nat.le_trans (Nat.le_of_eq this) (by omega)
  ·exact⟨fun v h=>h,by omega⟩
theorem pot_fold {vis:Nat→Nat→DS→DS}{x:Nat}{by_:Option Nat} (hv:∀ (y i:Nat) (s:DS),y<g.n→s.num y=0→(∀ v,s.num v≠0→(vis y i s).num v≠0)∧pot g ends (vis y i s)≤pot g ends s) :
 ∀ (l:List Nat) (s:DS),(∀ i∈l,g.inc i x)→(∀ v,s.num v≠0→(l.foldl (edgeS g sort vis x by_) s).num v≠0)∧pot g ends (l.foldl (edgeS g sort vis x by_) s)≤pot g ends s+2*l.length
 | [],s,_=>⟨fun v h=>h,by simp⟩
 | i::l,s,hl=>by
   obtain⟨a1,a2⟩:=pot_edge (sort:=sort) (by_:=by_) (hl i (List.mem_cons_self ..)) hv s
   obtain⟨b1,b2⟩:=pot_fold hv l (edgeS g sort vis x by_ s i) fun k hk=>hl k (List.mem_cons_of_mem _ hk)
   refine⟨fun v h=>b1 v (a1 v h),?_⟩
   rw[List.length_cons,List.foldl_cons]
   omega
theorem pot_visit (hends:∀ x,x<g.n→∀ i∈ends x,g.inc i x):∀ (f x:Nat) (by_:Option Nat) (s:DS),x<g.n→s.num x=0→(∀ v,s.num v≠0→(visit g ends sort f x by_ s).num v≠0)∧pot g ends (visit g ends sort f x by_ s)≤pot g ends s
 | 0,_,_,_,_,_=>⟨fun v h=>h,Nat.le_refl _⟩
 | f+1,x,by_,s,hx,h0=>by
   obtain⟨a,b⟩:=pot_fold (sort:=sort) (by_:=by_) (vis:=fun y i s=>visit g ends sort f y (some i) s) (fun y i s hy hs=>pot_visit hends f y (some i) s hy hs) (ends x) (enter x s) (hends x hx)
   have c:=pot_enter (ends:=ends) hx h0
   refine⟨fun v h=>a v (enter_met v h),?_⟩
   show pot g ends ((ends x).foldl (edgeS g sort (fun y i s=>visit g ends sort f y (some i) s) x by_) (enter x s))≤_
   omega
theorem mid_step (hends:∀ x,x<g.n→(ends x).Nodup∧∀ i,i∈ends x↔g.inc i x) (hsort:∀ l,(sort l).Perm l) {f:Nat}{an:List Nat}{x:Nat}{by_:Option Nat}{s:DS} (p:Pre g an x by_ s) (hf:unm g s≤f+1) {L new:List Nat}{s1:DS}{bs:List (List Nat)}{i:Nat}
 (m:Mid g x by_ s L s1 new bs) (hi:g.inc i x) (hiL:i∉L):∃ new' bs',Mid g x by_ s (L++[i]) (edgeS g sort (fun y i s=>visit g ends sort f y (some i) s) x by_ s1 i) new' bs':=by
 have ih:=visit_good hends hsort f
 obtain⟨oi,one,oo⟩:=inc_oth hi
 unfold edgeS
 by_cases hb:by_=some i
 ·rw[if_pos hb]
  refine⟨new,bs,mid_skip m hi ?_ (.inl hb)⟩
  exact m.toCom.met (p.gray _ (p.by1 i hb).2)
 ·rw[if_neg hb]
  by_cases hy:s1.num (g.oth i x)=0
  ·rw[if_pos hy]
   have ps:=sub_pre p m hi hy
   have hlt:unm g { s1 with stk:=s1.stk++[i]}<unm g s:=unm_lt (fun v hv=>m.toCom.met hv) p.hx p.x0 (show s1.num x≠0 by rw[m.numx]; omega)
   obtain⟨new2,bs2,c2⟩:=ih _ _ _ _ ps (by omega)
   exact mid_tree hsort p m hi hiL hb hy c2 rfl
  ·rw[if_neg hy]
   by_cases hlt:s1.num (g.oth i x)<s1.num x
   ·rw[if_pos hlt]
    exact⟨_,_,mid_back p m hi hiL hb hy hlt⟩
   ·rw[if_neg hlt]
    refine⟨new,bs,mid_skip m hi hy (.inr ⟨Decidable.byContradiction fun hc=>?_,hy⟩)⟩
    have h1:=p.le (g.oth i x)
    rw[m.keep _ hc,m.numx] at hlt
    omega
theorem sub_unm {an:List Nat}{x:Nat}{by_:Option Nat}{s s1:DS}{L new:List Nat}{bs:List (List Nat)}{i:Nat} (p:Pre g an x by_ s) (m:Mid g x by_ s L s1 new bs):unm g { s1 with stk:=s1.stk++[i]}<unm g s :=
 unm_lt (fun v hv=>m.toCom.met hv) p.hx p.x0 (show s1.num x≠0 by rw[m.numx]; omega)
end Go.Blk
namespace Go.Proofs.Ytpeemonpdlifbaa
open Go.Am
end Go.Proofs.Ytpeemonpdlifbaa
namespace Go.Proofs.Ytpeemonpdlifbaa
open Go.Blk
def grE (n:Nat) (E:List (Int×Int)) (hE:InG n E) (hl:∀ i,i<E.length→tlE E i≠hdE E i):Gr:=⟨E.length,n,tlE E,hdE E,fun i hi=>⟨(hE i hi).2.1,(hE i hi).2.2,hl i hi⟩⟩
section
variable {n:Nat}{E:List (Int×Int)} (hE:InG n E) (hl:∀ i,i<E.length→tlE E i≠hdE E i)
end
end Go.Proofs.Ytpeemonpdlifbaa
namespace Go.Proofs.Ytpeemonpdlifbaa
open Go.Am
open Go.Blk (Gr DS upd)
def nI (l:List Nat):List Int:=l.map fun i=>((i:Nat):Int)
def nL (l:List Nat):List AV:=l.map fun i=>.int .i64 (i:Nat)
theorem nI_len (l:List Nat):(nI l).length=l.length:=by simp [nI]
theorem nL_nI (l:List Nat):(nI l).flatMap eI=nL l:=by
 induction l with
 | nil=>rfl
 | cons a l ih=>simp only[nI,nL,List.map_cons,List.flatMap_cons] at *; rw[ih]; rfl
theorem nL_app (l m:List Nat):nL (l++m)=nL l++nL m:=by simp [nL]
def Sep (v w:AV):Prop:=∀ b o n c o' n' c',v=.sl b o n c→w≠.sl b o' n' c'
theorem Sep.nill {v:AV}:Sep .nils v:=fun _ _ _ _ _ _ _ e=>by cases e
def Stk (h:AH) (lo:Nat) (v:AV) (l:List Nat):Prop :=
 (v=.nils∧l=[])∨∃ b c cs,lo≤b∧v=.sl b 0 l.length c∧h.get b=some (.cells cs 1 false)∧cs.length=c∧l.length≤c∧cs.take l.length=nL l
theorem Stk.cong {h h':AH}{lo:Nat}{v:AV}{l:List Nat} (hs:Stk h lo v l) (hk:∀ c,lo≤c→(∃ o n k,v=.sl c o n k)→h'.get c=h.get c):Stk h' lo v l:=by
 rcases hs with hs|⟨b,c,cs,h1,h2,h3,h4⟩
 ·exact .inl hs
 ·exact .inr ⟨b,c,cs,h1,h2,by rw[hk b h1 ⟨_,_,_,h2⟩]; exact h3,h4⟩
theorem Stk.lt {h:AH}{lo:Nat}{v:AV}{l:List Nat} (hs:Stk h lo v l) {b o n c:Nat} (e:v=.sl b o n c):b<h.next∧lo≤b:=by
 rcases hs with ⟨rfl,_⟩|⟨b',c',cs,h1,rfl,h3,_⟩
 ·cases e
 ·cases e; exact⟨AH.lt_of_get h3,h1⟩
theorem Stk.cells {h:AH}{lo:Nat}{v:AV}{l:List Nat} (hs:Stk h lo v l):v.cells=[v]∧v.one=true:=by
 rcases hs with ⟨rfl,_⟩|⟨b',c',cs,h1,rfl,h3,_⟩<;>exact⟨rfl,rfl⟩
theorem Stk.sl {h:AH}{lo:Nat}{v:AV}{l:List Nat} (hs:Stk h lo v l):SlI h v (nI l):=by
 rcases hs with ⟨rfl,rfl⟩|⟨b,c,cs,h1,rfl,h3,h4,h5,h6⟩
 ·exact .inl ⟨rfl,.inl rfl⟩
 ·refine .inr ⟨b,0,c,cs,false,by rw[List.length_map,nI_len],h3,by rw[List.length_map,nI_len]; exact h5,by rw[List.length_map,nI_len]; omega,fun i x hi=>?_⟩
  rw[List.getElem?_map] at hi
  obtain⟨y,hy,rfl⟩:=Option.map_eq_some_iff.1 hi
  have hil:i<l.length:=by have:=(List.getElem?_eq_some_iff.1 hy).1; rwa [nI_len] at this
  have e1:(cs.take l.length)[i]?=some (.int .i64 y):=by
   rw[h6]
   unfold nL
   unfold nI at hy
   rw[List.getElem?_map] at hy ⊢
   obtain⟨z,hz,rfl⟩:=Option.map_eq_some_iff.1 hy
   rw[hz]
   rfl
  rw[List.getElem?_take,if_pos hil] at e1
  obtain⟨h7,h8⟩:=List.getElem?_eq_some_iff.1 e1
  refine⟨by omega,?_⟩
  rw[Nat.zero_add,Nat.mul_one,List.drop_eq_getElem_cons h7,h8]
  rfl
theorem Stk.push {h:AH}{lo:Nat}{v:AV}{l:List Nat} (hs:Stk h lo v l) (i:Nat) (hlo:lo≤h.next) (hl:l.length<2 ^ 34) :
 ∃ v' h',appA (h.new (.cells [.int .i64 (i:Nat)] 1 false)) 1 8 v (.sl h.next 0 1 1)=some (v',h')∧Stk h' lo v' (l++[i])∧h.next≤h'.next∧(∀ c,c<h.next→(∀ o n k,v≠.sl c o n k)→h'.get c=h.get c)∧(∀ c,h'.tyOf c=h.tyOf c) ∧
   ∀ w,(∀ b o n c,w=.sl b o n c→b<h.next)→Sep w v→Sep w v':=by
 have hx:(h.new (.cells [.int .i64 (i:Nat)] 1 false)).get h.next=some (.cells [.int .i64 (i:Nat)] 1 false):=by rw[AH.get_new,if_pos rfl]
 have hg:∀ c,c<h.next→(h.new (.cells [.int .i64 (i:Nat)] 1 false)).get c=h.get c:=fun c hc=>by rw[AH.get_new,if_neg (by omega)]
 have hn:(h.new (.cells [.int .i64 (i:Nat)] 1 false)).next=h.next+1:=rfl
 have ht:∀ c,(h.new (.cells [.int .i64 (i:Nat)] 1 false)).tyOf c=h.tyOf c:=fun _=>rfl
 generalize h.new (.cells [.int .i64 (i:Nat)] 1 false)=h1 at *
 have hr:rdCells h1 h.next 0 (1*1)=some [.int .i64 (i:Nat)]:=by rw[rdCells_of hx]; rfl
 have ho:([.int .i64 (i:Nat)]:List AV).all AV.one=true:=rfl
 rcases hs with ⟨rfl,rfl⟩|⟨b,c,cs,k1,rfl,k3,k4,k5,k6⟩
 ·refine⟨.sl h1.next 0 1 1,h1.new (.cells [.int .i64 (i:Nat)] 1 false),?_,.inr ⟨h1.next,1,_,by omega,rfl,by rw[AH.get_new,if_pos rfl],rfl,Nat.le_refl _,rfl⟩,by rw[AH.next_new]; omega,fun c hc _=>by rw[AH.get_new,if_neg (by omega),hg c hc],fun c=>ht c,fun w hw _ b o n c o' n' c' e1 e2=>?_⟩
  ·simp only[appA,srcCells,hr,Option.map_some,ho,if_true,Nat.one_ne_zero,if_false]
   rw[if_pos ⟨by unfold tooMany; omega,by unfold tooMany; omega⟩]
  ·have:=hw b o n c e1
   cases e2
   omega
 ·have hb:=AH.lt_of_get k3
  have k3':h1.get b=some (.cells cs 1 false):=by rw[hg b hb]; exact k3
  by_cases hc:l.length+1≤c
  ·have hw:=wr_at (v:=.int .i64 (i:Nat)) k3' (i:=l.length) (by omega)
   have u:=Upd.put (o:=.cells (cs.set l.length (.int .i64 (i:Nat))) 1 false) k3'
   refine⟨.sl b 0 (l.length+1) c,h1.put b (.cells (cs.set l.length (.int .i64 (i:Nat))) 1 false),?_,.inr ⟨b,c,_,k1,by rw[List.length_append]; rfl,u.get,by rw[List.length_set]; exact k4,by rw[List.length_append]; exact hc,?_⟩,by rw[u.nx]; omega,fun c' hc' hne=>?_,fun c'=>(u.ty c').trans (ht c'),fun w _ hs b1 o n c1 o' n' c' e1 e2=>?_⟩
   ·simp only[appA,srcCells,hr,Option.map_some,ho,if_true,Nat.one_ne_zero,if_false,if_pos hc,Nat.zero_add,Nat.mul_one,hw]
   ·rw[List.length_append,List.length_cons,List.length_nil,nL_app,← k6]
    refine List.ext_getElem? fun j=>?_
    rw[List.getElem?_take,List.getElem?_set,List.getElem?_append,List.length_take,Nat.min_eq_left (by omega),List.getElem?_take]
    by_cases q:j<l.length
    ·rw[if_pos (by omega),if_neg (by omega),if_pos q,if_pos q]
    ·by_cases q2:j=l.length
     ·subst q2
      rw[if_pos (by omega),if_pos rfl,if_pos (by omega),if_neg (by omega),Nat.sub_self]
      rfl
     ·rw[if_neg (by omega),if_neg q,List.getElem?_eq_none (by simp [nL]; omega)]
   ·rw[u.ne (fun e=>hne 0 l.length c (by rw[e])),hg _ hc']
   ·cases e2
    exact hs b o n c1 _ _ _ e1 rfl
  ·have hcl:c=l.length:=by omega
   have hcs:cs=nL l:=by rw[← k6,List.take_of_length_le (by omega)]
   have hr2:rdCells h1 b 0 (l.length*1)=some cs:=by
    rw[rdCells_of k3',if_pos (by omega),List.drop_zero,List.take_of_length_le (by omega)]
   refine⟨.sl h1.next 0 (l.length+1) (l.length+1),(h1.put b .dead).new (.cells (cs++[.int .i64 (i:Nat)]) 1 false),?_,.inr ⟨h1.next,l.length+1,_,by omega,by rw[List.length_append]; rfl,by rw[AH.get_new,AH.next_put,if_pos rfl],by rw[List.length_append,k4,hcl]; rfl,by rw[List.length_append]; exact Nat.le_refl _,?_⟩,by rw[AH.next_new,AH.next_put]; omega,fun c' hc' hne=>?_,fun c'=>ht c',fun w hw _ b1 o n c1 o' n' c' e1 e2=>?_⟩
   ·simp only[appA,srcCells,hr,Option.map_some,ho,if_true,Nat.one_ne_zero,if_false]
    rw[if_neg hc,if_pos ⟨by unfold tooMany; omega,by unfold tooMany; omega⟩,k3',hr2]
    simp only[if_true]
   ·rw[nL_app,← hcs,List.take_of_length_le (by rw[List.length_append,List.length_append,k4,hcl]; exact Nat.le_refl _)]
    rfl
   ·rw[AH.get_new,AH.next_put,if_neg (by omega),AH.get_put _ _ _ _ (by omega),if_neg (fun e=>hne 0 l.length c (by rw[e])),hg _ hc']
   ·have:=hw b1 o n c1 e1
    cases e2
    omega
theorem Stk.cut {h:AH}{lo:Nat}{v:AV}{l:List Nat} (hs:Stk h lo v l) {k:Nat} (hk:k≤l.length) :
 ∃ v',slV h 1 v none (some (.int .i64 (k:Nat))) none=some v'∧Stk h lo v' (l.take k)∧(∀ w,Sep w v→Sep w v')∧∀ c,(∃ o n k,v'=.sl c o n k)→∃ o n k,v=.sl c o n k:=by
 rcases hs with ⟨rfl,rfl⟩|⟨b,c,cs,k1,rfl,k3,k4,k5,k6⟩
 ·have:k=0:=by simpa using hk
  subst this
  exact⟨.nils,rfl,.inl ⟨rfl,rfl⟩,fun _ q=>q,fun _ q=>q⟩
 ·have hb:=bnd_nat (k:=.i64) (show k≤c by omega)
  refine⟨.sl b 0 k c,?_,.inr ⟨b,c,cs,k1,by rw[List.length_take,Nat.min_eq_left hk],k3,k4,by rw[List.length_take]; omega,?_⟩,fun w hs b1 o n c1 o' n' c' e1 e2=>?_,fun c' ⟨o,n,k',e⟩=>?_⟩
  ·simp only[slV,k3,if_true,bnds,hb,Option.map_some,Nat.zero_mul,Nat.add_zero,Nat.sub_zero,ite_self]
  ·rw[List.length_take,Nat.min_eq_left hk]
   have:cs.take k=(cs.take l.length).take k:=by rw[List.take_take,Nat.min_eq_left hk]
   rw[this,k6]
   unfold nL
   rw[List.map_take]
  ·cases e2
   exact hs b o n c1 _ _ _ e1 rfl
  ·cases e
   exact⟨_,_,_,rfl⟩
def endsF (E:List (Int×Int)) (x:Nat):List Nat:=(List.range E.length).filter fun i=>decide (tlE E i=x)||decide (hdE E i=x)
theorem endsF_ok {n:Nat}{E:List (Int×Int)} (hE:InG n E) (hl:∀ i,i<E.length→tlE E i≠hdE E i):∀ x,x<(grE n E hE hl).n→(endsF E x).Nodup∧∀ i,i∈endsF E x↔(grE n E hE hl).inc i x:=fun x _=>by
 refine⟨List.nodup_range.filter _,fun i=>?_⟩
 unfold endsF
 rw[List.mem_filter,List.mem_range,Bool.or_eq_true,decide_eq_true_eq,decide_eq_true_eq]
 rfl
def SS (sp nb lb:Nat) (c:Nat):Prop:=c=sp∨c=nb∨c=lb
structure Sta (h0:AH) (sp eb nb lb n:Nat) (ev:AV) (E:List (Int×Int)):Prop where
 he:SlE h0 ev E
 oe:Off (SS sp nb lb) ev
 ge:∃ es,h0.get eb=some (.cells es 1 false)∧es.length=n∧∀ (x:Nat) (v:AV),es[x]?=some v→SlI h0 v (nI (endsF E x))∧Off (SS sp nb lb) v
 ne:eb≠sp∧eb≠nb∧eb≠lb∧nb≠sp∧nb≠lb∧lb≠sp
 lt:sp<h0.next∧nb<h0.next∧lb<h0.next
structure Ser (h0 h:AH) (sp eb nb lb n:Nat) (ev:AV) (s:DS) (stv blv:AV) (bs:List AV):Prop where
 kp:Kp (SS sp nb lb) h0 h
 cell:h.get sp=some (.cells [.int .i64 (n:Nat),ev,.sl eb 0 n n,.sl nb 0 n n,.sl lb 0 n n,.int .i64 (s.cnt:Nat),stv,blv] 8 false)
 gn:h.get nb=some (.cells (il n fun v=>((s.num v:Nat):Int)) 1 false)
 gl:h.get lb=some (.cells (il n fun v=>((s.low v:Nat):Int)) 1 false)
 st:Stk h h0.next stv s.stk
 bl:IsSl h 1 h0.next blv bs
 rl:bs.length=s.blk.length
 rw:∀ (j:Nat) (v:AV) (l:List Nat),bs[j]?=some v→s.blk[j]?=some l→IsSl h 1 h0.next v (nL l)∧Sep v stv∧Sep v blv
 sb:Sep blv stv
section
variable {h0 h:AH}{sp eb nb lb n:Nat}{ev:AV}{E:List (Int×Int)}{s:DS}{stv blv:AV}{bs:List AV}
theorem Sta.edges (t:Sta h0 sp eb nb lb n ev E) (kp:Kp (SS sp nb lb) h0 h):SlE h ev E:=t.he.kp kp t.oe
theorem Sta.row (t:Sta h0 sp eb nb lb n ev E) (kp:Kp (SS sp nb lb) h0 h) {x:Nat} (hx:x<n):∃ v,rdCells h eb x 1=some [v]∧SlI h v (nI (endsF E x))∧Off (SS sp nb lb) v∧SlI h0 v (nI (endsF E x)):=by
 obtain⟨es,g,l,r⟩:=t.ge
 obtain⟨n1,n2,n3,_⟩:=t.ne
 have hv:es[x]?=some es[x]:=List.getElem?_eq_getElem (by omega)
 obtain⟨r1,r2⟩:=r x _ hv
 have g':h.get eb=some (.cells es 1 false):=by
  rw[kp.gt eb (AH.lt_of_get g) (by rintro (e|e|e); exact n1 e; exact n2 e; exact n3 e)]; exact g
 exact⟨_,rd_at g' hv,r1.kp kp r2,r2,r1⟩
theorem Ser.wr (r:Ser h0 h sp eb nb lb n ev s stv blv bs) {h':AH}{c:Nat}{o:AO} (u:Upd h h' c o) (hc:SS sp nb lb c) (hl:c<h0.next):Kp (SS sp nb lb) h0 h'∧Stk h' h0.next stv s.stk∧IsSl h' 1 h0.next blv bs ∧
 ∀ (j:Nat) (v:AV) (l:List Nat),bs[j]?=some v→s.blk[j]?=some l→IsSl h' 1 h0.next v (nL l)∧Sep v stv∧Sep v blv :=
 ⟨r.kp.trans (u.kp hc) fun _ _ q=>q,r.st.cong fun c' hc' _=>u.ne (by omega),r.bl.upd u (by omega),fun j v l a b=>⟨(r.rw j v l a b).1.upd u (by omega),(r.rw j v l a b).2⟩⟩
theorem Ser.setCnt (t:Sta h0 sp eb nb lb n ev E) (r:Ser h0 h sp eb nb lb n ev s stv blv bs) (k:Nat):∃ h',wrCells h sp 5 [.int .i64 (k:Nat)]=some h'∧Ser h0 h' sp eb nb lb n ev { s with cnt:=k} stv blv bs:=by
 obtain⟨n1,n2,n3,n4,n5,n6⟩:=t.ne
 have w:=wr_at (v:=.int .i64 (k:Nat)) r.cell (i:=5) (by simp)
 change wrCells h sp 5 [.int .i64 (k:Nat)]=some (h.put sp (.cells [.int .i64 (n:Nat),ev,.sl eb 0 n n,.sl nb 0 n n,.sl lb 0 n n,.int .i64 (k:Nat),stv,blv] 8 false)) at w
 have u:=Upd.put (o:=.cells [.int .i64 (n:Nat),ev,.sl eb 0 n n,.sl nb 0 n n,.sl lb 0 n n,.int .i64 (k:Nat),stv,blv] 8 false) r.cell
 obtain⟨a1,a2,a3,a4⟩:=r.wr u (.inl rfl) t.lt.1
 exact⟨_,w,{ kp:=a1,cell:=u.get,gn:=by rw[u.ne n4]; exact r.gn,gl:=by rw[u.ne n6]; exact r.gl,st:=a2,bl:=a3,rl:=r.rl,rw:=a4,sb:=r.sb}⟩
theorem il_upd {f:Nat→Nat}{x k:Nat}:(il n fun v=>((f v:Nat):Int)).set x (.int .i64 (k:Nat))=il n fun v=>((upd f x k v:Nat):Int):=by
 rw[il_set]
 refine il_congr fun i _=>?_
 by_cases e:i=x
 ·subst e; rw[if_pos rfl,Go.Blk.upd_same]
 ·rw[if_neg e,Go.Blk.upd_ne e]
theorem Ser.setNum (t:Sta h0 sp eb nb lb n ev E) (r:Ser h0 h sp eb nb lb n ev s stv blv bs) {x:Nat} (hx:x<n) (k:Nat):∃ h',wrCells h nb x [.int .i64 (k:Nat)]=some h'∧Ser h0 h' sp eb nb lb n ev { s with num:=upd s.num x k} stv blv bs:=by
 obtain⟨n1,n2,n3,n4,n5,n6⟩:=t.ne
 have w:=wr_at (v:=.int .i64 (k:Nat)) r.gn (i:=x) (by rw[il_len]; exact hx)
 rw[il_upd] at w
 have u:=Upd.put (o:=.cells (il n fun v=>((upd s.num x k v:Nat):Int)) 1 false) r.gn
 obtain⟨a1,a2,a3,a4⟩:=r.wr u (.inr (.inl rfl)) t.lt.2.1
 exact⟨_,w,{ kp:=a1,cell:=by rw[u.ne (Ne.symm n4)]; exact r.cell,gn:=u.get,gl:=by rw[u.ne (Ne.symm n5)]; exact r.gl,st:=a2,bl:=a3,rl:=r.rl,rw:=a4,sb:=r.sb}⟩
theorem Ser.setLow (t:Sta h0 sp eb nb lb n ev E) (r:Ser h0 h sp eb nb lb n ev s stv blv bs) {x:Nat} (hx:x<n) (k:Nat):∃ h',wrCells h lb x [.int .i64 (k:Nat)]=some h'∧Ser h0 h' sp eb nb lb n ev { s with low:=upd s.low x k} stv blv bs:=by
 obtain⟨n1,n2,n3,n4,n5,n6⟩:=t.ne
 have w:=wr_at (v:=.int .i64 (k:Nat)) r.gl (i:=x) (by rw[il_len]; exact hx)
 rw[il_upd] at w
 have u:=Upd.put (o:=.cells (il n fun v=>((upd s.low x k v:Nat):Int)) 1 false) r.gl
 obtain⟨a1,a2,a3,a4⟩:=r.wr u (.inr (.inr rfl)) t.lt.2.2
 exact⟨_,w,{ kp:=a1,cell:=by rw[u.ne (Ne.symm n6)]; exact r.cell,gn:=by rw[u.ne n5]; exact r.gn,gl:=u.get,st:=a2,bl:=a3,rl:=r.rl,rw:=a4,sb:=r.sb}⟩
theorem Ser.setStk (t:Sta h0 sp eb nb lb n ev E) (r:Ser h0 h sp eb nb lb n ev s stv blv bs) {h1:AH}{v':AV}{l:List Nat} (hn:h.next≤h1.next) (hk:∀ c,c<h.next→(∀ o n k,stv≠.sl c o n k)→h1.get c=h.get c) (ht:∀ c,h1.tyOf c=h.tyOf c) (hs:Stk h1 h0.next v' l)
 (hsep:∀ w,(∀ b o n c,w=.sl b o n c→b<h.next)→Sep w stv→Sep w v'):∃ h2,wrCells h1 sp 6 [v']=some h2∧Ser h0 h2 sp eb nb lb n ev { s with stk:=l} v' blv bs:=by
 obtain⟨n1,n2,n3,n4,n5,n6⟩:=t.ne
 obtain⟨l1,l2,l3⟩:=t.lt
 have hnx:=r.kp.nx
 have low:∀ c,c<h0.next→h1.get c=h.get c:=fun c hc=>hk c (by omega) fun o n k e=>by have:=(r.st.lt e).2; omega
 have c1:h1.get sp=some (.cells [.int .i64 (n:Nat),ev,.sl eb 0 n n,.sl nb 0 n n,.sl lb 0 n n,.int .i64 (s.cnt:Nat),stv,blv] 8 false):=by rw[low sp l1]; exact r.cell
 have w:=wr_at (v:=v') c1 (i:=6) (by simp)
 change wrCells h1 sp 6 [v']=some (h1.put sp (.cells [.int .i64 (n:Nat),ev,.sl eb 0 n n,.sl nb 0 n n,.sl lb 0 n n,.int .i64 (s.cnt:Nat),v',blv] 8 false)) at w
 have u:=Upd.put (o:=.cells [.int .i64 (n:Nat),ev,.sl eb 0 n n,.sl nb 0 n n,.sl lb 0 n n,.int .i64 (s.cnt:Nat),v',blv] 8 false) c1
 have kp1:Kp (SS sp nb lb) h0 h1:=⟨by omega,fun c hc hn'=>by rw[low c hc]; exact r.kp.gt c hc hn',fun c hc=>(ht c).trans (r.kp.ty c hc)⟩
 have keep:∀ {w cs},IsSl h 1 h0.next w cs→Sep w stv→IsSl h1 1 h0.next w cs:=fun {w cs} q hsw=>q.cong fun b m e hb=>hk b (q.lt e) fun o n' k e2=>hsw b 0 m m o n' k e e2
 refine⟨_,w,{ kp:=kp1.trans (u.kp (.inl rfl)) fun _ _ q=>q,cell:=u.get,gn:=by rw[u.ne n4,low nb l2]; exact r.gn,gl:=by rw[u.ne n6,low lb l3]; exact r.gl,st:=hs.cong fun c hc _=>u.ne (by omega),bl:=(keep r.bl r.sb).upd u (by omega),rl:=r.rl,rw:=fun j v q a b=>?_,sb:=hsep _ (fun b o n' c e=>r.bl.lt e) r.sb}⟩
 obtain⟨a1,a2,a3⟩:=r.rw j v q a b
 exact⟨(keep a1 a2).upd u (by omega),hsep _ (fun b o n' c e=>a1.lt e) a2,a3⟩
theorem Ser.push (t:Sta h0 sp eb nb lb n ev E) (r:Ser h0 h sp eb nb lb n ev s stv blv bs) (i:Nat) (hl:s.stk.length<2 ^ 34) :
 ∃ v' h1 h2,appA (h.new (.cells [.int .i64 (i:Nat)] 1 false)) 1 8 stv (.sl h.next 0 1 1)=some (v',h1)∧v'.cells=[v']∧v'.one=true∧wrCells h1 sp 6 [v']=some h2∧Ser h0 h2 sp eb nb lb n ev { s with stk:=s.stk++[i]} v' blv bs:=by
 obtain⟨v',h1,a1,a2,a3,a4,a5,a6⟩:=r.st.push i r.kp.nx hl
 obtain⟨h2,b1,b2⟩:=r.setStk t a3 a4 a5 a2 a6
 exact⟨v',h1,h2,a1,a2.cells.1,a2.cells.2,b1,b2⟩
end
end Go.Proofs.Ytpeemonpdlifbaa
