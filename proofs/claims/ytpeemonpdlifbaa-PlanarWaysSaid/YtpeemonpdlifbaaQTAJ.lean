/-
  Duals of a graph, and of its blocks. Plain words, no program in sight. A search in breadth, as a list of who was met from where; the ways that it gives. Plain words, no program in sight. planar: a builder; an edge's other end.
-/
import Derived.Test.YtpeemonpdlifbaaQTAI
import Derived.Test.YtpeemonpdlifbaaQTAE
set_option linter.all false
namespace Go.Pla
open Go.Blk
variable {g:Gr}{A B:List Nat}{Φ:Type}
theorem par_filter {p:Nat→Bool}{q:Nat→Bool}:∀ {l:List Nat},par (l.filter q) p=par l (fun e=>q e&&p e)
 | []=>rfl
 | e::l=>by
   simp only[par,List.filter_cons]
   cases h:q e
   ·simp [par_filter (l:=l)]
   ·simp [par,par_filter (l:=l)]
theorem par_sub (na:A.Nodup) (nb:B.Nodup) (hs:∀ e∈B,e∈A) {p:Nat→Bool} (hp:∀ e∈A,e∉B→p e=false):par A p=par B p:=by
 have h1:(A.filter fun e=>decide (e∈B)).Perm B:=(List.perm_ext_iff_of_nodup (na.filter _) nb).2 fun e=>by
  simp only[List.mem_filter,decide_eq_true_eq]
  exact⟨fun h=>h.2,fun h=>⟨hs e h,h⟩⟩
 rw[← par_perm h1,par_filter]
 refine par_congr fun e he=>?_
 by_cases h:e∈B
 ·simp [h]
 ·rw[hp e he h]; simp
theorem even_sub (na:A.Nodup) (nb:B.Nodup) (hs:∀ e∈B,e∈A) {X:Nat→Bool} (hp:∀ e∈A,e∉B→X e=false):Even g A X↔Even g B X:=by
 have:∀ v,par A (fun e=>X e&&at_ g e v)=par B (fun e=>X e&&at_ g e v):=fun v=>par_sub na nb hs fun e he h=>by rw[hp e he h]; rfl
 constructor
 ·intro h v; rw[← this]; exact h v
 ·intro h v; rw[this]; exact h v
theorem sub_dual (na:A.Nodup) (nb:B.Nodup) (hs:∀ e∈B,e∈A) {l r:Nat→Φ} (d:Dual g A l r):∃ l' r':Nat→Φ,Dual g B l' r':=by
 obtain⟨c,h1,h2⟩:=repr_ex (fun a b:Φ=>∃ e∈A,e∉B∧l e=a∧r e=b)
 refine⟨fun e=>c (l e),fun e=>c (r e),fun S=>?_,fun X hX=>?_⟩
 ·refine (even_sub na nb hs (X:=fun e=>S (c (l e)) ^^ S (c (r e))) fun e he hb=>?_).1 (d.two (fun a=>S (c a)))
  rw[h1 _ _ ⟨e,he,hb,rfl,rfl⟩]; simp
 ·classical
  have hX':Even g A (fun e=>decide (e∈B)&&X e):=(even_sub na nb hs fun e _ h=>by simp [h]).2 (hX.congr fun e he=>by simp [he])
  obtain⟨S,hS⟩:=d.one _ hX'
  have hc:=h2 S (fun a b ⟨e,he,hb,h3,h4⟩=>by
   have:=hS e he
   rw[h3,h4] at this
   simp only[hb,decide_false,Bool.false_and] at this
   revert this
   cases S a<;>cases S b<;>simp)
  refine⟨S,fun e he=>?_⟩
  have:=hS e (hs e he)
  simp only[he,decide_true,Bool.true_and] at this
  rw[this,hc,hc]
theorem at_inc {e v:Nat} (he:e<g.m):at_ g e v=true↔g.inc e v:=by
 have:=g.ok e he
 unfold at_ Gr.inc
 by_cases a:g.tl e=v
 ·have b:g.hd e≠v:=fun h=>this.2.2 (a.trans h.symm)
  rw[beq_iff_eq.2 a,beq_eq_false_iff_ne.2 b]; simp [a,he]
 ·rw[beq_eq_false_iff_ne.2 a]; simp [a,he]
theorem blk_in {b:List Nat} (hb:IsBlock g b) {v e:Nat} (he:e∈b) (hev:g.inc e v) {k:Nat} (hk:k∈b) {w:Nat} (hw:g.inc k w) (hwv:w≠v):Conn g (·≠v) (g.oth e v) w:=by
 have:=hb.2.1 e he k hk
 clear hk
 induction this generalizing w with
 | refl =>
   rw[inc_two hev hw hwv]
   exact .refl (inc_oth hev).2.1
 | @step j k hc hr ih =>
   obtain⟨x,hjx,hkx,hcon⟩:=hr
   by_cases hxv:x=v
   ·subst hxv
    have h1:=ih (inc_oth hjx).1 (inc_oth hjx).2.1
    rw[inc_two hkx hw hwv]
    exact h1.trans hcon
   ·have h1:=ih hjx hxv
    by_cases hwx:w=x
    ·subst hwx; exact h1
    ·rw[inc_two hkx hw hwx]
     exact .step h1 hkx (by rw[← inc_two hkx hw hwx]; exact hwv)
theorem blk_even {X:Nat→Bool} (hX:Even g (List.range g.m) X) {b:List Nat} (hb:IsBlock g b):Even g (List.range g.m) (fun e=>X e&&decide (e∈b)):=by
 intro v
 by_cases hex:∃ e∈b,e<g.m∧at_ g e v=true
 case neg =>
  refine par_no fun e he=>?_
  cases ha:at_ g e v
  ·simp
  ·have:e∉b:=fun h=>hex ⟨e,h,by simpa using he,ha⟩
   simp [this]
 obtain⟨e,he,hem,hev⟩:=hex
 have hev':=(at_inc hem).1 hev
 classical
 have h1:par (List.range g.n) (fun u=>decide (Conn g (·≠v) (g.oth e v) u)&&par (List.range g.m) (fun j=>X j&&at_ g j u))=false:=par_no fun u _=>by rw[hX u]; simp
 rw[par_congr (q:=fun u=>par (List.range g.m) (fun j=>X j&&(decide (Conn g (·≠v) (g.oth e v) u)&&at_ g j u))) (fun u _=>by
  rw[← par_and]
  exact par_congr fun j _=>by cases X j<;>cases decide (Conn g (·≠v) (g.oth e v) u)<;>rfl),par_swap] at h1
 rw[← h1]
 refine par_congr fun j hj=>?_
 have hjm:j<g.m:=by simpa using hj
 rw[par_and,Bool.and_assoc]
 congr 1
 have hends:par (List.range g.n) (fun u=>decide (Conn g (·≠v) (g.oth e v) u)&&at_ g j u)=(decide (Conn g (·≠v) (g.oth e v) (g.tl j)) ^^ decide (Conn g (·≠v) (g.oth e v) (g.hd j))):=by
  have hok:=g.ok j hjm
  rw[par_congr (q:=fun u=>((u==g.tl j)&&decide (Conn g (·≠v) (g.oth e v) u)) ^^ ((u==g.hd j)&&decide (Conn g (·≠v) (g.oth e v) u))) (fun u _=>by
   unfold at_
   rw[Bool.beq_comm (a:=g.tl j),Bool.beq_comm (a:=g.hd j)]
   cases u==g.tl j<;>cases u==g.hd j<;>cases decide (Conn g (·≠v) (g.oth e v) u)<;>rfl),par_xor,par_one List.nodup_range (by simpa using hok.1),par_one List.nodup_range (by simpa using hok.2.1)]
 rw[hends]
 have hno:¬ Conn g (·≠v) (g.oth e v) v:=fun h=>h.right rfl
 have step:∀ a,g.inc j a→a≠v→g.oth j a≠v→(Conn g (·≠v) (g.oth e v) a↔Conn g (·≠v) (g.oth e v) (g.oth j a)):=fun a ha h1 h2=>by
  constructor
  ·intro h; exact .step h ha h2
  ·intro h
   have h3:=inc_oth ha
   have:=Conn.step h h3.1 (by rw[h3.2.2]; exact h1)
   rwa [h3.2.2] at this
 have iff:∀ a,g.inc j v→a=g.oth j v→(Conn g (·≠v) (g.oth e v) a↔j∈b):=fun a hj ha=>by
  subst ha
  constructor
  ·intro h; exact hb.2.2 e he j ⟨v,hev',hj,h⟩
  ·intro h; exact blk_in hb he hev' h (inc_oth hj).1 (inc_oth hj).2.1
 have it:g.inc j (g.tl j):=⟨hjm,.inl rfl⟩
 have ih:g.inc j (g.hd j):=⟨hjm,.inr rfl⟩
 have ot:g.oth j (g.tl j)=g.hd j:=by unfold Gr.oth; omega
 have oh:g.oth j (g.hd j)=g.tl j:=by unfold Gr.oth; omega
 have hne:=(g.ok j hjm).2.2
 by_cases a:g.tl j=v
 ·have hjv:g.inc j v:=a▸it
  have hat:at_ g j v=true:=(at_inc hjm).2 hjv
  have q:=iff (g.hd j) hjv (by rw[← a]; exact ot.symm)
  rw[hat,a]
  simp only[hno,decide_false,Bool.false_xor,Bool.and_true]
  rw[decide_eq_decide]; exact q.symm
 ·by_cases c:g.hd j=v
  ·have hjv:g.inc j v:=c▸ih
   have hat:at_ g j v=true:=(at_inc hjm).2 hjv
   have q:=iff (g.tl j) hjv (by rw[← c]; exact oh.symm)
   rw[hat,c]
   simp only[hno,decide_false,Bool.xor_false,Bool.and_true]
   rw[decide_eq_decide]; exact q.symm
  ·have hat:at_ g j v=false:=by
    cases h:at_ g j v
    ·rfl
    ·rcases (at_inc hjm).1 h with ⟨_,h|h⟩
     ·exact absurd h a
     ·exact absurd h c
   have q:=step (g.tl j) it a (by rw[ot]; exact c)
   rw[ot] at q
   rw[hat,Bool.and_false,decide_eq_decide.2 q,Bool.xor_self]
theorem conn_way {v u w:Nat} (h:Conn g (·≠v) u w):∃ t,Ch g (List.range g.m) (u::t)∧lst u t=w∧v∉u::t:=by
 induction h with
 | refl h=>exact⟨[],trivial,rfl,by simpa using Ne.symm h⟩
 | @step a i hc hi hn ih =>
   obtain⟨t,h1,h2,h3⟩:=ih
   have key:∀ (t:List Nat) (u:Nat),Ch g (List.range g.m) (u::t)→lst u t=a→Ch g (List.range g.m) (u::(t++[g.oth i a]))∧lst u (t++[g.oth i a])=g.oth i a:=by
    intro t
    induction t with
    | nil =>
      intro u _ hl
      have hl':u=a:=hl
      subst hl'
      refine⟨⟨⟨i,by simpa using hi.1,?_⟩,trivial⟩,rfl⟩
      rw[jn_iff]
      unfold Gr.oth
      rcases hi.2 with h|h
      ·exact .inl ⟨h,by omega⟩
      ·exact .inr ⟨by omega,h⟩
    | cons z t iht =>
      intro u hc hl
      obtain⟨hc1,hc2⟩:=hc
      obtain⟨q1,q2⟩:=iht z hc2 hl
      exact⟨⟨hc1,q1⟩,q2⟩
   obtain⟨q1,q2⟩:=key t u h1 h2
   refine⟨t++[g.oth i a],q1,q2,?_⟩
   intro hm
   rw[← List.cons_append,List.mem_append] at hm
   rcases hm with hm|hm
   ·exact h3 hm
   ·have:v=g.oth i a:=by simpa using hm
    exact hn this.symm
theorem blk_bond (p:Pln g (List.range g.m)) {b:List Nat} (hb:IsBlock g b) (nb:b.Nodup) (hlt:∀ e∈b,e<g.m):Bond g b:=by
 intro v e k he hk hev hkv hne
 have hev':=(at_inc (hlt e he)).1 hev
 have hkv':=(at_inc (hlt k hk)).1 hkv
 have hcon:=blk_in hb he hev' hk (inc_oth hkv').1 (inc_oth hkv').2.1
 obtain⟨t,h1,h2,h3⟩:=conn_way hcon
 have je:jn g e v (g.oth e v)=true:=by
  rw[jn_iff]; unfold Gr.oth
  rcases hev'.2 with h|h
  ·exact .inl ⟨h,by omega⟩
  ·exact .inr ⟨by omega,h⟩
 have jk:jn g k v (g.oth k v)=true:=by
  rw[jn_iff]; unfold Gr.oth
  rcases hkv'.2 with h|h
  ·exact .inl ⟨h,by omega⟩
  ·exact .inr ⟨by omega,h⟩
 have hem:e∈List.range g.m:=by simpa using hlt e he
 have hkm:k∈List.range g.m:=by simpa using hlt k hk
 have hX:Even g (List.range g.m) (fun j=>wk g (g.oth e v::t) j ^^ ((j==e) ^^ (j==k))):=fun u=>by
  rw[par_congr (q:=fun j=>(wk g (g.oth e v::t) j&&at_ g j u) ^^ (((j==e)&&at_ g j u) ^^ ((j==k)&&at_ g j u))) (fun j _=>by
   dsimp only; cases wk g (g.oth e v::t) j<;>cases j==e<;>cases j==k<;>cases at_ g j u<;>rfl),par_xor,par_xor,par_one List.nodup_range hem,par_one List.nodup_range hkm,par_wk p h1,h2,p.jat hem je,p.jat hkm jk]
  cases v==u<;>cases g.oth e v==u<;>cases g.oth k v==u<;>rfl
 refine⟨_,(even_sub List.nodup_range nb (fun e he=>by simpa using hlt e he) (fun e _ h=>by simp [h])).1 (blk_even hX hb),fun j hj hjv=>?_⟩
 rw[wk_off p (by simpa using hlt j hj) hjv h3]
 by_cases q:j=e
 ·subst q; simp [hj,hne]
 ·rw[beq_eq_false_iff_ne.2 q]; simp [hj]
theorem blk_link {b:List Nat} (hb:IsBlock g b) (hlt:∀ e∈b,e<g.m):Link g b:=by
 intro P hP e he k hk
 have:=hb.2.1 e he k hk
 clear hk
 induction this with
 | refl=>rfl
 | @step j k hc hr ih =>
   have hj:=hb.cls he hc
   have hk:=hb.2.2 j hj k hr
   rw[ih]
   obtain⟨x,h1,h2,_⟩:=hr
   exact hP x j k hj hk ((at_inc (hlt j hj)).2 h1) ((at_inc (hlt k hk)).2 h2)
theorem whole_dual {bs:List (List Nat)} (nd:bs.flatten.Nodup) (hb:∀ b∈bs,IsBlock g b) (part:∀ i,i<g.m↔∃ b∈bs,i∈b) (hd:∀ b∈bs,∃ (Φ:Type) (l r:Nat→Φ),Dual g b l r):∃ (Φ:Type) (l r:Nat→Φ),Dual g (List.range g.m) l r:=by
 classical
 have hch:∀ i:Nat,∃ P:FP,∀ b,bs[i]?=some b→Dual g b P.lq P.rq:=fun i=>by
  cases h:bs[i]? with
  | none=>exact⟨⟨Unit,fun _=>(),fun _=>(),fun _=>()⟩,fun b hb=>by cases hb⟩
  | some b =>
    obtain⟨Φ,l,r,d⟩:=hd b (List.mem_of_getElem? h)
    exact⟨⟨Φ,l,r,l⟩,fun b' hb'=>by cases hb'; exact d⟩
 obtain⟨P,hP⟩:∃ P:Nat→FP,∀ i b,bs[i]?=some b→Dual g b (P i).lq (P i).rq:=⟨fun i=>Classical.choose (hch i),fun i=>Classical.choose_spec (hch i)⟩
 have hix:∀ e,∃ i,e<g.m→i<bs.length∧∃ b,bs[i]?=some b∧e∈b:=fun e=>by
  by_cases h:e<g.m
  ·obtain⟨b,hb',heb⟩:=(part e).1 h
   obtain⟨i,hi⟩:=List.mem_iff_getElem?.1 hb'
   exact⟨i,fun _=>⟨(List.getElem?_eq_some_iff.1 hi).1,b,hi,heb⟩⟩
  ·exact⟨0,fun h'=>absurd h' h⟩
 obtain⟨ix,hix⟩:∃ ix:Nat→Nat,∀ e,e<g.m→ix e<bs.length∧∃ b,bs[ix e]?=some b∧e∈b:=⟨fun e=>Classical.choose (hix e),fun e=>Classical.choose_spec (hix e)⟩
 have uniq:∀ {bs:List (List Nat)},bs.flatten.Nodup→∀ {i j:Nat}{b c:List Nat}{e:Nat},bs[i]?=some b→bs[j]?=some c→e∈b→e∈c→i=j:=by
  intro bs
  induction bs with
  | nil=>intro _ i j b c e h; simp at h
  | cons a bs ih =>
    intro nd i j b c e hi hj hb hc
    rw[List.flatten_cons,List.nodup_append] at nd
    cases i with
    | zero =>
      cases j with
      | zero=>rfl
      | succ j =>
        simp only[List.getElem?_cons_zero,Option.some.injEq,List.getElem?_cons_succ] at hi hj
        subst hi
        exact absurd rfl (nd.2.2 e hb e (List.mem_flatten.2 ⟨c,List.mem_of_getElem? hj,hc⟩))
    | succ i =>
      cases j with
      | zero =>
        simp only[List.getElem?_cons_zero,Option.some.injEq,List.getElem?_cons_succ] at hi hj
        subst hj
        exact absurd rfl (nd.2.2 e hc e (List.mem_flatten.2 ⟨b,List.mem_of_getElem? hi,hb⟩))
      | succ j =>
        simp only[List.getElem?_cons_succ] at hi hj
        rw[ih nd.2.1 hi hj hb hc]
 have hnd:∀ (i:Nat) (b:List Nat),bs[i]?=some b→b.Nodup:=fun i b h=>(List.pairwise_flatten.1 nd).1 b (List.mem_of_getElem? h)
 have hsub:∀ i b,bs[i]?=some b→∀ e∈b,e∈List.range g.m:=fun i b h e he=>by
  have:=(part e).2 ⟨b,List.mem_of_getElem? h,he⟩
  simpa using this
 refine⟨(i:Nat)×(P i).Ψ,fun e=>⟨ix e,(P (ix e)).lq e⟩,fun e=>⟨ix e,(P (ix e)).rq e⟩,fun S=>?_,fun X hX=>?_⟩
 ·refine (Even.sum (l:=List.range bs.length) (X:=fun i e=>decide (∃ b,bs[i]?=some b∧e∈b)&&(S ⟨i,(P i).lq e⟩ ^^ S ⟨i,(P i).rq e⟩)) fun i hi=>?_).congr fun e he=>?_
  ·have hi':i<bs.length:=by simpa using hi
   have hb':bs[i]?=some bs[i]:=List.getElem?_eq_getElem hi'
   refine (even_sub List.nodup_range (hnd i _ hb') (hsub i _ hb') fun e _ h=>?_).2 (((hP i _ hb').two fun a=>S ⟨i,a⟩).congr fun e he=>?_)
   ·have:¬ ∃ b,bs[i]?=some b∧e∈b:=fun ⟨b,h1,h2⟩=>by rw[hb'] at h1; cases h1; exact h h2
    simp [this]
   ·have:∃ b,bs[i]?=some b∧e∈b:=⟨_,hb',he⟩
    simp [this]
  ·have hem:e<g.m:=by simpa using he
   obtain⟨h1,b,h2,h3⟩:=hix e hem
   rw[par_congr (q:=fun i=>(i==ix e)&&(S ⟨i,(P i).lq e⟩ ^^ S ⟨i,(P i).rq e⟩)) (fun i _=>by
    by_cases q:i=ix e
    ·subst q
     have:∃ b,bs[ix e]?=some b∧e∈b:=⟨b,h2,h3⟩
     simp [this]
    ·have:¬ ∃ b,bs[i]?=some b∧e∈b:=fun ⟨c,h4,h5⟩=>q (uniq nd h4 h2 h5 h3)
     simp [this,q]),par_one (p:=fun i=>(S ⟨i,(P i).lq e⟩ ^^ S ⟨i,(P i).rq e⟩)) List.nodup_range (by simpa using h1)]
 ·have hS:∀ i,∃ S:(P i).Ψ→Bool,∀ b,bs[i]?=some b→∀ e∈b,X e=(S ((P i).lq e) ^^ S ((P i).rq e)):=fun i=>by
   cases h:bs[i]? with
   | none=>exact⟨fun _=>false,fun b hb=>by cases hb⟩
   | some b =>
     have h1:=blk_even hX (hb b (List.mem_of_getElem? h))
     have h2:=(even_sub List.nodup_range (hnd i b h) (hsub i b h) (fun e _ h=>by simp [h])).1 h1
     obtain⟨S,hS⟩:=(hP i b h).one X (h2.congr fun e he=>by simp [he])
     exact⟨S,fun b' hb'=>by cases hb'; exact hS⟩
  obtain⟨S,hS⟩:∃ S:∀ i,(P i).Ψ→Bool,∀ i b,bs[i]?=some b→∀ e∈b,X e=(S i ((P i).lq e) ^^ S i ((P i).rq e)):=⟨fun i=>Classical.choose (hS i),fun i=>Classical.choose_spec (hS i)⟩
  refine⟨fun a=>S a.1 a.2,fun e he=>?_⟩
  obtain⟨_,b,h2,h3⟩:=hix e (by simpa using he)
  exact hS (ix e) b h2 e h3
end Go.Pla
namespace Go.Pla
open Go.Blk
variable (g:Gr) (Bl:List Nat) (laid thr:Nat→Bool)
abbrev LQ:=List (Nat×Nat)×List Nat
def ks (L:List (Nat×Nat)):List Nat:=L.map (·.1)
def goes (x:Nat) (L:List (Nat×Nat)) (i:Nat):Bool:=at_ g i x&&(!((ks L).contains (g.oth i x))&&!(laid i))
def stepE (x:Nat) (s:LQ) (i:Nat):LQ:=if goes g laid x s.1 i=true then (s.1++[(g.oth i x,x)],if thr (g.oth i x)=true then s.2++[g.oth i x] else s.2) else s
def full:Nat→LQ→List (Nat×Nat)
 | 0,s=>s.1
 | f+1,s=>match s.2 with
   | []=>s.1
   | x::Q=>full f (Bl.foldl (stepE g laid thr x) (s.1,Q))
variable {g Bl laid thr}
structure Met (g:Gr) (Bl:List Nat) (laid thr:Nat→Bool) (r:Nat) (L:List (Nat×Nat)):Prop where
 root:∃ T,L=(r,r)::T
 nd:(ks L).Nodup
 par:∀ A y x C,L=A++(y,x)::C→A≠[]→x∈ks A∧(x=r∨thr x=true)∧∃ i∈Bl,jn g i x y=true∧laid i=false
theorem ks_app {A B:List (Nat×Nat)}:ks (A++B)=ks A++ks B:=List.map_append
theorem Met.push {r:Nat}{L:List (Nat×Nat)} (m:Met g Bl laid thr r L) {x i:Nat} (hB:∀ i∈Bl,i<g.m) (hi:i∈Bl) (hx:x∈ks L) (hxr:x=r∨thr x=true) (hg:goes g laid x L i=true):Met g Bl laid thr r (L++[(g.oth i x,x)]):=by
 unfold goes at hg
 simp only[Bool.and_eq_true,Bool.not_eq_true',List.contains_eq_mem,decide_eq_false_iff_not] at hg
 obtain⟨h1,h2,h3⟩:=hg
 have hinc:=(at_inc (hB i hi)).1 h1
 obtain⟨T,hT⟩:=m.root
 refine⟨⟨T++[(g.oth i x,x)],by rw[hT]; rfl⟩,?_,fun A y z C h hA=>?_⟩
 ·rw[ks_app,List.nodup_append]
  refine⟨m.nd,by simp [ks],fun a ha b hb=>?_⟩
  have:b=g.oth i x:=by simpa [ks] using hb
  subst this
  exact fun e=>h2 (e▸ha)
 ·rcases List.eq_nil_or_concat C with rfl|⟨C,q,rfl⟩
  ·obtain⟨e1,e2⟩:=List.append_inj' h rfl
   injection e2 with e2
   injection e2 with e2 e3
   subst e1 e2 e3
   refine⟨hx,hxr,i,hi,?_,h3⟩
   rw[jn_iff]; unfold Gr.oth
   rcases hinc.2 with q|q
   ·exact .inl ⟨q,by omega⟩
   ·exact .inr ⟨by omega,q⟩
  ·rw[List.concat_eq_append] at h
   have h':L++[(g.oth i x,x)]=(A++(y,z)::C)++[q]:=by rw[h]; simp
   obtain⟨e1,_⟩:=List.append_inj' h' rfl
   exact m.par A y z C e1 hA
structure Srch (g:Gr) (Bl:List Nat) (laid thr:Nat→Bool) (r:Nat) (s:LQ) (cu:Option (Nat×List Nat)):Prop where
 met:Met g Bl laid thr r s.1
 que:∀ z∈s.2,z∈ks s.1∧(z=r∨thr z=true)
 cur:∀ x is,cu=some (x,is)→x∈ks s.1∧(x=r∨thr x=true)∧∀ i∈Bl,i∉is→at_ g i x=true→laid i=false→g.oth i x∈ks s.1
 done:∀ z∈ks s.1,(z=r∨thr z=true)→z∈s.2∨(∃ is,cu=some (z,is))∨∀ i∈Bl,at_ g i z=true→laid i=false→g.oth i z∈ks s.1
theorem Srch.start {r:Nat}:Srch g Bl laid thr r ([(r,r)],[r]) none where
 met:=⟨⟨[],rfl⟩,by simp [ks],fun A y x C h hA=>by
  cases A with
  | nil=>exact absurd rfl hA
  | cons a A =>
    have:=congrArg List.length h
    simp at this⟩
 que:=fun z hz=>by
  have:z=r:=by simpa using hz
  subst this; simp [ks]
 cur:=fun x is h=>by cases h
 done:=fun z hz _=>.inl (by simpa [ks] using hz)
theorem Srch.pop {r x:Nat}{L:List (Nat×Nat)}{Q:List Nat} (s:Srch g Bl laid thr r (L,x::Q) none):Srch g Bl laid thr r (L,Q) (some (x,Bl)) where
 met:=s.met
 que:=fun z hz=>s.que z (List.mem_cons_of_mem _ hz)
 cur:=fun y is h=>by
  injection h with h; injection h with h1 h2; subst h1 h2
  have:=s.que x (by simp)
  exact⟨this.1,this.2,fun i hi hn=>absurd hi hn⟩
 done:=fun z hz hr=>by
  rcases s.done z hz hr with h|⟨is,h⟩|h
  ·rcases List.mem_cons.1 h with rfl|h
   ·exact .inr (.inl ⟨Bl,rfl⟩)
   ·exact .inl h
  ·cases h
  ·exact .inr (.inr h)
theorem Srch.step {r x i:Nat}{is:List Nat}{s:LQ} (h:Srch g Bl laid thr r s (some (x,i::is))) (hB:∀ i∈Bl,i<g.m) (hi:i∈Bl):Srch g Bl laid thr r (stepE g laid thr x s i) (some (x,is)):=by
 obtain⟨c1,c2,c3⟩:=h.cur x _ rfl
 by_cases hg:goes g laid x s.1 i=true
 ·rw[stepE,if_pos hg]
  have mp:=h.met.push hB hi c1 c2 hg
  have hk:∀ z,z∈ks s.1→z∈ks (s.1++[(g.oth i x,x)]):=fun z hz=>by rw[ks_app]; exact List.mem_append_left _ hz
  have hn:g.oth i x∈ks (s.1++[(g.oth i x,x)]):=by rw[ks_app]; simp [ks]
  have hq2:∀ z,z∈s.2→z∈(if thr (g.oth i x)=true then s.2++[g.oth i x] else s.2):=fun z hz=>by
   split
   ·exact List.mem_append_left _ hz
   ·exact hz
  refine⟨mp,fun z hz=>?_,fun y js e=>?_,fun z hz hr=>?_⟩
  ·dsimp only at hz ⊢
   by_cases ht:thr (g.oth i x)=true
   ·rw[if_pos ht] at hz
    rcases List.mem_append.1 hz with hz|hz
    ·exact⟨hk z (h.que z hz).1,(h.que z hz).2⟩
    ·have:z=g.oth i x:=by simpa using hz
     subst this; exact⟨hn,.inr ht⟩
   ·rw[if_neg ht] at hz
    exact⟨hk z (h.que z hz).1,(h.que z hz).2⟩
  ·injection e with e; injection e with e1 e2; subst e1 e2
   refine⟨hk _ c1,c2,fun j hj hjn ha hl=>?_⟩
   by_cases hji:j=i
   ·subst hji; exact hn
   ·exact hk _ (c3 j hj (by simp [hji,hjn]) ha hl)
  ·dsimp only at hz ⊢
   rw[ks_app] at hz
   rcases List.mem_append.1 hz with hz|hz
   ·rcases h.done z hz hr with h1|⟨js,h1⟩|h1
    ·exact .inl (hq2 z h1)
    ·injection h1 with h1; injection h1 with h1 _; subst h1
     exact .inr (.inl ⟨is,rfl⟩)
    ·exact .inr (.inr fun j hj ha hl=>hk _ (h1 j hj ha hl))
   ·have:z=g.oth i x:=by simpa [ks] using hz
    subst this
    rcases hr with hr|hr
    ·obtain⟨T,hT⟩:=h.met.root
     unfold goes at hg
     simp only[Bool.and_eq_true,Bool.not_eq_true',List.contains_eq_mem,decide_eq_false_iff_not] at hg
     exact absurd (by rw[hr,hT]; simp [ks]) hg.2.1
    ·exact .inl (by rw[if_pos hr]; simp)
 ·rw[stepE,if_neg hg]
  refine⟨h.met,h.que,fun y js e=>?_,fun z hz hr=>?_⟩
  ·injection e with e; injection e with e1 e2; subst e1 e2
   refine⟨c1,c2,fun j hj hjn ha hl=>?_⟩
   by_cases hji:j=i
   ·subst hji
    unfold goes at hg
    rw[ha,hl] at hg
    simpa using hg
   ·exact c3 j hj (by simp [hji,hjn]) ha hl
  ·rcases h.done z hz hr with h1|⟨js,h1⟩|h1
   ·exact .inl h1
   ·injection h1 with h1; injection h1 with h1 _; subst h1
    exact .inr (.inl ⟨is,rfl⟩)
   ·exact .inr (.inr h1)
theorem Srch.end {r x:Nat}{s:LQ} (h:Srch g Bl laid thr r s (some (x,[]))):Srch g Bl laid thr r s none where
 met:=h.met
 que:=h.que
 cur:=fun _ _ e=>by cases e
 done:=fun z hz hr=>by
  rcases h.done z hz hr with h1|⟨js,h1⟩|h1
  ·exact .inl h1
  ·injection h1 with h1; injection h1 with h1 h2; subst h1 h2
   exact .inr (.inr fun i hi=>(h.cur x [] rfl).2.2 i hi (by simp))
  ·exact .inr (.inr h1)
def trr:List (Nat×Nat)→Nat→List Nat
 | [],_=>[]
 | (z,x)::A,y=>if z=y then (if A=[] then [y] else trr A x++[y]) else trr A y
def tr (L:List (Nat×Nat)) (y:Nat):List Nat:=trr L.reverse y
theorem trr_app {y:Nat}:∀ {B A:List (Nat×Nat)},y∉ks B→trr (B++A) y=trr A y
 | [],_,_=>rfl
 | (z,x)::B,A,h=>by
   have h1:z≠y:=fun e=>h (by simp [ks,e])
   have h2:y∉ks B:=fun e=>h (by simp only[ks,List.map_cons,List.mem_cons] at e ⊢; exact .inr e)
   rw[List.cons_append,trr,if_neg h1,trr_app h2]
theorem tr_app {A B:List (Nat×Nat)} (nd:(ks (A++B)).Nodup) {y:Nat} (h:y∈ks A):tr (A++B) y=tr A y:=by
 unfold tr
 rw[List.reverse_append]
 refine trr_app fun hb=>?_
 rw[ks_app,List.nodup_append] at nd
 have:y∈ks B:=by simpa [ks] using hb
 exact nd.2.2 y h y this rfl
theorem Met.pre {r:Nat}{A C:List (Nat×Nat)} (m:Met g Bl laid thr r (A++C)) (hA:A≠[]):Met g Bl laid thr r A:=by
 obtain⟨T,hT⟩:=m.root
 refine⟨?_,?_,fun X y x Y h hX=>m.par X y x (Y++C) (by rw[h]; simp) hX⟩
 ·cases A with
  | nil=>exact absurd rfl hA
  | cons a A=>rw[List.cons_append] at hT; injection hT with h1 _; exact⟨A,by rw[h1]⟩
 ·have:=m.nd
  rw[ks_app,List.nodup_append] at this
  exact this.1
theorem tr_root {r:Nat}{L:List (Nat×Nat)} (m:Met g Bl laid thr r L):tr L r=[r]:=by
 obtain⟨T,hT⟩:=m.root
 rw[hT,show (r,r)::T=[(r,r)]++T by rfl,tr_app (by rw[← show (r,r)::T=[(r,r)]++T from rfl,← hT]; exact m.nd) (by simp [ks])]
 simp [tr,trr]
theorem tr_last {A:List (Nat×Nat)}{y x:Nat} (hA:A≠[]):tr (A++[(y,x)]) y=tr A x++[y]:=by
 unfold tr
 rw[List.reverse_append]
 simp [trr,hA]
theorem trr_len:∀ (L:List (Nat×Nat)) (y:Nat),(trr L y).length≤L.length
 | [],_=>by simp [trr]
 | (z,x)::A,y=>by
   have h1:=trr_len A x
   have h2:=trr_len A y
   rw[trr]
   split
   ·split
    ·simp
    ·simp; omega
   ·simp; omega
theorem tr_len (L:List (Nat×Nat)) (y:Nat):(tr L y).length≤L.length:=by
 have:=trr_len L.reverse y
 simpa [tr] using this
theorem tr_ok {r:Nat}:∀ (n:Nat) {L:List (Nat×Nat)},L.length≤n→Met g Bl laid thr r L→∀ y∈ks L,∃ t,tr L y=r::t∧lst r t=y∧(r::t).Nodup∧Ch g (Bl.filter fun i=>!(laid i)) (r::t)∧∀ z∈r::t,z∈ks L∧(z=r∨thr z=true∨z=y)
 | 0,L,hn,m=>by
   obtain⟨T,hT⟩:=m.root
   rw[hT] at hn; simp at hn
 | n+1,L,hn,m=>by
   intro y hy
   rcases List.eq_nil_or_concat L with h|⟨A,⟨z,x⟩,h⟩
   ·rw[h] at hy; simp [ks] at hy
   rw[List.concat_eq_append] at h
   subst h
   by_cases hA:A=[]
   ·subst hA
    obtain⟨T,hT⟩:=m.root
    have hyr:y=r:=by
     rw[hT] at hy
     rw[List.nil_append] at hT
     injection hT with h1 h2
     subst h2
     simpa [ks] using hy
    subst hyr
    refine⟨[],tr_root m,rfl,by simp,trivial,fun z hz=>?_⟩
    have:z=y:=by simpa using hz
    subst this; exact⟨hy,.inl rfl⟩
   ·have mA:=m.pre hA
    by_cases hyA:y∈ks A
    ·obtain⟨t,h1,h2,h3,h4,h5⟩:=tr_ok n (by simp at hn; omega) mA y hyA
     refine⟨t,(tr_app m.nd hyA).trans h1,h2,h3,h4,fun z hz=>?_⟩
     exact⟨by rw[ks_app]; exact List.mem_append_left _ (h5 z hz).1,(h5 z hz).2⟩
    ·have hyz:y=z:=by
      rw[ks_app,List.mem_append] at hy
      rcases hy with hy|hy
      ·exact absurd hy hyA
      ·simpa [ks] using hy
     subst hyz
     obtain⟨hx,hxr,i,hi,hj,hli⟩:=m.par A y x [] rfl hA
     obtain⟨t,h1,h2,h3,h4,h5⟩:=tr_ok n (by simp at hn; omega) mA x hx
     have hyt:y∉r::t:=fun h=>hyA (h5 y h).1
     have key:∀ (t:List Nat) (u:Nat),Ch g (Bl.filter fun i=>!(laid i)) (u::t)→lst u t=x→Ch g (Bl.filter fun i=>!(laid i)) (u::(t++[y]))∧lst u (t++[y])=y:=by
      intro t
      induction t with
      | nil =>
        intro u _ hl
        have hl':u=x:=hl
        subst hl'
        exact⟨⟨⟨i,by simp [hi,hli],hj⟩,trivial⟩,rfl⟩
      | cons w t iht =>
        intro u hc hl
        obtain⟨q1,q2⟩:=iht w hc.2 hl
        exact⟨⟨hc.1,q1⟩,q2⟩
     obtain⟨k1,k2⟩:=key t r h4 h2
     refine⟨t++[y],by rw[tr_last hA,h1]; rfl,k2,?_,k1,fun w hw=>?_⟩
     ·rw[← List.cons_append,List.nodup_append]
      exact⟨h3,by simp,fun a ha b hb=>by
       have:b=y:=by simpa using hb
       subst this; exact fun e=>hyt (e▸ha)⟩
     ·rw[← List.cons_append,List.mem_append] at hw
      rcases hw with hw|hw
      ·obtain⟨q1,q2⟩:=h5 w hw
       refine⟨by rw[ks_app]; exact List.mem_append_left _ q1,?_⟩
       rcases q2 with q|q|q
       ·exact .inl q
       ·exact .inr (.inl q)
       ·subst q; rcases hxr with q|q
        ·exact .inl q
        ·exact .inr (.inl q)
      ·have:w=y:=by simpa using hw
       subst this
       exact⟨hy,.inr (.inr rfl)⟩
end Go.Pla
namespace Go.Proofs.Ytpeemonpdlifbaa
open Go.Am
structure Bu (h:AH) (bb n:Nat) (ev edv:AV) (E:List (Int×Int)) (Bl:List Nat) (la pa:Nat) (H V:Nat→Bool) (fav:AV):Prop where
 o:h.get bb=some (.cells [.int .i64 (n:Nat),ev,edv,.sl la 0 E.length E.length,.sl pa 0 n n,fav] 6 false)
 e:SlE h ev E
 b:SlN h edv Bl
 l:h.get la=some (.cells (bl E.length H) 1 false)
 v:h.get pa=some (.cells (bl n V) 1 false)
 d:bb≠la∧bb≠pa∧la≠pa
 oe:Off (fun c=>c=la∨c=pa∨c=bb) ev
 ob:Off (fun c=>c=la∨c=pa∨c=bb) edv
theorem Bu.ext {h h':AH}{bb n k:Nat}{ev edv:AV}{E:List (Int×Int)}{Bl:List Nat}{la pa:Nat}{H V:Nat→Bool}{fav:AV} (u:Bu h bb n ev edv E Bl la pa H V fav) (x:Ext k h h') (hk:h.next≤k):Bu h' bb n ev edv E Bl la pa H V fav where
 o:=by rw[x.gt _ (Nat.lt_of_lt_of_le (AH.lt_of_get u.o) hk)]; exact u.o
 e:=u.e.ext x hk
 b:=u.b.ext x hk
 l:=by rw[x.gt _ (Nat.lt_of_lt_of_le (AH.lt_of_get u.l) hk)]; exact u.l
 v:=by rw[x.gt _ (Nat.lt_of_lt_of_le (AH.lt_of_get u.v) hk)]; exact u.v
 d:=u.d
 oe:=u.oe
 ob:=u.ob
theorem Bu.kp {h h':AH}{bb n:Nat}{ev edv:AV}{E:List (Int×Int)}{Bl:List Nat}{la pa:Nat}{H V:Nat→Bool}{fav:AV} (u:Bu h bb n ev edv E Bl la pa H V fav) {S:Nat→Prop} (k:Kp S h h') (hb:¬ S bb) (hl:¬ S la) (hp:¬ S pa) (he:Off S ev) (hd:Off S edv):Bu h' bb n ev edv E Bl la pa H V fav where
 o:=by rw[k.gt _ (AH.lt_of_get u.o) hb]; exact u.o
 e:=u.e.kp k he
 b:=u.b.kp k hd
 l:=by rw[k.gt _ (AH.lt_of_get u.l) hl]; exact u.l
 v:=by rw[k.gt _ (AH.lt_of_get u.v) hp]; exact u.v
 d:=u.d
 oe:=u.oe
 ob:=u.ob
theorem off_imp {S T:Nat→Prop}{v:AV} (h:Off S v) (hs:∀ c,T c→S c):Off T v:=by
 cases v<;>first|trivial|exact fun q=>h (hs _ q)
theorem Bu.putV {h:AH}{bb n:Nat}{ev edv:AV}{E:List (Int×Int)}{Bl:List Nat}{la pa:Nat}{H V:Nat→Bool}{fav:AV} (u:Bu h bb n ev edv E Bl la pa H V fav) {x:Nat} (hx:x<n) :
 ∃ h',wrCells h pa x [.bool true]=some h'∧Bu h' bb n ev edv E Bl la pa H (fun j=>if j=x then true else V j) fav∧Upd h h' pa (.cells (bl n fun j=>if j=x then true else V j) 1 false):=by
 have w:=wr_at (v:=.bool true) u.v (i:=x) (by rw[bl_len]; exact hx)
 rw[bl_set] at w
 have uu:=Upd.put (o:=.cells (bl n fun j=>if j=x then true else V j) 1 false) u.v
 have k:=uu.kp (S:=fun c=>c=pa) rfl
 refine⟨_,w,⟨?_,u.e.kp k (off_imp u.oe fun c h=>.inr (.inl h)),u.b.kp k (off_imp u.ob fun c h=>.inr (.inl h)),?_,uu.get,u.d,u.oe,u.ob⟩,uu⟩
 ·rw[uu.ne (u.d.2.1)]; exact u.o
 ·rw[uu.ne (u.d.2.2)]; exact u.l
theorem Bu.putH {h:AH}{bb n:Nat}{ev edv:AV}{E:List (Int×Int)}{Bl:List Nat}{la pa:Nat}{H V:Nat→Bool}{fav:AV} (u:Bu h bb n ev edv E Bl la pa H V fav) {x:Nat} (hx:x<E.length) :
 ∃ h',wrCells h la x [.bool true]=some h'∧Bu h' bb n ev edv E Bl la pa (fun j=>if j=x then true else H j) V fav∧Upd h h' la (.cells (bl E.length fun j=>if j=x then true else H j) 1 false):=by
 have w:=wr_at (v:=.bool true) u.l (i:=x) (by rw[bl_len]; exact hx)
 rw[bl_set] at w
 have uu:=Upd.put (o:=.cells (bl E.length fun j=>if j=x then true else H j) 1 false) u.l
 have k:=uu.kp (S:=fun c=>c=la) rfl
 refine⟨_,w,⟨?_,u.e.kp k (off_imp u.oe fun c h=>.inl h),u.b.kp k (off_imp u.ob fun c h=>.inl h),uu.get,?_,u.d,u.oe,u.ob⟩,uu⟩
 ·rw[uu.ne (u.d.1)]; exact u.o
 ·rw[uu.ne (Ne.symm u.d.2.2)]; exact u.v
def incB (E:List (Int×Int)) (i x:Nat):Bool:=decide (tlE E i=x)||decide (hdE E i=x)
def othZ (E:List (Int×Int)) (i x:Nat):Int:=((tlE E i:Nat):Int)+((hdE E i:Nat):Int)-((x:Nat):Int)
theorem pbother_ok {h:AH}{bb n:Nat}{ev edv:AV}{E:List (Int×Int)}{Bl:List Nat}{la pa:Nat}{H V:Nat→Bool}{fav:AV} (u:Bu h bb n ev edv E Bl la pa H V fav) (hE:InG n E) (hn:n<2 ^ 40) {i x:Nat} (hi:i<E.length) (hx:x<n) :
 C prg 62 [.ptr bb 0,.int .i64 (i:Nat),.int .i64 (x:Nat)] h fun v h'=>v=.tup [.int .i64 (othZ E i x),.bool (incB E i x)]∧Ext h.next h h':=by
 refine C.func pf62 ?_
 obtain⟨q1,q2,q3⟩:=hE i hi
 obtain⟨b,p,a,rr,_,_⟩:=u.e.at (map_at (f:=eE) hi)
 rw[q1] at rr
 have rse:rdCells h bb 1 1=some [ev]:=rd_at u.o rfl
 have w1:IntKind.i64.wrap (((tlE E i:Nat):Int)+((hdE E i:Nat):Int))=((tlE E i:Nat):Int)+((hdE E i:Nat):Int):=wr64 (by omega) (by omega)
 have w2:IntKind.i64.wrap (((tlE E i:Nat):Int)+((hdE E i:Nat):Int)-((x:Nat):Int))=othZ E i x:=wr64 (by omega) (by omega)
 obtain⟨h3,w3,x3,g3,n3⟩:=mk_loc (h:=h) (z:=[.int .i64 0,.int .i64 0]) (cs:=[.int .i64 (tlE E i:Nat),.int .i64 (hdE E i:Nat)]) (e:=2) rfl
 refine W.seq (W.run (by simp only[am,evOp,simprocAttr,initTm]<;>rfl) ?_)
 refine W.seq (W.run (by simp only[am,evOp,simprocAttr,initTm,rse,a,rr,eE,w3]<;>rfl) ?_)
 have ra:rdCells h3 h.next 0 1=some [.int .i64 (tlE E i:Nat)]:=rd_at g3 rfl
 have rb:rdCells h3 h.next 1 1=some [.int .i64 (hdE E i:Nat)]:=rd_at g3 rfl
 have d1:decide (((tlE E i:Nat):Int)=((x:Nat):Int))=decide (tlE E i=x):=by rw[decide_eq_decide]; omega
 have d2:decide (((hdE E i:Nat):Int)=((x:Nat):Int))=decide (hdE E i=x):=by rw[decide_eq_decide]; omega
 have ib:incB E i x=(decide (tlE E i=x)||decide (hdE E i=x)):=rfl
 by_cases ht:tlE E i=x
 ·rw[decide_eq_true ht] at d1 ib
  refine W.seq (W.runs (fun ts h'=>h'=h3∧tget ts 6=.int .i64 (othZ E i x)∧tget ts 7=.bool (incB E i x)) (by simp only[am,evOp,simprocAttr,initTm,ra,rb,w1,w2,d1,ib,Bool.true_or]) ?_)
  rintro ts h4 ⟨rfl,e6,e7⟩
  exact W.ret ⟨.tup [.int .i64 (othZ E i x),.bool (incB E i x)],(by simp only[rs,rf62,am,evOp,simprocAttr,e6,e7]<;>rfl),rfl,x3⟩
 ·rw[decide_eq_false ht] at d1 ib
  refine W.seq (W.runs (fun ts h'=>h'=h3∧tget ts 6=.int .i64 (othZ E i x)∧tget ts 7=.bool (incB E i x)) (by simp only[am,evOp,simprocAttr,initTm,ra,rb,w1,w2,d1,d2,ib,Bool.false_or]) ?_)
  rintro ts h4 ⟨rfl,e6,e7⟩
  exact W.ret ⟨.tup [.int .i64 (othZ E i x),.bool (incB E i x)],(by simp only[rs,rf62,am,evOp,simprocAttr,e6,e7]<;>rfl),rfl,x3⟩
end Go.Proofs.Ytpeemonpdlifbaa
