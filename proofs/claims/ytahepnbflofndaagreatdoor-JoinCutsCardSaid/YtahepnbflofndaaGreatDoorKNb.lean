/- What hangs together, round by round; the least edges of bloc -/
import Derived.Test.YtahepnbflofndaaGreatDoorKNa
set_option linter.all false
namespace Go.Blk
section
variable (m n:Nat) (tl hd:Nat→Nat) (c:Nat→Bool)
def goE (s:Nat→Bool) (i:Nat):Nat→Bool:=if c i=true∧(s (tl i)=true∨s (hd i)=true) then λv=>decide (v=tl i)||(decide (v=hd i)||s v) else s
def goP (s:Nat→Bool):Nat→Bool:=(List.range m).foldl (goE tl hd c) s
def goN:Nat→(Nat→Bool)→Nat→Bool
 | 0,s=>s
 | k+1,s=>goP m tl hd c (goN k s)
inductive RC:Nat→Nat→Prop
 | refl {u:Nat}:RC u u
 | one {u v i:Nat}:RC u v→i<m→c i=true→tl i=v→RC u (hd i)
 | two {u v i:Nat}:RC u v→i<m→c i=true→hd i=v→RC u (tl i)
end
section
variable {m n:Nat}{tl hd:Nat→Nat}{c:Nat→Bool}
theorem Ho {s:Nat→Bool}{i v:Nat} (h:s v=true):goE tl hd c s i v=true:=by
 unfold goE;split
 ·simp [h]
 ·exact h
theorem xz:∀ (l:List Nat) {s:Nat→Bool}{v:Nat},s v=true→l.foldl (goE tl hd c) s v=true
 | [],_,_,h=>h
 | _::l,_,_,h=>xz l (Ho h)
theorem Bm {s:Nat→Bool}{v:Nat} (h:s v=true):goP m tl hd c s v=true:=xz _ h
theorem CD {f:Nat}:∀ (l:List Nat) {s:Nat→Bool},(∀ i∈l,i<m)→(∀ v,s v=true→RC m tl hd c f v)→∀ v,l.foldl (goE tl hd c) s v=true→RC m tl hd c f v
 | [],_,_,h=>h
 | i::l,s,hl,h=>by
   refine CD l (λk hk=>hl k (List.mem_cons_of_mem _ hk)) λv hv=>?_;unfold goE at hv;split at hv
   ·rename_i hc
    simp only[Bool.or_eq_true,decide_eq_true_eq] at hv;rcases hv with rfl|rfl|hv
    ·rcases hc.2 with q|q
     ·exact h _ q
     ·exact .two (h _ q) (hl i (List.mem_cons_self ..)) hc.1 rfl
    ·rcases hc.2 with q|q
     ·exact .one (h _ q) (hl i (List.mem_cons_self ..)) hc.1 rfl
     ·exact h _ q
    ·exact h v hv
   ·exact h v hv
theorem Bn {f:Nat}{s:Nat→Bool} (h:∀ v,s v=true→RC m tl hd c f v):∀ k v,goN m tl hd c k s v=true→RC m tl hd c f v
 | 0=>h
 | k+1=>CD _ (λi hi=>List.mem_range.1 hi) (Bn h k)
def Shut (m:Nat) (tl hd:Nat→Nat) (c:Nat→Bool) (s:Nat→Bool):Prop:=∀ i,i<m→c i=true→s (tl i)=s (hd i)
theorem vU:∀ (l:List Nat) {s:Nat→Bool},(∀ v,l.foldl (goE tl hd c) s v=true→s v=true)→∀ i∈l,c i=true→s (tl i)=s (hd i)
 | [],_,_,i,hi,_=>by cases hi
 | k::l,s,h,i,hi,hc=>by
   have e1:∀ v,goE tl hd c s k v=s v:=λv=>by
    rw[Bool.eq_iff_iff];exact⟨λhv=>h v (xz l hv),Ho⟩
   rcases List.mem_cons.1 hi with rfl|hi
   ·rw[Bool.eq_iff_iff];constructor
    ·intro q;rw[← e1 (hd i)];unfold goE;rw[if_pos ⟨hc,.inl q⟩];simp
    ·intro q;rw[← e1 (tl i)];unfold goE;rw[if_pos ⟨hc,.inr q⟩];simp
   ·have e2:goE tl hd c s k=s:=funext e1;refine vU l (s:=s) (λv hv=>h v ?_) i hi hc;show l.foldl (goE tl hd c) (goE tl hd c s k) v=true;rw[e2]; exact hv
def cnt (n:Nat) (s:Nat→Bool):Nat:=(List.range n).countP s
theorem cnt_le {s:Nat→Bool}:cnt n s≤n:=Nat.le_trans List.countP_le_length (by simp)
theorem Shut.rc {s:Nat→Bool} (hs:Shut m tl hd c s) {u v:Nat} (h:RC m tl hd c u v) (hu:s u=true):s v=true:=by
 induction h with
 | refl=>exact hu
 | one _ a b e ih=>rw[← hs _ a b,e]; exact ih
 | two _ a b e ih=>rw[hs _ a b,e]; exact ih
theorem zF (ht:∀ i,i<m→tl i<n∧hd i<n) {s:Nat→Bool} (hs:∀ v,s v=true→v<n):∀ k,Shut m tl hd c (goN m tl hd c k s)∨cnt n s+k≤cnt n (goN m tl hd c k s)
 | 0=>.inr (Nat.le_refl _)
 | k+1=>by
   have hin:∀ k v,goN m tl hd c k s v=true→v<n:=by
    intro k;induction k with
    | zero=>exact hs
    | succ k ih =>
      have:∀ (l:List Nat) (s:Nat→Bool),(∀ i∈l,i<m)→(∀ v,s v=true→v<n)→∀ v,l.foldl (goE tl hd c) s v=true→v<n:=by
       intro l;induction l with
       | nil=>intro s _ h; exact h
       | cons i l ihl =>
         intro s hl h;refine ihl _ (λk hk=>hl k (List.mem_cons_of_mem _ hk)) λv hv=>?_;unfold goE at hv;have:=ht i (hl i (List.mem_cons_self ..));split at hv
         ·simp only[Bool.or_eq_true,decide_eq_true_eq] at hv;rcases hv with rfl|rfl|hv
          ·exact this.1
          ·exact this.2
          ·exact h v hv
         ·exact h v hv
      exact this _ _ (λi hi=>List.mem_range.1 hi) ih
   by_cases q:∀ v,goP m tl hd c (goN m tl hd c k s) v=true→goN m tl hd c k s v=true
   ·left;have e:goP m tl hd c (goN m tl hd c k s)=goN m tl hd c k s:=funext λv=>by
     rw[Bool.eq_iff_iff];exact⟨q v,Bm⟩
    show Shut m tl hd c (goP m tl hd c (goN m tl hd c k s));rw[e];exact λi hi hc=>vU _ q i (List.mem_range.2 hi) hc
   ·right;have ⟨v,hv⟩:=Classical.not_forall.1 q;have ⟨h1,h2⟩:=Classical.not_imp.1 hv
    have hlt:cnt n (goN m tl hd c k s)<cnt n (goN m tl hd c (k+1) s) :=
     mI (a:=v) (λx _ hx=>Bm hx) (List.mem_range.2 (hin (k+1) v h1)) (by simpa using h2) h1
    rcases zF ht hs k with h|h
    ·exfalso;apply h2;have:=Bn (m:=m) (tl:=tl) (hd:=hd) (c:=c) (f:=v) (s:=goN m tl hd c k s);have e:∀ (l:List Nat),(∀ i∈l,i<m)→l.foldl (goE tl hd c) (goN m tl hd c k s)=goN m tl hd c k s:=by
      intro l;induction l with
      | nil=>intro _; rfl
      | cons i l ihl =>
        intro hl;have e1:goE tl hd c (goN m tl hd c k s) i=goN m tl hd c k s:=by
         unfold goE;split
         ·rename_i hc
          have hh:=h i (hl i (List.mem_cons_self ..)) hc.1;funext w;rw[Bool.eq_iff_iff];simp only[Bool.or_eq_true,decide_eq_true_eq];constructor
          ·rintro (rfl|rfl|q)
           ·rcases hc.2 with q|q
            ·exact q
            ·rw[hh]; exact q
           ·rcases hc.2 with q|q
            ·rw[← hh]; exact q
            ·exact q
           ·exact q
          ·exact λq=>.inr (.inr q)
         ·rfl
        rw[List.foldl_cons,e1];exact ihl λk hk=>hl k (List.mem_cons_of_mem _ hk)
     have:=e (List.range m) λi hi=>List.mem_range.1 hi;rw[← this];exact h1
    ·omega
theorem go_ok (ht:∀ i,i<m→tl i<n∧hd i<n) {f:Nat} (hf:f<n) (v:Nat):goN m tl hd c n (λv=>decide (v=f)) v=true↔RC m tl hd c f v:=by
 constructor
 ·exact Bn (λv hv=>by rw[of_decide_eq_true hv]; exact .refl) n v
 ·intro h;have hs:Shut m tl hd c (goN m tl hd c n λv=>decide (v=f)):=by
   rcases zF (c:=c) ht (s:=λv=>decide (v=f)) (λv hv=>by rw[of_decide_eq_true hv]; exact hf) n with h|h
   ·exact h
   ·have h1:0<cnt n (λv=>decide (v=f)):=by
     unfold cnt;rw[List.countP_pos_iff];exact⟨f,List.mem_range.2 hf,by simp⟩
    have h2:=cnt_le (n:=n) (s:=goN m tl hd c n λv=>decide (v=f));omega
  refine hs.rc h ?_;have:∀ k,goN m tl hd c k (λv=>decide (v=f)) f=true:=by
   intro k;induction k with
   | zero=>simp [goN]
   | succ k ih=>exact Bm ih
  exact this n
end
variable {g:Gr}
def offB (g:Gr) (x:Nat) (i:Nat):Bool:=!(decide (g.tl i=x))&&!(decide (g.hd i=x))
theorem pT {x i:Nat}:offB g x i=true↔g.tl i≠x∧g.hd i≠x:=by
 unfold offB;simp
theorem HP {x u v:Nat} (hu:u≠x):RC g.m g.tl g.hd (offB g x) u v↔Conn g (·≠x) u v:=by
 constructor
 ·intro h;induction h with
  | refl=>exact .refl hu
  | @one v i h1 h2 h3 h4 ih =>
    obtain⟨a,b⟩:=pT.1 h3;have hi:g.inc i v:=⟨h2,.inl h4⟩
    have e:g.oth i v=g.hd i:=by unfold Gr.oth; omega
    have:=Conn.step ih hi (by rw[e]; exact b);rwa [e] at this
  | @two v i h1 h2 h3 h4 ih =>
    obtain⟨a,b⟩:=pT.1 h3;have hi:g.inc i v:=⟨h2,.inr h4⟩
    have e:g.oth i v=g.tl i:=by unfold Gr.oth; omega
    have:=Conn.step ih hi (by rw[e]; exact a);rwa [e] at this
 ·intro h;induction h with
  | refl _=>exact .refl
  | @step v i h1 h2 h3 ih =>
    have hv:=h1.right;rcases h2.2 with q|q
    ·have e:g.oth i v=g.hd i:=by unfold Gr.oth; omega
     rw[e] at h3 ⊢;exact .one ih h2.1 (pT.2 ⟨by rw[q]; exact hv,h3⟩) q
    ·have e:g.oth i v=g.tl i:=by unfold Gr.oth; omega
     rw[e] at h3 ⊢;exact .two ih h2.1 (pT.2 ⟨h3,by rw[q]; exact hv⟩) q
structure Lst (g:Gr) (l:Nat→Nat):Prop where
 cls:∀ i,i<g.m→Cls g i (l i)
 le:∀ i,i<g.m→l i≤i
 same:∀ i k,i<g.m→k<g.m→Rel g i k→l i=l k
theorem Bz {i k:Nat} (h:Cls g i k) (hi:i<g.m):k<g.m:=by
 induction h with
 | refl=>exact hi
 | step _ r _=>obtain⟨x,_,b,_⟩:=r; exact b.1
theorem Lst.eqc {l:Nat→Nat} (h:Lst g l) {i k:Nat} (hi:i<g.m) (hc:Cls g i k):l i=l k:=by
 induction hc with
 | refl=>rfl
 | step a r ih=>exact ih.trans (h.same _ _ (Bz a hi) (by obtain⟨x,_,b,_⟩:=r; exact b.1) r)
theorem Lst.uniq {l l':Nat→Nat} (h:Lst g l) (h':Lst g l') {i:Nat} (hi:i<g.m):l i=l' i:=by
 have a:l i≤l' i:=by
  rw[h.eqc hi (h'.cls i hi)];exact h.le _ (Bz (h'.cls i hi) hi)
 have b:l' i≤l i:=by
  rw[h'.eqc hi (h.cls i hi)];exact h'.le _ (Bz (h.cls i hi) hi)
 omega
theorem Lst.iff {l:Nat→Nat} (h:Lst g l) {i k:Nat} (hi:i<g.m) (hk:k<g.m):l i=l k↔Cls g i k:=by
 refine⟨λe=>?_,h.eqc hi⟩;have:=(h.cls k hk).symm;rw[← e] at this;exact (h.cls i hi).trans this
def canon (m:Nat) (l:Nat→Nat):List (List Nat):=((List.range m).filter λi=>l i==i).map λi=>(List.range m).filter λk=>l k==i
theorem canon_congr {m:Nat}{l l':Nat→Nat} (h:∀ i,i<m→l i=l' i):canon m l=canon m l':=by
 unfold canon;have e1:((List.range m).filter λi=>l i==i)=(List.range m).filter λi=>l' i==i:=List.filter_congr λi hi=>by rw[h i (List.mem_range.1 hi)]
 rw[e1];refine List.map_congr_left λi _=>?_;exact List.filter_congr λk hk=>by rw[h k (List.mem_range.1 hk)]
variable {g:Gr}
theorem tc:∀ {l m:List Nat},l.Pairwise (·<·)→m.Pairwise (·<·)→(∀ x,x∈l↔x∈m)→l=m
 | [],[],_,_,_=>rfl
 | [],y::m,_,_,h=>by have:=(h y).2 (List.mem_cons_self ..); cases this
 | x::l,[],_,_,h=>by have:=(h x).1 (List.mem_cons_self ..); cases this
 | x::l,y::m,h1,h2,h=>by
   obtain⟨a1,a2⟩:=List.pairwise_cons.1 h1;obtain⟨b1,b2⟩:=List.pairwise_cons.1 h2;have e:x=y:=by
    have hx:=(h x).1 (List.mem_cons_self ..);have hy:=(h y).2 (List.mem_cons_self ..);rcases List.mem_cons.1 hx with q|q
    ·exact q
    ·rcases List.mem_cons.1 hy with p|p
     ·exact p.symm
     ·have:=a1 y p; have:=b1 x q; omega
   subst e;rw[tc a2 b2 λz=>?_];have hz:=h z;rw[List.mem_cons,List.mem_cons] at hz;constructor
   ·intro q;rcases hz.1 (.inr q) with p|p
    ·have:=a1 z q; omega
    ·exact p
   ·intro q;rcases hz.2 (.inr q) with p|p
    ·have:=b1 z q; omega
    ·exact p
theorem th (n:Nat) (p:Nat→Bool):((List.range n).filter p).Pairwise (·<·):=List.pairwise_lt_range.filter _
theorem xU {bs cs:List (List Nat)} (nd:bs.flatten.Nodup) (hb:∀ b∈bs,IsBlock g b) (part:∀ i,i<g.m↔∃ b∈bs,i∈b) (hs:∀ b∈bs,b.Pairwise (·<·)) {l:Nat→Nat} (hl:Lst g l) (hp:cs.Perm bs)
 (ho:cs.Pairwise λa b=>a.headD 0≤b.headD 0):cs=canon g.m l:=by
 have nd':cs.flatten.Nodup:=(hp.flatten.nodup_iff).2 nd;have hm:∀ b,b∈cs↔b∈bs:=λb=>hp.mem_iff;have one:∀ b∈cs,b.headD 0∈b∧b.headD 0<g.m∧l (b.headD 0)=b.headD 0∧b=(List.range g.m).filter λk=>l k==b.headD 0:=by
  intro b hbc;have hbk:=hb b ((hm b).1 hbc);have hsr:=hs b ((hm b).1 hbc);obtain⟨a,r,rfl⟩:∃ a r,b=a::r:=by
   cases b with
   | nil=>exact absurd rfl hbk.1
   | cons a r=>exact⟨a,r,rfl⟩
  have hlt:∀ k∈a::r,k<g.m:=λk hk=>(part k).2 ⟨_,(hm _).1 hbc,hk⟩;have ha:=List.mem_cons_self (a:=a) (l:=r);have hle:∀ k∈a::r,a≤k:=λk hk=>by
   rcases List.mem_cons.1 hk with rfl|hk
   ·exact Nat.le_refl _
   ·exact Nat.le_of_lt ((List.pairwise_cons.1 hsr).1 k hk)
  have hla:l a=a:=by
   have h1:=hl.le a (hlt a ha);have h2:=hle _ (hbk.cls ha (hl.cls a (hlt a ha)));omega
  refine⟨ha,hlt a ha,hla,?_⟩;refine tc hsr (th _ _) λk=>?_;rw[List.mem_filter,List.mem_range,beq_iff_eq];show k∈a::r↔k<g.m∧l k=a;constructor
  ·intro hk;refine⟨hlt k hk,?_⟩;rw[← hla];exact ((hl.iff (hlt k hk) (hlt a ha)).2 (hbk.2.1 k hk a ha))
  ·rintro⟨h1,h2⟩;have:Cls g a k:=(hl.iff (hlt a ha) h1).1 (by rw[hla,h2]);exact hbk.cls ha this
 have heads:(cs.map (·.headD 0))=(List.range g.m).filter λi=>l i==i:=by
  refine tc ?_ (th _ _) λx=>?_
  ·rw[List.pairwise_map];have hd:cs.Pairwise λa b=>a.headD 0≠b.headD 0:=by
    have key:∀ (cs:List (List Nat)),cs.flatten.Nodup→(∀ b∈cs,b.headD 0∈b)→cs.Pairwise λa b=>a.headD 0≠b.headD 0:=by
     intro cs;induction cs with
     | nil=>intro _ _; exact List.Pairwise.nil
     | cons b cs ih =>
       intro hn hh;rw[List.flatten_cons,List.nodup_append] at hn;refine List.pairwise_cons.2 ⟨λc hc e=>?_,ih hn.2.1 λb hb=>hh b (List.mem_cons_of_mem _ hb)⟩;exact hn.2.2 _ (hh b (List.mem_cons_self ..)) _ (List.mem_flatten.2 ⟨c,hc,hh c (List.mem_cons_of_mem _ hc)⟩) e
    exact key cs nd' λb hb=>(one b hb).1
   exact (ho.and hd).imp λh=>by omega
  ·rw[List.mem_map,List.mem_filter,List.mem_range,beq_iff_eq];constructor
   ·rintro⟨b,hb1,rfl⟩;exact⟨(one b hb1).2.1,(one b hb1).2.2.1⟩
   ·rintro⟨h1,h2⟩;obtain⟨b,q1,q2⟩:=(part x).1 h1;have hbc:=(hm b).2 q1;obtain⟨a1,a2,a3,a4⟩:=one b hbc;rw[a4,List.mem_filter,beq_iff_eq] at q2;exact⟨b,hbc,by rw[← q2.2,h2]⟩
 unfold canon;rw[← heads,List.map_map]
 conv=>lhs; rw[← List.map_id cs]
 exact List.map_congr_left λb hb=>(one b hb).2.2.2
variable {g:Gr}{ends:Nat→List Nat}{sort:List Nat→List Nat}
def Srd (sort:List Nat→List Nat) (s:DS):Prop:=∀ b∈s.blk,∃ l,b=sort l
theorem Fo {vis:Nat→Nat→DS→DS}{x:Nat}{by_:Option Nat}{i:Nat} (hv:∀ (y i:Nat) (s:DS),Srd sort s→Srd sort (vis y i s)) (s:DS) (hs:Srd sort s):Srd sort (edgeS g sort vis x by_ s i):=by
 unfold edgeS;split
 ·exact hs
 ·split
  ·have h2:=hv (g.oth i x) i { s with stk:=s.stk++[i]} hs;generalize vis (g.oth i x) i { s with stk:=s.stk++[i]}=s2 at *
   simp only;split
   ·intro b hb;have hb:b∈s2.blk++[sort (s2.stk.drop (s2.stk.idxOf i))]:=hb;rcases List.mem_append.1 hb with hb|hb
    ·exact h2 b hb
    ·exact⟨_,by simpa using hb⟩
   ·exact h2
  ·split
   ·exact hs
   ·exact hs
theorem vf:∀ (f x:Nat) (by_:Option Nat) (s:DS),Srd sort s→Srd sort (visit g ends sort f x by_ s)
 | 0,_,_,_,h=>h
 | f+1,x,by_,s,h=>by
   have key:∀ (l:List Nat) (s:DS),Srd sort s→Srd sort (l.foldl (edgeS g sort (λy i s=>visit g ends sort f y (some i) s) x by_) s):=by
    intro l;induction l with
    | nil=>exact λs h=>h
    | cons i l ih=>exact λs h=>ih _ (Fo (λy i s h=>vf f y (some i) s h) s h)
   exact key (ends x) (enter x s) h
theorem Cd {f:Nat}:∀ k,Srd sort ((List.range k).foldl (from1 g ends sort f) start)
 | 0=>λb hb=>by cases hb
 | k+1=>by
   rw[List.range_succ,List.foldl_append];have h:=Cd (f:=f) k;show Srd sort (from1 g ends sort f ((List.range k).foldl (from1 g ends sort f) start) k);unfold from1;split
   ·exact vf f k none _ h
   ·exact h
theorem Btw.pre {s:DS} (b:Btw g s) {x:Nat} (hx:x<g.n) (h:s.num x=0):Pre g [] x none s :=
 ⟨hx,h,λa ha=>(by cases ha),λv hv _=>b.black v hv,b.le,b.inj,λz _ a ha=>(by cases ha),λc hc=>(by cases hc),λ_=>rfl,λj hj=>by rw[b.stk] at hj; cases hj⟩
theorem pot_start {m:Nat} (h:∀ x,x<g.n→(ends x).length≤m):pot g ends start≤g.n*(1+2*m):=by
 have key:∀ (l:List Nat),(∀ v∈l,v<g.n)→(l.map λv=>if start.num v=0 then 1+2*(ends v).length else 0).sum≤l.length*(1+2*m):=by
  intro l;induction l with
  | nil=>intro _; simp
  | cons a l ih =>
    intro hl;have h1:=ih λv hv=>hl v (List.mem_cons_of_mem _ hv);have h2:=h a (hl a (List.mem_cons_self ..));have h3:start.num a=0:=rfl;rw[List.map_cons,List.sum_cons,if_pos h3,List.length_cons,Nat.add_mul,Nat.one_mul];omega
 have:=key (List.range g.n) λv hv=>List.mem_range.1 hv;rw[List.length_range] at this;unfold pot wt;show 0+0+0+_≤_;omega
theorem btw_all (hends:∀ x,x<g.n→(ends x).Nodup∧∀ i,i∈ends x↔g.inc i x) (hsort:∀ l,(sort l).Perm l):∀ k,k≤g.n→Btw g ((List.range k).foldl (from1 g ends sort g.n) start)∧unm g ((List.range k).foldl (from1 g ends sort g.n) start)≤g.n ∧
 pot g ends ((List.range k).foldl (from1 g ends sort g.n) start)≤pot g ends start
 | 0,_=>⟨wC,yv,Nat.le_refl _⟩
 | k+1,hk=>by
   obtain⟨h1,h2,h3⟩:=btw_all hends hsort k (by omega);rw[List.range_succ,List.foldl_append];obtain⟨a,_,_,d⟩:=Ag hends hsort h1 (show k<g.n by omega) h2;refine⟨a,d,?_⟩;show pot g ends (from1 g ends sort g.n ((List.range k).foldl (from1 g ends sort g.n) start) k)≤_;unfold from1;split
   ·rename_i h0
    exact Nat.le_trans (pot_visit (λx hx i hi=>((hends x hx).2 i).1 hi) g.n k none _ (by omega) h0).2 h3
   ·exact h3
theorem run_canon (hends:∀ x,x<g.n→(ends x).Nodup∧∀ i,i∈ends x↔g.inc i x) (hsort:∀ l,(sort l).Perm l) (hle:∀ l,(sort l).Pairwise (·≤·)) {l:Nat→Nat} (hl:Lst g l) {cs:List (List Nat)} (hp:cs.Perm (runB g ends sort g.n).blk) (ho:cs.Pairwise λa b=>a.headD 0≤b.headD 0):cs=canon g.m l:=by
 obtain⟨nd,hb,part⟩:=runB_ok hends hsort (Nat.le_refl g.n);refine xU nd hb part (λb hbm=>?_) hl hp ho;obtain⟨l',e⟩:=Cd (g:=g) (ends:=ends) (sort:=sort) (f:=g.n) g.n b hbm;have h1:b.Pairwise (·≤·):=by rw[e]; exact hle l'
 have h2:b.Nodup:=nd.sublist (List.sublist_flatten_of_mem hbm);exact (h1.and h2).imp λh=>by omega
theorem GO {P:Nat→Prop}:∀ n,P n→∃ k,P k∧∀ j,P j→k≤j:=by
 intro n;induction n using Nat.strongRecOn with
 | _ n ih =>
   intro hn;by_cases h:∃ j,j<n∧P j
   ·obtain⟨j,h1,h2⟩:=h;exact ih j h1 h2
   ·exact⟨n,hn,λj hj=>Decidable.byContradiction λhc=>h ⟨j,by omega,hj⟩⟩
theorem lst_ex (g:Gr):∃ l,Lst g l:=by
 have h:∀ i,∃ k,Cls g i k∧∀ j,Cls g i j→k≤j:=λi=>GO i .refl;obtain⟨l,hl⟩:=Classical.axiomOfChoice h;refine⟨l,λi _=>(hl i).1,λi _=>(hl i).2 i .refl,λi k _ _ r=>?_⟩;have hc:=Cls.one r;have h1:=(hl i).2 (l k) (hc.trans (hl k).1);have h2:=(hl k).2 (l i) (hc.symm.trans (hl i).1);omega
variable {g:Gr}
theorem sU {r:Nat→Nat} (hr:∀ i,i<g.m→r (g.tl i)<r (g.hd i)) {s:Nat} (hs:∀ v,v<g.n→v≠s→∃ i,i<g.m∧g.hd i=v) {z:Nat}:∀ (k u:Nat),u<g.n→r u≤k→u≠z→(r u≤r z)→(s≠z)→Conn g (·≠z) u s:=by
 intro k;induction k with
 | zero =>
   intro u hu hk hz _ hsz;by_cases e:u=s
   ·subst e; exact .refl hz
   ·obtain⟨i,hi,rfl⟩:=hs u hu e;have:=hr i hi;omega
 | succ k ih =>
   intro u hu hk hz hle hsz;by_cases e:u=s
   ·subst e; exact .refl hz
   ·obtain⟨i,hi,rfl⟩:=hs u hu e;have h1:=hr i hi;have hinc:g.inc i (g.hd i):=⟨hi,.inr rfl⟩
    have ho:g.oth i (g.hd i)=g.tl i:=by unfold Gr.oth; omega
    have hne:g.tl i≠z:=λe=>by rw[e] at h1; omega
    have h2:=Conn.edge (S:=(·≠z)) hz hinc (by rw[ho]; exact hne);rw[ho] at h2;exact h2.trans (ih (g.tl i) (g.ok i hi).1 (by omega) hne (by omega) hsz)
theorem BO {b:List Nat} (hb:IsBlock g b) {v e:Nat} (he:e∈b) (hev:g.inc e v) {k:Nat} (hk:k∈b) {w:Nat} (hw:g.inc k w) (hne:w≠v):∃ e0∈b,g.inc e0 v∧Conn g (·≠v) w (g.oth e0 v):=by
 have hc:=hb.2.1 e he k hk;have key:∀ k,Cls g e k→∀ w,g.inc k w→w≠v→∃ e0∈b,g.inc e0 v∧Conn g (·≠v) w (g.oth e0 v):=by
  intro k hc;induction hc with
  | refl =>
    intro w hw hne;have:w=g.oth e v:=gH hev hw hne;exact⟨e,he,hev,by rw[this]; exact .refl (inc_oth hev).2.1⟩
  | @step j k h1 h2 ih =>
    intro w hw hne;obtain⟨x,a,c,d⟩:=h2;by_cases hx:x=v
    ·subst hx;have:w=g.oth k x:=gH c hw hne;exact⟨k,hb.cls he (.step h1 ⟨x,a,c,d⟩),c,by rw[this]; exact .refl (inc_oth c).2.1⟩
    ·obtain⟨e0,q1,q2,q3⟩:=ih x a hx;by_cases hwx:w=x
     ·subst hwx; exact⟨e0,q1,q2,q3⟩
     ·have:w=g.oth k x:=gH c hw hwx;refine⟨e0,q1,q2,?_⟩;have h3:=(Conn.edge (S:=(·≠v)) hx c (by rw[← this]; exact hne)).symm;rw[← this] at h3;exact h3.trans q3
 exact key k hc w hw hne
theorem oH {r:Nat→Nat} (hr:∀ i,i<g.m→r (g.tl i)<r (g.hd i)) {s:Nat} (hs:∀ v,v<g.n→v≠s→∃ i,i<g.m∧g.hd i=v) {b:List Nat} (hb:IsBlock g b) {v e:Nat} (he:e∈b) (hev:g.inc e v) (hno:∀ i∈b,g.hd i≠v) (hvs:v≠s) {k w:Nat} (hk:k∈b) (hw:g.inc k w) (hne:w≠v) :
 ¬ Conn g (·≠v) w s:=by
 intro hc;obtain⟨e0,q1,q2,q3⟩:=BO hb he hev hk hw hne;obtain⟨f,hf,hfv⟩:=hs v (inc_lt hev) hvs;have hfi:g.inc f v:=⟨hf,.inr hfv⟩
 have ho:g.oth f v=g.tl f:=by unfold Gr.oth; omega
 have h1:=hr f hf;have hne2:g.tl f≠v:=λe=>by rw[e,hfv] at h1; omega
 have h2:Conn g (·≠v) (g.tl f) s:=sU hr hs (r (g.tl f)) (g.tl f) (g.ok f hf).1 (Nat.le_refl _) hne2 (by rw[hfv] at h1; omega) (Ne.symm hvs);have:Rel g e0 f:=⟨v,q2,hfi,by rw[ho]; exact (q3.symm.trans hc).trans h2.symm⟩
 exact hno f (hb.2.2 e0 q1 f this) hfv
theorem one_source {r:Nat→Nat} (hr:∀ i,i<g.m→r (g.tl i)<r (g.hd i)) {s:Nat} (hs:∀ v,v<g.n→v≠s→∃ i,i<g.m∧g.hd i=v) {b:List Nat} (hb:IsBlock g b) {v e:Nat} (he:e∈b) (hev:g.inc e v) (hno:∀ i∈b,g.hd i≠v)
 {v' e':Nat} (he':e'∈b) (hev':g.inc e' v') (hno':∀ i∈b,g.hd i≠v'):v=v':=by
 refine Decidable.byContradiction λhne=>?_;by_cases h1:v=s
 ·have h2:v'≠s:=λe=>hne (h1.trans e.symm);exact oH hr hs hb he' hev' hno' h2 he hev hne (by rw[h1]; exact .refl (Ne.symm h2))
 ·by_cases h2:v'=s
  ·exact oH hr hs hb he hev hno h1 he' hev' (Ne.symm hne) (by rw[h2]; exact .refl (Ne.symm h1))
  ·rcases Nat.le_total (r v) (r v') with h|h
   ·exact oH hr hs hb he' hev' hno' h2 he hev hne (sU hr hs (r v) v (inc_lt hev) (Nat.le_refl _) hne h (Ne.symm h2))
   ·exact oH hr hs hb he hev hno h1 he' hev' (Ne.symm hne) (sU hr hs (r v') v' (inc_lt hev') (Nat.le_refl _) (Ne.symm hne) h (Ne.symm h1))
end Go.Blk
