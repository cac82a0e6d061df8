/-
  The search in depth: what it comes to. The search in depth: an edge to a vertex that isn't met. The search in depth, whole: each edge is in one block.
-/
import Derived.Test.YtpeemonpdlifbaaQTAE
set_option linter.all false
namespace Go.Blk
variable {g:Gr}
def Nw (s s':DS) (v:Nat):Prop:=s.num v=0∧s'.num v≠0
structure Pre (g:Gr) (an:List Nat) (x:Nat) (by_:Option Nat) (s:DS):Prop where
 hx:x<g.n
 x0:s.num x=0
 gray:∀ a∈an,s.num a≠0
 black:∀ v,s.num v≠0→v∉an→∀ i,g.inc i v→s.num (g.oth i v)≠0
 le:∀ v,s.num v≤s.cnt
 inj:∀ u v,s.num u=s.num v→s.num u≠0→u=v
 chain:∀ z,z∉an→∀ a∈an,∀ b∈an,Conn g (·≠z) a b
 by1:∀ b,by_=some b→g.inc b x∧g.oth b x∈an
 by0:by_=none→an=[]
 stk:∀ j∈s.stk,some j≠by_→∀ v,g.inc j v→s.num v≠0
structure Com (g:Gr) (x:Nat) (by_:Option Nat) (s s':DS) (new:List Nat) (bs:List (List Nat)):Prop where
 keep:∀ v,s.num v≠0→s'.num v=s.num v
 numx:s'.num x=s.cnt+1
 newn:∀ v,Nw s s' v→s.cnt<s'.num v
 cnt:s.cnt<s'.cnt
 le:∀ v,s'.num v≤s'.cnt
 inj:∀ u v,s'.num u=s'.num v→s'.num u≠0→u=v
 conn:∀ u,Nw s s' u→Conn g (Nw s s') x u
 lowk:∀ v,¬ Nw s s' v→s'.low v=s.low v
 lowle:s'.low x≤s'.num x
 lowpos:0<s'.low x
 stk:s'.stk=s.stk++new
 blk:s'.blk=s.blk++bs
 nd:(new++bs.flatten).Nodup
 cls:∀ i∈new,∃ b,by_=some b∧Cls g i b
 blks:∀ b∈bs,IsBlock g b
structure Post (g:Gr) (x:Nat) (by_:Option Nat) (s s':DS) (new:List Nat) (bs:List (List Nat)):Prop extends Com g x by_ s s' new bs where
 black:∀ u,Nw s s' u→∀ i,g.inc i u→s'.num (g.oth i u)≠0
 lowa:∀ u i,Nw s s' u→g.inc i u→some i≠by_→¬ Nw s s' (g.oth i u)→s'.low x≤s'.num (g.oth i u)
 lowb:s'.low x=s'.num x∨∃ u i,Nw s s' u∧g.inc i u∧some i≠by_∧¬ Nw s s' (g.oth i u)∧s'.num (g.oth i u)=s'.low x
 part:∀ i,(i∈new∨∃ b∈bs,i∈b)↔some i≠by_∧∃ u,Nw s s' u∧g.inc i u
structure Mid (g:Gr) (x:Nat) (by_:Option Nat) (s:DS) (L:List Nat) (s':DS) (new:List Nat) (bs:List (List Nat)):Prop extends Com g x by_ s s' new bs where
 blackT:∀ u,Nw s s' u→u≠x→∀ i,g.inc i u→s'.num (g.oth i u)≠0
 blackx:∀ i∈L,s'.num (g.oth i x)≠0
 lowa:∀ u i,Nw s s' u→g.inc i u→(u≠x∨i∈L)→some i≠by_→¬ Nw s s' (g.oth i u)→s'.low x≤s'.num (g.oth i u)
 lowb:s'.low x=s'.num x∨∃ u i,Nw s s' u∧g.inc i u∧some i≠by_∧¬ Nw s s' (g.oth i u)∧s'.num (g.oth i u)=s'.low x
 part:∀ i,(i∈new∨∃ b∈bs,i∈b)↔some i≠by_∧((∃ u,Nw s s' u∧u≠x∧g.inc i u)∨(g.inc i x∧i∈L))
def Good (g:Gr) (vis:Nat→Option Nat→DS→DS) (f:Nat):Prop :=
 ∀ an x by_ s,Pre g an x by_ s→unm g s≤f→∃ new bs,Post g x by_ s (vis x by_ s) new bs
theorem Com.nx {x:Nat}{by_:Option Nat}{s s':DS}{new:List Nat}{bs:List (List Nat)} (c:Com g x by_ s s' new bs) (h0:s.num x=0):Nw s s' x:=⟨h0,by rw[c.numx]; omega⟩
theorem Com.met {x:Nat}{by_:Option Nat}{s s':DS}{new:List Nat}{bs:List (List Nat)} (c:Com g x by_ s s' new bs) {v:Nat} (h:s.num v≠0):s'.num v≠0:=by rw[c.keep v h]; exact h
theorem Com.old {x:Nat}{by_:Option Nat}{s s':DS}{new:List Nat}{bs:List (List Nat)} (c:Com g x by_ s s' new bs) {v:Nat} (h1:s'.num v≠0) (h2:¬ Nw s s' v):s.num v≠0:=fun h=>h2 ⟨h,h1⟩
theorem mid0 {an:List Nat}{x:Nat}{by_:Option Nat}{s:DS} (p:Pre g an x by_ s):Mid g x by_ s [] (enter x s) [] []:=by
 have hnw:∀ v,Nw s (enter x s) v↔v=x:=fun v=>by
  unfold Nw enter
  simp only
  constructor
  ·rintro⟨h1,h2⟩
   exact Decidable.byContradiction fun hc=>h2 (by rw[upd_ne hc]; exact h1)
  ·rintro rfl
   exact⟨p.x0,by rw[upd_same]; omega⟩
 have keep:∀ v,v≠x→(enter x s).num v=s.num v:=fun v hv=>upd_ne hv
 have nx:(enter x s).num x=s.cnt+1:=upd_same
 refine { keep:=fun v hv=>keep v fun e=>hv (e▸p.x0),numx:=nx,newn:=fun v hv=>?_,cnt:=Nat.lt_succ_self _,le:=fun v=>?_,inj:=fun u v h1 h2=>?_,conn:=fun u hu=>?_,lowk:=fun v hv=>?_,lowle:=?_,lowpos:=?_,stk:=(List.append_nil _).symm,blk:=(List.append_nil _).symm,nd:=(by simp),cls:=fun i hi=>(by cases hi),blks:=fun b hb=>(by cases hb),blackT:=fun u hu hne=>absurd ((hnw u).1 hu) hne,blackx:=fun i hi=>(by cases hi),lowa:=fun u i hu _ h=>?_,lowb:=.inl ?_,part:=fun i=>?_}
 ·rw[(hnw v).1 hv,nx]; omega
 ·by_cases e:v=x
  ·subst e; rw[nx]; exact Nat.le_refl _
  ·rw[keep v e]; exact Nat.le_succ_of_le (p.le v)
 ·by_cases e:u=x
  ·subst e
   by_cases e2:v=u
   ·exact e2.symm
   ·rw[nx,keep v e2] at h1
    have:=p.le v
    omega
  ·by_cases e2:v=x
   ·subst e2
    rw[nx,keep u e] at h1
    have:=p.le u
    omega
   ·rw[keep u e,keep v e2] at h1
    rw[keep u e] at h2
    exact p.inj u v h1 h2
 ·rw[(hnw u).1 hu]
  exact .refl ((hnw x).2 rfl)
 ·exact upd_ne fun e=>hv ((hnw v).2 e)
 ·show upd s.low x (s.cnt+1) x≤upd s.num x (s.cnt+1) x
  rw[upd_same,upd_same]; exact Nat.le_refl _
 ·show 0<upd s.low x (s.cnt+1) x
  rw[upd_same]; omega
 ·rcases h with h|h
  ·exact absurd ((hnw u).1 hu) h
  ·cases h
 ·show upd s.low x (s.cnt+1) x=upd s.num x (s.cnt+1) x
  rw[upd_same,upd_same]
 ·constructor
  ·rintro (h|⟨b,h,_⟩)<;>cases h
  ·rintro⟨_,⟨u,h1,h2,_⟩|⟨_,h⟩⟩
   ·exact absurd ((hnw u).1 h1) h2
   ·cases h
theorem Mid.post {x:Nat}{by_:Option Nat}{s s':DS}{L new:List Nat}{bs:List (List Nat)} (m:Mid g x by_ s L s' new bs) (h0:s.num x=0) (hL:∀ i,i∈L↔g.inc i x):Post g x by_ s s' new bs:=by
 refine { toCom:=m.toCom,black:=fun u hu i hi=>?_,lowa:=fun u i hu hi=>?_,lowb:=m.lowb,part:=fun i=>?_}
 ·by_cases e:u=x
  ·subst e; exact m.blackx i ((hL i).2 hi)
  ·exact m.blackT u hu e i hi
 ·refine m.lowa u i hu hi ?_
  by_cases e:u=x
  ·subst e; exact .inr ((hL i).2 hi)
  ·exact .inl e
 ·rw[m.part i]
  constructor
  ·rintro⟨h1,⟨u,a,_,b⟩|⟨a,_⟩⟩
   ·exact⟨h1,u,a,b⟩
   ·exact⟨h1,x,m.toCom.nx h0,a⟩
  ·rintro⟨h1,u,a,b⟩
   by_cases e:u=x
   ·subst e; exact⟨h1,.inr ⟨b,(hL i).2 b⟩⟩
   ·exact⟨h1,.inl ⟨u,a,e,b⟩⟩
theorem mid_skip {x:Nat}{by_:Option Nat}{s s':DS}{L new:List Nat}{bs:List (List Nat)}{i:Nat} (m:Mid g x by_ s L s' new bs) (hi:g.inc i x) (hv:s'.num (g.oth i x)≠0) (hc:by_=some i∨(Nw s s' (g.oth i x))):Mid g x by_ s (L++[i]) s' new bs:=by
 refine { toCom:=m.toCom,blackT:=m.blackT,blackx:=fun k hk=>?_,lowa:=fun u k hu hk h hb hn=>?_,lowb:=m.lowb,part:=fun k=>?_}
 ·rcases List.mem_append.1 hk with hk|hk
  ·exact m.blackx k hk
  ·simp only[List.mem_cons,List.not_mem_nil,or_false] at hk
   subst hk; exact hv
 ·by_cases e:u=x
  ·subst e
   by_cases hkL:k∈L
   ·exact m.lowa u k hu hk (.inr hkL) hb hn
   ·rcases h with h|h
    ·exact absurd rfl h
    ·rcases List.mem_append.1 h with h|h
     ·exact absurd h hkL
     ·simp only[List.mem_cons,List.not_mem_nil,or_false] at h
      subst h
      rcases hc with hc|hc
      ·exact absurd hc.symm hb
      ·exact absurd hc hn
  ·exact m.lowa u k hu hk (.inl e) hb hn
 ·rw[m.part k]
  constructor
  ·rintro⟨h1,h|⟨a,b⟩⟩
   ·exact⟨h1,.inl h⟩
   ·exact⟨h1,.inr ⟨a,List.mem_append_left _ b⟩⟩
  ·rintro⟨h1,h|⟨a,b⟩⟩
   ·exact⟨h1,.inl h⟩
   ·rcases List.mem_append.1 b with b|b
    ·exact⟨h1,.inr ⟨a,b⟩⟩
    ·simp only[List.mem_cons,List.not_mem_nil,or_false] at b
     subst b
     rcases hc with hc|hc
     ·exact absurd hc.symm h1
     ·exact⟨h1,.inl ⟨_,hc,(inc_oth hi).2.1,(inc_oth hi).1⟩⟩
theorem mid_back {an:List Nat}{x:Nat}{by_:Option Nat}{s s':DS}{L new:List Nat}{bs:List (List Nat)}{i:Nat} (p:Pre g an x by_ s) (m:Mid g x by_ s L s' new bs) (hi:g.inc i x) (hiL:i∉L) (hb:by_≠some i) (hv:s'.num (g.oth i x)≠0) (hlt:s'.num (g.oth i x)<s'.num x) :
 Mid g x by_ s (L++[i]) { s' with stk:=s'.stk++[i],low:=upd s'.low x (min (s'.low x) (s'.num (g.oth i x)))} (new++[i]) bs:=by
 obtain⟨oi,one,oo⟩:=inc_oth hi
 have hnw:¬ Nw s s' (g.oth i x):=fun h=>by
  have:=m.newn _ h
  rw[m.numx] at hlt
  omega
 have hold:=m.toCom.old hv hnw
 have han:g.oth i x∈an:=Decidable.byContradiction fun hc=>by
  have:=p.black _ hold hc i oi
  rw[oo] at this
  exact this p.x0
 obtain⟨b,rfl⟩:∃ b,by_=some b:=by
  cases by_ with
  | none=>rw[p.by0 rfl] at han; cases han
  | some b=>exact⟨b,rfl⟩
 obtain⟨b1,b2⟩:=p.by1 b rfl
 have hxan:x∉an:=fun h=>p.gray x h p.x0
 have hrel:Rel g i b:=⟨x,hi,b1,p.chain x hxan _ han _ b2⟩
 have hni:i∉new∧∀ b∈bs,i∉b:=by
  have:=m.part i
  have hno:¬ (some i≠some b∧((∃ u,Nw s s' u∧u≠x∧g.inc i u)∨(g.inc i x∧i∈L))):=by
   rintro⟨_,⟨u,a,c,d⟩|⟨_,d⟩⟩
   ·have:=inc_two hi d c
    subst this
    exact hnw a
   ·exact hiL d
  rw[← this] at hno
  exact⟨fun h=>hno (.inl h),fun b hb h=>hno (.inr ⟨b,hb,h⟩)⟩
 have hlow:∀ v,v≠x→(upd s'.low x (min (s'.low x) (s'.num (g.oth i x)))) v=s'.low v:=fun v hv=>upd_ne hv
 have hlx:(upd s'.low x (min (s'.low x) (s'.num (g.oth i x)))) x=min (s'.low x) (s'.num (g.oth i x)):=upd_same
 have hxT:Nw s s' x:=m.toCom.nx p.x0
 refine { keep:=m.keep,numx:=m.numx,newn:=m.newn,cnt:=m.cnt,le:=m.le,inj:=m.inj,conn:=m.conn,lowk:=fun v hv=>?_,lowle:=?_,lowpos:=?_,stk:=?_,blk:=m.blk,nd:=?_,cls:=fun k hk=>?_,blks:=m.blks,blackT:=m.blackT,blackx:=fun k hk=>?_,lowa:=fun u k hu hk h hkb hn=>?_,lowb:=?_,part:=fun k=>?_}
 ·exact (hlow v fun e=>hv (e▸hxT)).trans (m.lowk v hv)
 ·have:=m.lowle
  simp only
  rw[hlx]; omega
 ·have:=m.lowpos
  simp only
  rw[hlx]; omega
 ·simp only; rw[m.stk,List.append_assoc]
 ·have h:=m.nd
  rw[List.append_assoc,List.nodup_append] at *
  refine⟨h.1,?_,?_⟩
  ·rw[List.cons_append,List.nil_append,List.nodup_cons,List.mem_flatten]
   exact⟨fun ⟨b,q1,q2⟩=>hni.2 b q1 q2,h.2.1⟩
  ·intro a ha c hc
   rw[List.cons_append,List.nil_append] at hc
   rcases List.mem_cons.1 hc with rfl|hc
   ·exact fun e=>hni.1 (e▸ha)
   ·exact h.2.2 a ha c hc
 ·rcases List.mem_append.1 hk with hk|hk
  ·exact m.cls k hk
  ·simp only[List.mem_cons,List.not_mem_nil,or_false] at hk
   subst hk
   exact⟨b,rfl,.one hrel⟩
 ·rcases List.mem_append.1 hk with hk|hk
  ·exact m.blackx k hk
  ·simp only[List.mem_cons,List.not_mem_nil,or_false] at hk
   subst hk; exact hv
 ·simp only
  rw[hlx]
  by_cases hq:u≠x∨k∈L
  ·have:=m.lowa u k hu hk hq hkb hn
   exact Nat.le_trans (Nat.min_le_left _ _) this
  ·have e:u=x:=Decidable.byContradiction fun c=>hq (.inl c)
   subst e
   rcases h with h|h
   ·exact absurd rfl h
   ·rcases List.mem_append.1 h with h|h
    ·exact absurd (.inr h) hq
    ·simp only[List.mem_cons,List.not_mem_nil,or_false] at h
     subst h
     exact Nat.min_le_right _ _
 ·simp only
  rw[hlx]
  by_cases hq:s'.low x≤s'.num (g.oth i x)
  ·rw[Nat.min_eq_left hq]; exact m.lowb
  ·rw[Nat.min_eq_right (by omega)]
   exact .inr ⟨x,i,hxT,hi,hb.symm,hnw,rfl⟩
 ·have:=m.part k
  constructor
  ·rintro (h|h)
   ·rcases List.mem_append.1 h with h|h
    ·obtain⟨h1,h2⟩:=this.1 (.inl h)
     exact⟨h1,h2.imp id fun q=>⟨q.1,List.mem_append_left _ q.2⟩⟩
    ·simp only[List.mem_cons,List.not_mem_nil,or_false] at h
     subst h
     exact⟨hb.symm,.inr ⟨hi,by simp⟩⟩
   ·obtain⟨h1,h2⟩:=this.1 (.inr h)
    exact⟨h1,h2.imp id fun q=>⟨q.1,List.mem_append_left _ q.2⟩⟩
  ·rintro⟨h1,h2⟩
   rcases h2 with h2|⟨h2,h3⟩
   ·exact (this.2 ⟨h1,.inl h2⟩).imp (List.mem_append_left _) id
   ·rcases List.mem_append.1 h3 with h3|h3
    ·exact (this.2 ⟨h1,.inr ⟨h2,h3⟩⟩).imp (List.mem_append_left _) id
    ·simp only[List.mem_cons,List.not_mem_nil,or_false] at h3
     subst h3
     exact .inl (by simp)
end Go.Blk
namespace Go.Blk
variable {g:Gr}
section
variable {an:List Nat}{x:Nat}{by_:Option Nat}{s s1:DS}{L new:List Nat}{bs:List (List Nat)}{i:Nat}
theorem sub_pre (p:Pre g an x by_ s) (m:Mid g x by_ s L s1 new bs) (hi:g.inc i x) (hy:s1.num (g.oth i x)=0):Pre g (x::an) (g.oth i x) (some i) { s1 with stk:=s1.stk++[i]}:=by
 obtain⟨oi,one,oo⟩:=inc_oth hi
 have hxv:s1.num x≠0:=by rw[m.numx]; omega
 have hpar:∀ b,by_=some b→∀ v,g.inc b v→s1.num v≠0:=fun b hb v hv=>by
  obtain⟨b1,b2⟩:=p.by1 b hb
  by_cases e:v=x
  ·rw[e]; exact hxv
  ·rw[inc_two b1 hv e]
   exact m.toCom.met (p.gray _ b2)
 refine⟨inc_lt oi,hy,fun a ha=>?_,fun v hv hn k hk=>?_,m.le,m.inj,fun z hz a ha b hb=>?_,fun b hb=>?_,fun h=>(by cases h),fun j hj hne v hv=>?_⟩
 ·rcases List.mem_cons.1 ha with rfl|ha
  ·exact hxv
  ·exact m.toCom.met (p.gray a ha)
 ·simp only[List.mem_cons,not_or] at hn
  by_cases ho:s.num v=0
  ·exact m.blackT v ⟨ho,hv⟩ hn.1 k hk
  ·exact m.toCom.met (p.black v ho hn.2 k hk)
 ·simp only[List.mem_cons,not_or] at hz
  have key:∀ a∈an,Conn g (·≠z) x a:=fun a ha=>by
   cases hb:by_ with
   | none=>rw[p.by0 hb] at ha; exact absurd ha (by simp)
   | some b =>
     obtain⟨b1,b2⟩:=p.by1 b hb
     have:Conn g (·≠z) x (g.oth b x):=Conn.edge (fun e=>hz.1 e.symm) b1 (fun e=>hz.2 (e▸b2))
     exact this.trans (p.chain z hz.2 _ b2 _ ha)
  rcases List.mem_cons.1 ha with ea|ha
  ·rw[ea]
   rcases List.mem_cons.1 hb with eb|hb
   ·rw[eb]; exact .refl fun e=>hz.1 e.symm
   ·exact key b hb
  ·rcases List.mem_cons.1 hb with eb|hb
   ·rw[eb]; exact (key a ha).symm
   ·exact p.chain z hz.2 a ha b hb
 ·cases hb
  rw[oo]
  exact⟨oi,List.mem_cons_self ..⟩
 ·simp only[m.stk] at hj
  rcases List.mem_append.1 hj with hj|hj
  ·rcases List.mem_append.1 hj with hj|hj
   ·by_cases q:some j=by_
    ·exact hpar j q.symm v hv
    ·exact m.toCom.met (p.stk j hj q v hv)
   ·obtain⟨_,⟨u,a,b,c⟩|⟨b,c⟩⟩:=(m.part j).1 (.inl hj)
    ·by_cases e:v=u
     ·rw[e]; exact a.2
     ·rw[inc_two c hv e]; exact m.blackT u a b j c
    ·by_cases e:v=x
     ·rw[e]; exact hxv
     ·rw[inc_two b hv e]; exact m.blackx j c
  ·simp only[List.mem_cons,List.not_mem_nil,or_false] at hj
   exact absurd (by rw[hj]) hne
theorem idx_app {l r:List Nat}{i:Nat} (h:i∉l):(l++i::r).idxOf i=l.length:=by
 rw[List.idxOf_append,if_neg h]
 simp
theorem mid_tree {sort:List Nat→List Nat} (hsort:∀ l,(sort l).Perm l) (p:Pre g an x by_ s) (m:Mid g x by_ s L s1 new bs) (hi:g.inc i x) (hiL:i∉L) (hb:by_≠some i) (hy:s1.num (g.oth i x)=0)
 {s2:DS}{new2:List Nat}{bs2:List (List Nat)} (c2:Post g (g.oth i x) (some i) { s1 with stk:=s1.stk++[i]} s2 new2 bs2) {s3:DS} (h3:s3={ s2 with low:=upd s2.low x (min (s2.low x) (s2.low (g.oth i x)))}) :
 ∃ new' bs',Mid g x by_ s (L++[i]) (if s3.num x≤s3.low (g.oth i x) then s3.close sort i else s3) new' bs':=by
 obtain⟨oi,one,oo⟩:=inc_oth hi
 have hxv:s1.num x≠0:=by rw[m.numx]; omega
 have ps:=sub_pre p m hi hy
 have hT2:∀ v,Nw { s1 with stk:=s1.stk++[i]} s2 v↔s1.num v=0∧s2.num v≠0:=fun v=>Iff.rfl
 generalize hy':g.oth i x=y at *
 have keep2:∀ v,s1.num v≠0→s2.num v=s1.num v:=c2.keep
 have hT:∀ v,Nw s s2 v↔Nw s s1 v∨(s1.num v=0∧s2.num v≠0):=fun v=>by
  unfold Nw
  constructor
  ·rintro⟨h1,h2⟩
   by_cases e:s1.num v=0
   ·exact .inr ⟨e,h2⟩
   ·exact .inl ⟨h1,e⟩
  ·rintro (⟨h1,h2⟩|⟨h1,h2⟩)
   ·exact⟨h1,by rw[keep2 v h2]; exact h2⟩
   ·refine⟨Decidable.byContradiction fun hc=>?_,h2⟩
    exact m.toCom.met hc h1
 have hxT:Nw s s1 x:=m.toCom.nx p.x0
 have hnx2:s2.num x=s.cnt+1:=by rw[keep2 x hxv]; exact m.numx
 have hlx2:s2.low x=s1.low x:=c2.lowk x fun h=>hxv h.1
 have hy2:s2.num y≠0:=by rw[c2.numx]; simp
 have hny:s2.num x<s2.num y:=by
  have h1:=c2.numx
  have h2:=m.le x
  simp only at h1
  rw[h1,keep2 x hxv]
  omega
 have hbT:∀ k u,g.inc k u→s1.num u=0→some k≠by_:=fun k u hk hu e=>by
  obtain⟨b1,b2⟩:=p.by1 k e.symm
  by_cases q:u=x
  ·rw[q] at hu; exact hxv hu
  ·rw[inc_two b1 hk q] at hu
   exact m.toCom.met (p.gray _ b2) hu
 have hA:∀ k,(k∈new∨∃ b∈bs,k∈b)→∀ v,g.inc k v→s1.num v≠0:=fun k hk v hv=>by
  obtain⟨_,⟨u,a,b,c⟩|⟨b,c⟩⟩:=(m.part k).1 hk
  ·by_cases e:v=u
   ·rw[e]; exact a.2
   ·rw[inc_two c hv e]; exact m.blackT u a b k c
  ·by_cases e:v=x
   ·rw[e]; exact hxv
   ·rw[inc_two b hv e]; exact m.blackx k c
 have hB:∀ k,(k∈new2∨∃ b∈bs2,k∈b)↔k≠i∧∃ u,(s1.num u=0∧s2.num u≠0)∧g.inc k u:=fun k=>by
  rw[c2.part k]
  constructor
  ·rintro⟨h1,h2⟩
   exact⟨fun e=>h1 (by rw[e]),h2⟩
  ·rintro⟨h1,h2⟩
   exact⟨fun e=>h1 (Option.some.inj e),h2⟩
 have hiA:¬ (i∈new∨∃ b∈bs,i∈b):=fun h=>hA i h y oi hy
 have hiB:¬ (i∈new2∨∃ b∈bs2,i∈b):=fun h=>((hB i).1 h).1 rfl
 have hdis:∀ k,(k∈new∨∃ b∈bs,k∈b)→¬ (k∈new2∨∃ b∈bs2,k∈b):=fun k h1 h2=>by
  obtain⟨_,u,a,b⟩:=(hB k).1 h2
  exact hA k h1 u b a.1
 have hgray:∀ u k,(s1.num u=0∧s2.num u≠0)→g.inc k u→¬ (s1.num (g.oth k u)=0∧s2.num (g.oth k u)≠0)→g.oth k u∈x::an:=fun u k hu hk hn=>by
  have h1:=c2.black u hu k hk
  have h2:s1.num (g.oth k u)≠0:=fun e=>hn ⟨e,h1⟩
  refine Decidable.byContradiction fun hc=>?_
  have:=ps.black _ h2 hc k (inc_oth hk).1
  rw[(inc_oth hk).2.2] at this
  exact this hu.1
 have hnd:(new++bs.flatten++(i::(new2++bs2.flatten))).Nodup:=by
  rw[List.nodup_append]
  refine⟨m.nd,?_,?_⟩
  ·rw[List.nodup_cons]
   refine⟨fun h=>hiB ?_,c2.nd⟩
   rw[List.mem_append,List.mem_flatten] at h
   exact h
  ·intro a ha c hc
   rw[List.mem_append,List.mem_flatten] at ha
   rcases List.mem_cons.1 hc with rfl|hc
   ·exact fun e=>hiA (e▸ha)
   ·rw[List.mem_append,List.mem_flatten] at hc
    exact fun e=>hdis a ha (e▸hc)
 have hl3:∀ v,v≠x→s3.low v=s2.low v:=fun v hv=>by rw[h3]; exact upd_ne hv
 have hl3x:s3.low x=min (s1.low x) (s2.low y):=by rw[h3]; show upd s2.low x _ x=_; rw[upd_same,hlx2]
 have hn3:s3.num=s2.num:=by rw[h3]
 have hc3:s3.cnt=s2.cnt:=by rw[h3]
 have hs3:s3.stk=s.stk++new++i::new2:=by
  rw[h3]
  have:=c2.stk
  simp only at this ⊢
  rw[this,m.stk]
  simp
 have hb3:s3.blk=s.blk++(bs++bs2):=by
  rw[h3]
  have:=c2.blk
  simp only at this ⊢
  rw[this,m.blk]
  simp
 have hTm:∀ v,Nw s s3 v↔Nw s s1 v∨(s1.num v=0∧s2.num v≠0):=fun v=>by rw[← hT v]; unfold Nw; rw[hn3]
 have hconnT:∀ u,(s1.num u=0∧s2.num u≠0)→Conn g (fun v=>s1.num v=0∧s2.num v≠0) y u:=c2.conn
 clear h3
 have com:∀ (s':DS) (nw:List Nat) (bb:List (List Nat)),s'.num=s3.num→s'.low=s3.low→s'.cnt=s3.cnt→s'.stk=s.stk++nw→s'.blk=s.blk++bb→(nw++bb.flatten).Nodup→(∀ k∈nw,∃ b,by_=some b∧Cls g k b)→(∀ b∈bb,IsBlock g b) →
  (∀ k,(k∈nw∨∃ b∈bb,k∈b)↔(k∈new∨∃ b∈bs,k∈b)∨k=i∨(k∈new2∨∃ b∈bs2,k∈b))→Mid g x by_ s (L++[i]) s' nw bb:=by
  intro s' nw bb q1 q2 q3 q4 q5 q6 q7 q8 q9
  have hT':∀ v,Nw s s' v↔Nw s s1 v∨(s1.num v=0∧s2.num v≠0):=fun v=>by rw[← hTm v]; unfold Nw; rw[q1]
  have qn:s'.num=s2.num:=q1.trans hn3
  have hkeep:∀ v,s.num v≠0→s'.num v=s.num v:=fun v hv=>by rw[qn,keep2 v (m.toCom.met hv)]; exact m.keep v hv
  refine { keep:=hkeep,numx:=by rw[qn]; exact hnx2,newn:=fun v hv=>?_,cnt:=?_,le:=fun v=>by rw[qn,q3,hc3]; exact c2.le v,inj:=fun u v=>by rw[qn]; exact c2.inj u v,conn:=fun u hu=>?_,lowk:=fun v hv=>?_,lowle:=?_,lowpos:=?_,stk:=q4,blk:=q5,nd:=q6,cls:=q7,blks:=q8,blackT:=fun u hu hne k hk=>?_,blackx:=fun k hk=>?_,lowa:=fun u k hu hk h hkb hn=>?_,lowb:=?_,part:=fun k=>?_}
  ·rw[qn]
   rcases (hT' v).1 hv with h|h
   ·rw[keep2 v h.2]; exact m.newn v h
   ·have:=c2.newn v h
    have:=m.cnt
    simp only at *
    omega
  ·have:=m.cnt
   have:=c2.cnt
   simp only at *
   omega
  ·rcases (hT' u).1 hu with h|h
   ·exact (m.conn u h).mono fun z hz=>(hT' z).2 (.inl hz)
   ·have h1:Conn g (Nw s s') x (g.oth i x):=Conn.edge ((hT' x).2 (.inl hxT)) hi (by rw[hy']; exact (hT' y).2 (.inr ⟨hy,hy2⟩))
    rw[hy'] at h1
    exact h1.trans ((hconnT u h).mono fun z hz=>(hT' z).2 (.inr hz))
  ·have h1:v≠x:=fun e=>hv ((hT' v).2 (.inl (e▸hxT)))
   have h2:=c2.lowk v fun e=>hv ((hT' v).2 (.inr e))
   simp only at h2
   rw[q2,hl3 v h1,h2]
   exact m.lowk v fun e=>hv ((hT' v).2 (.inl e))
  ·have:=m.lowle
   have:=m.numx
   rw[q2,hl3x,qn,hnx2]; omega
  ·have:=m.lowpos
   have:=c2.lowpos
   rw[q2,hl3x]; omega
  ·rw[qn]
   rcases (hT' u).1 hu with h|h
   ·have:=m.blackT u h hne k hk
    rw[keep2 _ this]; exact this
   ·exact c2.black u h k hk
  ·rw[qn]
   rcases List.mem_append.1 hk with hk|hk
   ·have:=m.blackx k hk
    rw[keep2 _ this]; exact this
   ·simp only[List.mem_cons,List.not_mem_nil,or_false] at hk
    rw[hk,hy']; exact hy2
  ·rw[q2,hl3x,qn]
   rcases (hT' u).1 hu with hu1|hu2
   ·have hq:u≠x∨k∈L:=by
     by_cases e:u=x
     ·rcases h with h|h
      ·exact .inl h
      ·rcases List.mem_append.1 h with h|h
       ·exact .inr h
       ·simp only[List.mem_cons,List.not_mem_nil,or_false] at h
        rw[e,h,hy'] at hn
        exact absurd ((hT' y).2 (.inr ⟨hy,hy2⟩)) hn
     ·exact .inl e
    have hv:s1.num (g.oth k u)≠0:=by
     by_cases e:u=x
     ·rcases hq with hq|hq
      ·exact absurd e hq
      ·rw[e]; exact m.blackx k hq
     ·exact m.blackT u hu1 e k hk
    have:=m.lowa u k hu1 hk hq hkb fun e=>hn ((hT' _).2 (.inl e))
    rw[keep2 _ hv]
    omega
   ·by_cases e:k=i
    ·have hux:u≠x:=fun e=>hxv (e▸hu2.1)
     have:u=y:=by rw[← hy']; exact inc_two hi (e▸hk) hux
     rw[e,this,oo] at hn
     exact absurd ((hT' x).2 (.inl hxT)) hn
    ·have:=c2.lowa u k hu2 hk (fun q=>e (Option.some.inj q)) fun q=>hn ((hT' _).2 (.inr q))
     omega
  ·rw[q2,hl3x,qn]
   by_cases hq:s1.low x≤s2.low y
   ·rw[Nat.min_eq_left hq]
    rcases m.lowb with h|⟨u,k,a,b,c,d,e⟩
    ·exact .inl (by rw[h,m.numx,hnx2])
    ·have hv:s1.num (g.oth k u)≠0:=by have:=m.lowpos; omega
     refine .inr ⟨u,k,(hT' u).2 (.inl a),b,c,fun q=>?_,by rw[keep2 _ hv]; exact e⟩
     rcases (hT' _).1 q with q|q
     ·exact d q
     ·exact hv q.1
   ·rw[Nat.min_eq_right (by omega)]
    have h1:=m.lowle
    have h2:=m.numx
    rcases c2.lowb with h|⟨u,k,a,b,c,d,e⟩
    ·omega
    ·have hg:=hgray u k a b d
     have hwx:g.oth k u≠x:=fun q=>by rw[q,hnx2] at e; omega
     have han:g.oth k u∈an:=by
      rcases List.mem_cons.1 hg with q|q
      ·exact absurd q hwx
      ·exact q
     refine .inr ⟨u,k,(hT' u).2 (.inr a),b,hbT k u b a.1,fun q=>?_,e⟩
     exact p.gray _ han q.1
  ·rw[q9 k]
   constructor
   ·rintro (h|h|h)
    ·obtain⟨h1,h2⟩:=(m.part k).1 h
     exact⟨h1,h2.imp (fun ⟨u,a,b,c⟩=>⟨u,(hT' u).2 (.inl a),b,c⟩) fun q=>⟨q.1,List.mem_append_left _ q.2⟩⟩
    ·subst h
     exact⟨hb.symm,.inr ⟨hi,by simp⟩⟩
    ·obtain⟨h1,u,a,c⟩:=(hB k).1 h
     exact⟨hbT k u c a.1,.inl ⟨u,(hT' u).2 (.inr a),fun e=>hxv (e▸a.1),c⟩⟩
   ·rintro⟨h1,⟨u,a,b,c⟩|⟨b,c⟩⟩
    ·rcases (hT' u).1 a with a|a
     ·exact .inl ((m.part k).2 ⟨h1,.inl ⟨u,a,b,c⟩⟩)
     ·by_cases e:k=i
      ·exact .inr (.inl e)
      ·exact .inr (.inr ((hB k).2 ⟨e,u,a,c⟩))
    ·rcases List.mem_append.1 c with c|c
     ·exact .inl ((m.part k).2 ⟨h1,.inr ⟨b,c⟩⟩)
     ·simp only[List.mem_cons,List.not_mem_nil,or_false] at c
      exact .inr (.inl c)
 have hcls2:∀ k∈new2,Cls g k i:=fun k hk=>by
  obtain⟨b,e,h⟩:=c2.cls k hk
  cases e
  exact h
 by_cases hcl:s3.num x≤s3.low y
 ·
  rw[if_pos hcl]
  rw[hn3,hl3 y one] at hcl
  have his:i∉s.stk++new:=fun h=>by
   rcases List.mem_append.1 h with h|h
   ·by_cases q:some i=by_
    ·exact hb q.symm
    ·exact m.toCom.met (p.stk i h q y oi) hy
   ·exact hiA (.inl h)
  have hidx:s3.stk.idxOf i=(s.stk++new).length:=by rw[hs3]; exact idx_app his
  have hdrop:s3.stk.drop (s3.stk.idxOf i)=i::new2:=by rw[hidx,hs3,List.drop_left]
  have htake:s3.stk.take (s3.stk.idxOf i)=s.stk++new:=by rw[hidx,hs3,List.take_left]
  have hsep:∀ u k,(s1.num u=0∧s2.num u≠0)→g.inc k u→(s1.num (g.oth k u)=0∧s2.num (g.oth k u)≠0)∨g.oth k u=x:=fun u k hu hk=>by
   by_cases q:s1.num (g.oth k u)=0∧s2.num (g.oth k u)≠0
   ·exact .inl q
   ·right
    by_cases e:k=i
    ·have hux:u≠x:=fun e=>hxv (e▸hu.1)
     have:u=y:=by rw[← hy']; exact inc_two hi (e▸hk) hux
     rw[e,this,oo]
    ·have h1:=c2.lowa u k hu hk (fun q=>e (Option.some.inj q)) q
     have h2:=hgray u k hu hk q
     refine Decidable.byContradiction fun hc=>?_
     have han:g.oth k u∈an:=by
      rcases List.mem_cons.1 h2 with q|q
      ·exact absurd q hc
      ·exact q
     have h3:=p.gray _ han
     have h4:=p.le (g.oth k u)
     rw[keep2 _ (m.toCom.met h3),m.keep _ h3] at h1
     omega
  have hblock:IsBlock g (sort (i::new2)):=by
   have hm:∀ k,k∈sort (i::new2)↔k∈i::new2:=fun k=>(hsort _).mem_iff
   have hinc:∀ e∈i::new2,∃ u,(s1.num u=0∧s2.num u≠0)∧g.inc e u:=fun e he=>by
    rcases List.mem_cons.1 he with rfl|he
    ·exact⟨y,⟨hy,hy2⟩,oi⟩
    ·obtain⟨_,u,a,b⟩:=(hB e).1 (.inl he)
     exact⟨u,a,b⟩
   have hci:∀ e∈i::new2,Cls g e i:=fun e he=>by
    rcases List.mem_cons.1 he with rfl|he
    ·exact .refl
    ·exact hcls2 e he
   refine⟨fun e=>?_,fun a ha c hc=>(hci a ((hm a).1 ha)).trans (hci c ((hm c).1 hc)).symm,fun e he f hr=>(hm f).2 ?_⟩
   ·have:=(hm i).2 (List.mem_cons_self ..)
    rw[e] at this
    cases this
   ·rw[hm] at he
    obtain⟨u,hu,heu⟩:=hinc e he
    obtain⟨v,v1,v2,v3⟩:=hr
    by_cases hf:∃ u,(s1.num u=0∧s2.num u≠0)∧g.inc f u
    ·by_cases e1:f=i
     ·rw[e1]; exact List.mem_cons_self ..
     ·rcases (hB f).2 ⟨e1,hf⟩ with q|⟨b,q1,q2⟩
      ·exact List.mem_cons_of_mem _ q
      ·
       exfalso
       have hbk:=c2.blks b q1
       have heb:e∈b:=hbk.2.2 f q2 e (Rel.symm ⟨v,v1,v2,v3⟩)
       rcases List.mem_cons.1 he with rfl|he
       ·exact hiB (.inr ⟨b,q1,heb⟩)
       ·have:=c2.nd
        rw[List.nodup_append] at this
        exact this.2.2 e he e (List.mem_flatten.2 ⟨b,q1,heb⟩) rfl
    ·exfalso
     have hvT:¬ (s1.num v=0∧s2.num v≠0):=fun q=>hf ⟨v,q,v2⟩
     have hvu:v≠u:=fun e=>hvT (e▸hu)
     have hv':v=g.oth e u:=inc_two heu v1 hvu
     have hvx:v=x:=by
      rcases hsep u e hu heu with q|q
      ·rw[← hv'] at q; exact absurd q hvT
      ·rw[hv',q]
     have hou:g.oth e v=u:=by rw[hv']; exact (inc_oth heu).2.2
     rw[hou] at v3
     have:=v3.stays (T:=fun z=>s1.num z=0∧s2.num z≠0) (fun z k hz hk hne=>by
      rcases hsep z k hz hk with q|q
      ·exact q
      ·exact absurd (q.trans hvx.symm) hne) hu
     exact hf ⟨_,this,(inc_oth v2).1⟩
  refine⟨new,bs++bs2++[sort (i::new2)],com (s3.close sort i) _ _ rfl rfl rfl ?_ ?_ ?_ m.cls ?_ ?_⟩
  ·exact htake
  ·show s3.blk++[sort (s3.stk.drop (s3.stk.idxOf i))]=_
   rw[hdrop,hb3]
   simp
  ·refine (List.Perm.nodup_iff ?_).2 hnd
   refine List.perm_iff_count.2 fun a=>?_
   have:=(hsort (i::new2)).count_eq a
   simp only[List.flatten_append,List.flatten_cons,List.flatten_nil,List.append_nil,List.count_append,List.count_cons] at *
   omega
  ·intro b hb
   rcases List.mem_append.1 hb with hb|hb
   ·rcases List.mem_append.1 hb with hb|hb
    ·exact m.blks b hb
    ·exact c2.blks b hb
   ·simp only[List.mem_cons,List.not_mem_nil,or_false] at hb
    rw[hb]; exact hblock
  ·intro k
   have hm:k∈sort (i::new2)↔k∈i::new2:=(hsort _).mem_iff
   simp only[List.mem_append,List.mem_cons,List.not_mem_nil,or_false] at *
   constructor
   ·rintro (h|⟨b,(h|h)|h,hk⟩)
    ·exact .inl (.inl h)
    ·exact .inl (.inr ⟨b,h,hk⟩)
    ·exact .inr (.inr (.inr ⟨b,h,hk⟩))
    ·rw[h,hm] at hk
     rcases hk with hk|hk
     ·exact .inr (.inl hk)
     ·exact .inr (.inr (.inl hk))
   ·rintro ((h|⟨b,h,hk⟩)|h|h|⟨b,h,hk⟩)
    ·exact .inl h
    ·exact .inr ⟨b,.inl (.inl h),hk⟩
    ·exact .inr ⟨_,.inr rfl,hm.2 (.inl h)⟩
    ·exact .inr ⟨_,.inr rfl,hm.2 (.inr h)⟩
    ·exact .inr ⟨b,.inl (.inr h),hk⟩
 ·rw[if_neg hcl]
  rw[hn3,hl3 y one] at hcl
  have hrel:∃ b,by_=some b∧Rel g i b:=by
   rcases c2.lowb with h|⟨u,k,a,b,c,d,e⟩
   ·omega
   ·have hg:=hgray u k a b d
    have hwx:g.oth k u≠x:=fun q=>by rw[q,hnx2] at e; omega
    have han:g.oth k u∈an:=by
     rcases List.mem_cons.1 hg with q|q
     ·exact absurd q hwx
     ·exact q
    have hxan:x∉an:=fun h=>p.gray x h p.x0
    cases hby:by_ with
    | none=>rw[p.by0 hby] at han; cases han
    | some b0 =>
      obtain⟨b1,b2⟩:=p.by1 b0 hby
      refine⟨b0,rfl,x,hi,b1,?_⟩
      rw[hy']
      have k1:Conn g (·≠x) y u:=(hconnT u a).mono fun z hz e=>hxv (e▸hz.1)
      have k2:Conn g (·≠x) u (g.oth k u):=Conn.edge k1.right b hwx
      exact (k1.trans k2).trans (p.chain x hxan _ han _ b2)
  obtain⟨b0,hby,hrel⟩:=hrel
  refine⟨new++i::new2,bs++bs2,com s3 _ _ rfl rfl rfl (by rw[hs3]; simp) hb3 ?_ ?_ ?_ ?_⟩
  ·refine (List.Perm.nodup_iff ?_).2 hnd
   refine List.perm_iff_count.2 fun a=>?_
   simp only[List.flatten_append,List.count_append,List.count_cons] at *
   omega
  ·intro k hk
   rcases List.mem_append.1 hk with hk|hk
   ·exact m.cls k hk
   ·rcases List.mem_cons.1 hk with rfl|hk
    ·exact⟨b0,hby,.one hrel⟩
    ·exact⟨b0,hby,(hcls2 k hk).trans (.one hrel)⟩
  ·intro b hb
   rcases List.mem_append.1 hb with hb|hb
   ·exact m.blks b hb
   ·exact c2.blks b hb
  ·intro k
   simp only[List.mem_append,List.mem_cons]
   constructor
   ·rintro ((h|h|h)|⟨b,h|h,hk⟩)
    ·exact .inl (.inl h)
    ·exact .inr (.inl h)
    ·exact .inr (.inr (.inl h))
    ·exact .inl (.inr ⟨b,h,hk⟩)
    ·exact .inr (.inr (.inr ⟨b,h,hk⟩))
   ·rintro ((h|⟨b,h,hk⟩)|h|h|⟨b,h,hk⟩)
    ·exact .inl (.inl h)
    ·exact .inr ⟨b,.inl h,hk⟩
    ·exact .inl (.inr (.inl h))
    ·exact .inl (.inr (.inr h))
    ·exact .inr ⟨b,.inr h,hk⟩
end
end Go.Blk
namespace Go.Blk
variable {g:Gr}
theorem unm_pos {s:DS}{x:Nat} (hx:x<g.n) (h:s.num x=0):0<unm g s:=by
 unfold unm
 rw[List.countP_pos_iff]
 exact⟨x,List.mem_range.2 hx,by simp [h]⟩
theorem visit_good {ends:Nat→List Nat}{sort:List Nat→List Nat} (hends:∀ x,x<g.n→(ends x).Nodup∧∀ i,i∈ends x↔g.inc i x) (hsort:∀ l,(sort l).Perm l):∀ f,Good g (visit g ends sort f) f
 | 0=>fun an x by_ s p hf=>by
   have:=unm_pos p.hx p.x0
   omega
 | f+1=>fun an x by_ s p hf=>by
   have ih:=visit_good hends hsort f
   obtain⟨e1,e2⟩:=hends x p.hx
   have fold:∀ (l L:List Nat) (s1:DS) (new:List Nat) (bs:List (List Nat)),Mid g x by_ s L s1 new bs→L++l=ends x →
    ∃ new' bs',Mid g x by_ s (L++l) (l.foldl (edgeS g sort (fun y i s=>visit g ends sort f y (some i) s) x by_) s1) new' bs':=by
    intro l
    induction l with
    | nil=>intro L s1 new bs m _; exact⟨new,bs,by rw[List.append_nil]; exact m⟩
    | cons i l ihl =>
      intro L s1 new bs m hL
      have hi:g.inc i x:=(e2 i).1 (by rw[← hL]; simp)
      have hiL:i∉L:=by
       rw[← hL,List.nodup_append] at e1
       exact fun h=>e1.2.2 i h i (List.mem_cons_self ..) rfl
      obtain⟨oi,one,oo⟩:=inc_oth hi
      have step:∃ new' bs',Mid g x by_ s (L++[i]) (edgeS g sort (fun y i s=>visit g ends sort f y (some i) s) x by_ s1 i) new' bs':=by
       unfold edgeS
       by_cases hb:by_=some i
       ·rw[if_pos hb]
        refine⟨new,bs,mid_skip m hi ?_ (.inl hb)⟩
        exact m.toCom.met (p.gray _ (p.by1 i hb).2)
       ·rw[if_neg hb]
        by_cases hy:s1.num (g.oth i x)=0
        ·rw[if_pos hy]
         have ps:=sub_pre p m hi hy
         have hlt:unm g { s1 with stk:=s1.stk++[i]}<unm g s:=unm_lt (fun v hv=>m.toCom.met hv) p.hx p.x0 (show s1.num x≠0 by rw[m.numx]; omega)
         obtain⟨new2,bs2,c2⟩:=ih _ _ _ _ ps (by omega)
         exact mid_tree hsort p m hi hiL hb hy c2 rfl
        ·rw[if_neg hy]
         by_cases hlt:s1.num (g.oth i x)<s1.num x
         ·rw[if_pos hlt]
          exact⟨_,_,mid_back p m hi hiL hb hy hlt⟩
         ·rw[if_neg hlt]
          refine⟨new,bs,mid_skip m hi hy (.inr ⟨Decidable.byContradiction fun hc=>?_,hy⟩)⟩
          have h1:=p.le (g.oth i x)
          rw[m.keep _ hc,m.numx] at hlt
          omega
      obtain⟨new1,bs1,m1⟩:=step
      have:=ihl (L++[i]) _ new1 bs1 m1 (by rw[← hL]; simp)
      rw[List.append_assoc] at this
      exact this
   obtain⟨new,bs,m⟩:=fold (ends x) [] (enter x s) [] [] (mid0 p) (List.nil_append _)
   exact⟨new,bs,m.post p.x0 e2⟩
def start:DS:=⟨fun _=>0,fun _=>0,0,[],[]⟩
def from1 (g:Gr) (ends:Nat→List Nat) (sort:List Nat→List Nat) (f:Nat) (s:DS) (x:Nat):DS:=if s.num x=0 then visit g ends sort f x none s else s
def runB (g:Gr) (ends:Nat→List Nat) (sort:List Nat→List Nat) (f:Nat):DS:=(List.range g.n).foldl (from1 g ends sort f) start
structure Btw (g:Gr) (s:DS):Prop where
 black:∀ v,s.num v≠0→∀ i,g.inc i v→s.num (g.oth i v)≠0
 le:∀ v,s.num v≤s.cnt
 inj:∀ u v,s.num u=s.num v→s.num u≠0→u=v
 stk:s.stk=[]
 nd:s.blk.flatten.Nodup
 blks:∀ b∈s.blk,IsBlock g b
 part:∀ i,(∃ b∈s.blk,i∈b)↔∃ u,s.num u≠0∧g.inc i u
theorem btw_start:Btw g start:=by
 refine⟨fun v h=>absurd rfl h,fun v=>Nat.le_refl _,fun u v _ h=>absurd rfl h,rfl,by simp [start],fun b hb=>(by cases hb),fun i=>?_⟩
 constructor
 ·rintro⟨b,hb,_⟩; cases hb
 ·rintro⟨u,h,_⟩; exact absurd rfl h
theorem btw_step {ends:Nat→List Nat}{sort:List Nat→List Nat} (hends:∀ x,x<g.n→(ends x).Nodup∧∀ i,i∈ends x↔g.inc i x) (hsort:∀ l,(sort l).Perm l) {f:Nat}{s:DS}{x:Nat} (b:Btw g s) (hx:x<g.n) (hf:unm g s≤f) :
 Btw g (from1 g ends sort f s x)∧(from1 g ends sort f s x).num x≠0∧(∀ v,s.num v≠0→(from1 g ends sort f s x).num v≠0)∧unm g (from1 g ends sort f s x)≤f:=by
 unfold from1
 by_cases h:s.num x=0
 ·rw[if_pos h]
  have p:Pre g [] x none s:=⟨hx,h,fun a ha=>(by cases ha),fun v hv _=>b.black v hv,b.le,b.inj,fun z _ a ha=>(by cases ha),fun c hc=>(by cases hc),fun _=>rfl,fun j hj=>by rw[b.stk] at hj; cases hj⟩
  obtain⟨new,bs,c⟩:=visit_good hends hsort f [] x none s p hf
  generalize visit g ends sort f x none s=s' at *
  have hnew:new=[]:=by
   cases new with
   | nil=>rfl
   | cons a r=>obtain⟨_,e,_⟩:=c.cls a (List.mem_cons_self ..); cases e
  subst hnew
  have hmet:∀ v,s.num v≠0→s'.num v≠0:=fun v hv=>c.toCom.met hv
  refine⟨⟨fun v hv i hi=>?_,c.le,c.inj,by rw[c.stk,b.stk]; rfl,?_,fun bb hb=>?_,fun i=>?_⟩,by rw[c.numx]; omega,hmet,Nat.le_trans (unm_le hmet) hf⟩
  ·by_cases ho:s.num v=0
   ·exact c.black v ⟨ho,hv⟩ i hi
   ·exact hmet _ (b.black v ho i hi)
  ·rw[c.blk,List.flatten_append,List.nodup_append]
   refine⟨b.nd,by simpa using c.nd,fun a ha d hd e=>?_⟩
   subst e
   rw[List.mem_flatten] at ha hd
   obtain⟨u,hu,hiu⟩:=(b.part a).1 ha
   obtain⟨_,u2,h2,hi2⟩:=(c.part a).1 (.inr hd)
   by_cases e:u2=u
   ·exact hu (e▸h2.1)
   ·have:=inc_two hiu hi2 e
    exact b.black u hu a hiu (this▸h2.1)
  ·rw[c.blk] at hb
   rcases List.mem_append.1 hb with hb|hb
   ·exact b.blks bb hb
   ·exact c.blks bb hb
  ·rw[c.blk]
   constructor
   ·rintro⟨bb,hb,hi⟩
    rcases List.mem_append.1 hb with hb|hb
    ·obtain⟨u,h1,h2⟩:=(b.part i).1 ⟨bb,hb,hi⟩
     exact⟨u,hmet u h1,h2⟩
    ·obtain⟨_,u,h1,h2⟩:=(c.part i).1 (.inr ⟨bb,hb,hi⟩)
     exact⟨u,h1.2,h2⟩
   ·rintro⟨u,h1,h2⟩
    by_cases ho:s.num u=0
    ·rcases (c.part i).2 ⟨by simp,u,⟨ho,h1⟩,h2⟩ with q|⟨bb,q1,q2⟩
     ·cases q
     ·exact⟨bb,List.mem_append_right _ q1,q2⟩
    ·obtain⟨bb,q1,q2⟩:=(b.part i).2 ⟨u,ho,h2⟩
     exact⟨bb,List.mem_append_left _ q1,q2⟩
 ·rw[if_neg h]
  exact⟨b,h,fun v hv=>hv,hf⟩
theorem unm_le_n {s:DS}:unm g s≤g.n:=by
 unfold unm
 exact Nat.le_trans List.countP_le_length (by simp)
theorem runB_ok {ends:Nat→List Nat}{sort:List Nat→List Nat} (hends:∀ x,x<g.n→(ends x).Nodup∧∀ i,i∈ends x↔g.inc i x) (hsort:∀ l,(sort l).Perm l) {f:Nat} (hf:g.n≤f) :
 (runB g ends sort f).blk.flatten.Nodup∧(∀ b∈(runB g ends sort f).blk,IsBlock g b)∧∀ i,i<g.m↔∃ b∈(runB g ends sort f).blk,i∈b:=by
 have key:∀ k,k≤g.n→Btw g ((List.range k).foldl (from1 g ends sort f) start)∧(∀ v,v<k→((List.range k).foldl (from1 g ends sort f) start).num v≠0)∧unm g ((List.range k).foldl (from1 g ends sort f) start)≤f:=by
  intro k
  induction k with
  | zero=>intro _; exact⟨btw_start,fun v hv=>absurd hv (Nat.not_lt_zero _),Nat.le_trans unm_le_n hf⟩
  | succ k ih =>
    intro hk
    obtain⟨h1,h2,h3⟩:=ih (by omega)
    rw[List.range_succ,List.foldl_append]
    obtain⟨a,b,c,d⟩:=btw_step hends hsort h1 (show k<g.n by omega) h3
    refine⟨a,fun v hv=>?_,d⟩
    by_cases e:v=k
    ·subst e; exact b
    ·exact c v (h2 v (by omega))
 obtain⟨h1,h2,_⟩:=key g.n (Nat.le_refl _)
 refine⟨h1.nd,h1.blks,fun i=>?_⟩
 show _↔∃ b∈((List.range g.n).foldl (from1 g ends sort f) start).blk,i∈b
 rw[h1.part i]
 constructor
 ·intro hi
  exact⟨g.tl i,h2 _ (g.ok i hi).1,hi,.inl rfl⟩
 ·rintro⟨u,_,h⟩; exact h.1
end Go.Blk
