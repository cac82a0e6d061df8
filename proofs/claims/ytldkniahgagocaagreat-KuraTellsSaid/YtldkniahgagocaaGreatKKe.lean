/-
  kura: what is found by going along ways is what the pairs that are left tell. kura.What. arborref08.What.
-/
import Derived.Test.YtldkniahgagocaaGreatKKd
set_option linter.all false
namespace Go.Proofs.YtldkniahgagocaaGreat
open Go.Am
open Go.Kur
theorem sortN_iff {l m:List Nat} (hm:m.Pairwise (·≤·)):sortN l=m↔l.Perm m:=by
 constructor
 ·rintro rfl
  exact (sortN_perm l).symm
 ·intro h
  have hp:(sortN l).Perm m:=(sortN_perm l).trans h
  exact List.Perm.eq_of_pairwise (le:=(·≤·)) (fun a b _ _ h1 h2=>Nat.le_antisymm h1 h2) (sortN_le l) hm hp
theorem nodup_sub {α β:Type}{F:List α}{A B:α→List β} (hA:(F.flatMap A).Nodup) (hs:∀ w∈F,(B w).Nodup∧∀ x∈B w,x∈A w):(F.flatMap B).Nodup:=by
 induction F with
 | nil=>exact List.nodup_nil
 | cons w r ih =>
   rw[List.flatMap_cons] at hA ⊢
   obtain⟨a1,a2,a3⟩:=List.nodup_append.1 hA
   rw[List.nodup_append]
   refine⟨(hs w (List.mem_cons_self ..)).1,ih a2 fun x hx=>hs x (List.mem_cons_of_mem _ hx),fun x hx y hy=>?_⟩
   obtain⟨u,hu,hyu⟩:=List.mem_flatMap.1 hy
   exact a3 x ((hs w (List.mem_cons_self ..)).2 x hx) y (List.mem_flatMap.2 ⟨u,hu,(hs u (List.mem_cons_of_mem _ hu)).2 y hyu⟩)
theorem one_way {F:List Kur.Way} (h:(F.flatMap fun w=>w.2.2).Nodup) {u w:Kur.Way} (hu:u∈F) (hw:w∈F) {e:Nat} (h1:e∈u.2.2) (h2:e∈w.2.2):u=w:=by
 induction F with
 | nil=>cases hu
 | cons a r ih =>
   rw[List.flatMap_cons] at h
   obtain⟨a1,a2,a3⟩:=List.nodup_append.1 h
   rcases List.mem_cons.1 hu with rfl|hu'
   ·rcases List.mem_cons.1 hw with rfl|hw
    ·rfl
    ·exact absurd rfl (a3 e h1 e (List.mem_flatMap.2 ⟨w,hw,h2⟩))
   ·rcases List.mem_cons.1 hw with rfl|hw'
    ·exact absurd rfl (a3 e h2 e (List.mem_flatMap.2 ⟨u,hu',h1⟩))
    ·exact ih a2 hu' hw'
variable {g:Gr}{N:Nat}
def AllB (g:Gr) (N:Nat):Prop:=∀ i∈g.E,g.tl i<N∧g.hd i<N
theorem ends_lt (hb:AllB g N) {x e:Nat} (h:e∈g.ends x):x<N:=by
 obtain⟨h1,h2⟩:=mem_ends.1 h
 have:=hb e h1
 omega
theorem wk_lt (hb:AllB g N) {w:Kur.Way} (h:Wk g w.1 w.2.2 w.2.1):w.1<N∧w.2.1<N:=by
 obtain⟨e,_,h2⟩:=h.last
 refine⟨?_,ends_lt hb h2⟩
 cases hq:w.2.2 with
 | nil=>exact absurd hq h.ne
 | cons a r =>
   rw[hq] at h
   exact ends_lt hb h.head
theorem fin_nodup:((finW g N).flatMap fun w=>w.2.2).Nodup:=((finW_inv (g:=g) N).pm.nodup_iff).2 g.nd
theorem way_at (hb:AllB g N) {x e:Nat} (hx:g.deg x≠2) (he:e∈g.ends x) :
 ∃ w∈finW g N,((w.1=x∧w.2.2.head?=some e∧g.deg w.2.1≠2)∨(w.2.1=x∧w.2.2.getLast?=some e∧g.deg w.1≠2))∧e∈w.2.2∧w.2.2.length≤g.E.length:=by
 have v:=finW_inv (g:=g) N
 have hE:e∈(finW g N).flatMap fun w=>w.2.2:=v.pm.mem_iff.2 (mem_ends.1 he).1
 obtain⟨w,hw,hew⟩:=List.mem_flatMap.1 hE
 obtain⟨hk,_⟩:=v.wk w hw
 have hlt:=wk_lt hb hk
 have hlen:w.2.2.length≤g.E.length:=by
  rw[← v.pm.length_eq]
  have:∀ (F:List Kur.Way),w∈F→w.2.2.length≤(F.flatMap fun w=>w.2.2).length:=by
   intro F
   induction F with
   | nil=>intro h; cases h
   | cons a r ih =>
     intro h
     rw[List.flatMap_cons,List.length_append]
     rcases List.mem_cons.1 h with rfl|h
     ·omega
     ·have:=ih h; omega
  exact this _ hw
 refine⟨w,hw,?_,hew,hlen⟩
 rcases hk.edge hew he hx with ⟨h1,h2⟩|⟨h1,h2⟩
 ·refine .inl ⟨h1.symm,h2,fun h=>?_⟩
  have hc:=v.cl w.2.1 hlt.2 h w hw (by unfold atW; simp)
  exact hx (by rw[h1,hc]; exact h)
 ·refine .inr ⟨h1.symm,h2,fun h=>?_⟩
  have hc:=v.cl w.1 hlt.1 h w hw (by unfold atW; simp)
  exact hx (by rw[h1,← hc]; exact h)
theorem alive_of (hb:AllB g N) {x:Nat} (hx:g.deg x≠2):Alive g x:=fun e he=>by
 obtain⟨w,hw,h,_,hl⟩:=way_at hb hx he
 have hk:=((finW_inv (g:=g) N).wk w hw).1
 rcases h with ⟨rfl,h2,h3⟩|⟨rfl,h2,h3⟩
 ·exact⟨w.2.2,w.2.1,hk,h2,h3,hl⟩
 ·exact⟨w.2.2.reverse,w.1,hk.rev,by rw[List.head?_reverse]; exact h2,h3,by rw[List.length_reverse]; exact hl⟩
theorem fr_at (hb:AllB g N) {x e:Nat} (hx:g.deg x≠2) (he:e∈g.ends x) :
 ∃ w∈finW g N,e∈w.2.2∧(fr g x e).1.Perm w.2.2∧((w.1=x∧w.2.2.head?=some e∧(fr g x e).2=w.2.1∧g.deg w.2.1≠2)∨(w.2.1=x∧w.2.2.getLast?=some e∧(fr g x e).2=w.1∧g.deg w.1≠2)):=by
 obtain⟨w,hw,h,hm,hl⟩:=way_at hb hx he
 have hk:=((finW_inv (g:=g) N).wk w hw).1
 rcases h with ⟨rfl,h2,h3⟩|⟨rfl,h2,h3⟩
 ·have:=hk.far h3 h2 hl
  unfold fr
  rw[this]
  exact⟨w,hw,hm,.refl _,.inl ⟨rfl,h2,rfl,h3⟩⟩
 ·have:=hk.rev.far h3 (e:=e) (f:=g.E.length) (by rw[List.head?_reverse]; exact h2) (by rw[List.length_reverse]; exact hl)
  unfold fr
  rw[this]
  exact⟨w,hw,hm,List.reverse_perm _,.inr ⟨rfl,h2,rfl,h3⟩⟩
theorem nc_loops (hn:NC (finW g N)):∀ i∈g.E,g.tl i≠g.hd i:=fun i hi e=>by
 refine finW_keep (g:=g) ?_ N hn
 intro h
 refine h (min (g.tl i) (g.hd i),max (g.tl i) (g.hd i),[i]) (List.mem_map.2 ⟨i,hi,rfl⟩) ?_
 unfold closed
 simp only[]
 omega
def hl2 (x:Nat) (w:Kur.Way):List Nat:=(if w.1=x then w.2.2.head?.toList else [])++(if w.2.1=x then w.2.2.getLast?.toList else [])
theorem ends_nodup (hl:∀ i∈g.E,g.tl i≠g.hd i) (x:Nat):(g.ends x).Nodup:=by
 have:(g.E.flatMap fun i=>[i]).Nodup:=by simpa using g.nd
 refine nodup_sub (A:=fun i=>[i]) this fun i hi=>⟨?_,fun y hy=>?_⟩
 ·unfold Gr.at1
  have:=hl i hi
  by_cases h1:g.tl i=x<;>by_cases h2:g.hd i=x
  ·omega
  ·simp [h1,h2]
  ·simp [h1,h2]
  ·simp [h1,h2]
 ·unfold Gr.at1 at hy
  rcases List.mem_append.1 hy with hy|hy
  ·split at hy
   ·exact hy
   ·cases hy
  ·split at hy
   ·exact hy
   ·cases hy
theorem ends_perm (hb:AllB g N) (hn:NC (finW g N)) {x:Nat} (hx:g.deg x≠2):(g.ends x).Perm ((finW g N).flatMap (hl2 x)):=by
 have v:=finW_inv (g:=g) N
 have hnd:((finW g N).flatMap (hl2 x)).Nodup:=by
  refine nodup_sub (A:=fun w=>w.2.2) fin_nodup fun w hw=>⟨?_,fun y hy=>?_⟩
  ·have hc:=hn w hw
   unfold closed at hc
   unfold hl2
   by_cases h1:w.1=x<;>by_cases h2:w.2.1=x
   ·omega
   ·rw[if_pos h1,if_neg h2]
    cases w.2.2.head?<;>simp
   ·rw[if_neg h1,if_pos h2]
    cases w.2.2.getLast?<;>simp
   ·rw[if_neg h1,if_neg h2]
    simp
  ·unfold hl2 at hy
   rcases List.mem_append.1 hy with hy|hy
   ·split at hy
    ·rw[Option.mem_toList] at hy; exact List.mem_of_mem_head? hy
    ·cases hy
   ·split at hy
    ·rw[Option.mem_toList] at hy; exact List.mem_of_getLast? hy
    ·cases hy
 refine (List.perm_ext_iff_of_nodup (ends_nodup (nc_loops hn) x) hnd).2 fun e=>?_
 constructor
 ·intro he
  obtain⟨w,hw,h,_⟩:=way_at hb hx he
  refine List.mem_flatMap.2 ⟨w,hw,?_⟩
  unfold hl2
  rw[List.mem_append]
  rcases h with ⟨h1,h2,_⟩|⟨h1,h2,_⟩
  ·left; rw[if_pos h1,h2]; simp
  ·right; rw[if_pos h1,h2]; simp
 ·intro he
  obtain⟨w,hw,hy⟩:=List.mem_flatMap.1 he
  have hk:=(v.wk w hw).1
  unfold hl2 at hy
  rcases List.mem_append.1 hy with hy|hy
  ·split at hy
   ·rename_i h1
    rw[Option.mem_toList] at hy
    cases hq:w.2.2 with
    | nil=>exact absurd hq hk.ne
    | cons a r =>
      rw[hq] at hk hy
      cases hy
      rw[← h1]
      exact hk.head
   ·cases hy
  ·split at hy
   ·rename_i h1
    rw[Option.mem_toList] at hy
    obtain⟨e',q1,q2⟩:=hk.last
    rw[q1] at hy
    cases hy
    rw[← h1]
    exact q2
   ·cases hy
theorem fins_perm (hb:AllB g N) (hn:NC (finW g N)) {x:Nat} (hx:g.deg x≠2):(fins g x (g.ends x)).Perm (nb ((finW g N).map prW) x):=by
 have v:=finW_inv (g:=g) N
 unfold fins
 refine ((ends_perm hb hn hx).map fun e=>(fr g x e).2).trans ?_
 rw[List.map_flatMap]
 unfold nb
 rw[List.flatMap_map]
 have:∀ w∈finW g N,(hl2 x w).map (fun e=>(fr g x e).2)=(if (prW w).1=x then [(prW w).2] else [])++(if (prW w).2=x then [(prW w).1] else []):=fun w hw=>by
  have hk:=(v.wk w hw).1
  have hc:=hn w hw
  unfold closed at hc
  unfold hl2 prW
  rw[List.map_append]
  congr 1
  ·split
   ·rename_i h1
    cases hq:w.2.2 with
    | nil=>exact absurd hq hk.ne
    | cons a r =>
      simp only[List.head?_cons,Option.toList_some,List.map_cons,List.map_nil]
      have he:a∈g.ends x:=by rw[hq] at hk; rw[← h1]; exact hk.head
      obtain⟨u,hu,hm,_,h⟩:=fr_at hb hx he
      have:=one_way fin_nodup hw hu (e:=a) (by rw[hq]; exact List.mem_cons_self ..) hm
      subst this
      rcases h with ⟨_,_,h4,_⟩|⟨h3,_⟩
      ·rw[h4]
      ·omega
   ·rfl
  ·split
   ·rename_i h1
    obtain⟨a,q1,q2⟩:=hk.last
    rw[q1]
    simp only[Option.toList_some,List.map_cons,List.map_nil]
    have he:a∈g.ends x:=by rw[← h1]; exact q2
    obtain⟨u,hu,hm,_,h⟩:=fr_at hb hx he
    have:=one_way fin_nodup hw hu (e:=a) (List.mem_of_getLast? q1) hm
    subst this
    rcases h with ⟨h3,_⟩|⟨_,_,h4,_⟩
    ·omega
    ·rw[h4]
   ·rfl
 rw[List.flatMap_def,List.flatMap_def,List.map_congr_left this]
theorem nb_deg (hb:AllB g N) (hn:NC (finW g N)) (x:Nat) (hx:x<N):(nb ((finW g N).map prW) x).length=if g.deg x=2 then 0 else g.deg x:=by
 have v:=finW_inv (g:=g) N
 rw[nb_len,List.flatMap_map]
 have he:((finW g N).flatMap fun w=>[(prW w).1,(prW w).2]).count x=ec (finW g N) x:=rfl
 rw[he]
 split
 ·rename_i h
  unfold ec
  rw[List.count_eq_zero]
  intro hm
  obtain⟨w,hw,hxw⟩:=List.mem_flatMap.1 hm
  refine hn w hw (v.cl x hx h w hw ?_)
  unfold endsW at hxw
  unfold atW
  simp at hxw
  simp
  omega
 ·rename_i h
  exact v.ct x (.inr h)
theorem deg_pos {x:Nat}:g.ends x≠[]↔0<g.deg x:=by
 unfold Gr.deg
 rw[List.length_pos_iff]
theorem heads_hds (hb:AllB g N) (hn:NC (finW g N)) {hs:List Nat} (h:HeadsOf g hs):hs=hds N ((finW g N).map prW):=by
 refine rise_ext h.1 (hds_rise N _) fun x=>?_
 rw[h.2]
 unfold hds
 rw[List.mem_filter,List.mem_range,decide_eq_true_eq]
 constructor
 ·rintro⟨h1,h2⟩
  obtain⟨e,he⟩:=List.exists_mem_of_ne_nil _ h1
  have hx:=ends_lt hb he
  refine⟨hx,?_⟩
  rw[nb_deg hb hn x hx,if_neg h2]
  exact deg_pos.1 h1
 ·rintro⟨h1,h2⟩
  rw[nb_deg hb hn x h1] at h2
  split at h2
  ·omega
  ·exact⟨deg_pos.2 h2,‹_›⟩
theorem mark_sub (hb:AllB g N) {x:Nat} (hx:g.deg x≠2):∀ i∈marksM g x,∃ w∈finW g N,i∈w.2.2∧(w.1=x∨w.2.1=x):=fun i hi=>by
 unfold marksM mrks at hi
 obtain⟨e,he,hie⟩:=List.mem_flatMap.1 hi
 obtain⟨w,hw,_,hp,h⟩:=fr_at hb hx he
 exact⟨w,hw,hp.mem_iff.1 hie,h.elim (fun q=>.inl q.1) fun q=>.inr q.1⟩
theorem marks_E (hb:AllB g N) {l:List Nat} (hl:∀ x∈l,g.deg x≠2):∀ i∈l.flatMap (marksM g),i∈g.E:=fun i hi=>by
 obtain⟨x,hx,hix⟩:=List.mem_flatMap.1 hi
 obtain⟨w,hw,hiw,_⟩:=mark_sub hb (hl x hx) i hix
 exact (finW_inv (g:=g) N).pm.mem_iff.1 (List.mem_flatMap.2 ⟨w,hw,hiw⟩)
theorem marks_all (hb:AllB g N) (hn:NC (finW g N)) {hs:List Nat} (h:HeadsOf g hs):∀ i∈g.E,i∈hs.flatMap (marksM g):=fun i hi=>by
 have v:=finW_inv (g:=g) N
 obtain⟨w,hw,hiw⟩:=List.mem_flatMap.1 (v.pm.mem_iff.2 hi)
 have hk:=(v.wk w hw).1
 have hlt:=wk_lt hb hk
 have hd:g.deg w.1≠2:=fun hd=>hn w hw (v.cl w.1 hlt.1 hd w hw (by unfold atW; simp))
 cases hq:w.2.2 with
 | nil=>exact absurd hq hk.ne
 | cons a r =>
   have he:a∈g.ends w.1:=by rw[hq] at hk; exact hk.head
   refine List.mem_flatMap.2 ⟨w.1,(h.2 _).2 ⟨List.ne_nil_of_mem he,hd⟩,?_⟩
   unfold marksM mrks
   refine List.mem_flatMap.2 ⟨a,he,?_⟩
   obtain⟨u,hu,hm,hp,_⟩:=fr_at hb hd he
   have:=one_way fin_nodup hw hu (e:=a) (by rw[hq]; exact List.mem_cons_self ..) hm
   subst this
   exact hp.mem_iff.2 hiw
theorem keys_len {l:List Nat} (h1:∀ i∈l,i∈g.E) (h2:∀ i∈g.E,i∈l):(addAll [] l).length=g.E.length:=by
 have hnd:(addAll [] l).Nodup:=addAll_nodup List.nodup_nil
 refine Nat.le_antisymm (len_le_of_sub hnd fun i hi=>?_) (len_le_of_sub g.nd fun i hi=>?_)
 ·rcases addAll_mem.1 hi with h|h
  ·cases h
  ·exact h1 i h
 ·exact addAll_mem.2 (.inr (h2 i hi))
theorem keys_less (hb:AllB g N) {l:List Nat} (hl:∀ x∈l,g.deg x≠2) {w:Kur.Way} (hw:w∈finW g N) (hc:closed w) (hd:g.deg w.1=2):(addAll [] (l.flatMap (marksM g))).length≠g.E.length:=by
 have v:=finW_inv (g:=g) N
 have hk:=(v.wk w hw).1
 obtain⟨e,he⟩:=List.exists_mem_of_ne_nil _ hk.ne
 have hnm:e∉addAll [] (l.flatMap (marksM g)):=fun h=>by
  rcases addAll_mem.1 h with h|h
  ·cases h
  ·obtain⟨x,hx,hix⟩:=List.mem_flatMap.1 h
   obtain⟨u,hu,heu,hor⟩:=mark_sub hb (hl x hx) e hix
   have:=one_way fin_nodup hw hu he heu
   subst this
   unfold closed at hc
   refine hl x hx ?_
   rcases hor with q|q
   ·rw[← q]; exact hd
   ·rw[← q,← hc]; exact hd
 have hnd:(addAll [] (l.flatMap (marksM g))).Nodup:=addAll_nodup List.nodup_nil
 have hE:e∈g.E:=hk.mem e he
 have:(e::addAll [] (l.flatMap (marksM g))).length≤g.E.length:=len_le_of_sub (List.nodup_cons.2 ⟨hnm,hnd⟩) fun i hi=>by
  rcases List.mem_cons.1 hi with rfl|hi
  ·exact hE
  ·rcases addAll_mem.1 hi with h|h
   ·cases h
   ·exact marks_E hb hl i h
 rw[List.length_cons] at this
 omega
theorem self_meets {w:Kur.Way} (hb:AllB g N) (hw:w∈finW g N) (hc:closed w) (hd:g.deg w.1≠2):w.1∈meetsM g w.1∧g.ends w.1≠[]:=by
 have v:=finW_inv (g:=g) N
 have hk:=(v.wk w hw).1
 cases hq:w.2.2 with
 | nil=>exact absurd hq hk.ne
 | cons a r =>
   have he:a∈g.ends w.1:=by rw[hq] at hk; exact hk.head
   refine⟨?_,List.ne_nil_of_mem he⟩
   unfold meetsM fins
   rw[(sortN_perm _).mem_iff]
   refine List.mem_map.2 ⟨a,he,?_⟩
   obtain⟨u,hu,hm,hp,h⟩:=fr_at hb hd he
   have:=one_way fin_nodup hw hu (e:=a) (by rw[hq]; exact List.mem_cons_self ..) hm
   subst this
   unfold closed at hc
   rcases h with ⟨_,_,h4,_⟩|⟨_,_,h4,_⟩
   ·rw[h4,hc]
   ·exact h4
def found5 (g:Gr):Prop:=∃ hs,HeadsOf g hs∧(∀ x∈hs,g.deg x=4)∧full5 g hs=true∧(addAll [] (hs.flatMap (marksM g))).length=g.E.length
def found33 (g:Gr):Prop:=∃ hs,HeadsOf g hs∧(∀ x∈hs,g.deg x=3)∧full33 g hs=true∧(addAll [] (marksM g (hs.headD 0)++hs.flatMap (marksM g))).length=g.E.length
theorem meets_iff (hb:AllB g N) (hn:NC (finW g N)) {x:Nat} (hx:g.deg x≠2) {m:List Nat} (hm:m.Pairwise (·≤·)):meetsM g x=m↔(nb ((finW g N).map prW) x).Perm m:=by
 unfold meetsM
 rw[sortN_iff hm]
 have hp:=fins_perm hb hn hx
 exact⟨fun h=>hp.symm.trans h,fun h=>hp.trans h⟩
theorem heads_ex (g:Gr) (hb:AllB g N):∃ hs,HeadsOf g hs:=⟨(List.range N).filter fun x=>decide (g.ends x≠[]∧g.deg x≠2),List.pairwise_lt_range.filter _,fun x=>by
 rw[List.mem_filter,List.mem_range,decide_eq_true_eq]
 refine⟨fun h=>h.2,fun h=>⟨?_,h⟩⟩
 obtain⟨e,he⟩:=List.exists_mem_of_ne_nil _ h.1
 exact ends_lt hb he⟩
theorem found5_iff (hb:AllB g N):found5 g↔NC (finW g N)∧prog5 N ((finW g N).map prW):=by
 by_cases hn:NC (finW g N)
 ·rw[and_iff_right hn]
  have key:∀ hs,HeadsOf g hs→((∀ x∈hs,g.deg x=4)∧full5 g hs=true↔prog5 N ((finW g N).map prW)):=fun hs h=>by
   have he:=heads_hds hb hn h
   unfold prog5
   rw[← he]
   have hd:∀ x∈hs,g.deg x≠2∧x<N:=fun x hx=>by
    obtain⟨h1,h2⟩:=(h.2 x).1 hx
    obtain⟨e,he⟩:=List.exists_mem_of_ne_nil _ h1
    exact⟨h2,ends_lt hb he⟩
   have e1:(∀ x∈hs,g.deg x=4)↔∀ v∈hs,(nb ((finW g N).map prW) v).length=4:=by
    constructor
    ·intro q x hx
     rw[nb_deg hb hn x (hd x hx).2,if_neg (hd x hx).1]; exact q x hx
    ·intro q x hx
     have:=q x hx
     rwa [nb_deg hb hn x (hd x hx).2,if_neg (hd x hx).1] at this
   have e2:full5 g hs=true↔hs.length=5∧∀ x∈hs,(nb ((finW g N).map prW) x).Perm (hs.filter fun y=>!decide (y=x)):=by
    unfold full5
    rw[Bool.and_eq_true,decide_eq_true_eq,List.all_eq_true]
    refine and_congr_right fun _=>?_
    refine forall_congr' fun x=>forall_congr' fun hx=>?_
    unfold all5
    rw[beq_iff_eq]
    exact meets_iff hb hn (hd x hx).1 ((h.1.imp fun h=>Nat.le_of_lt h).filter _)
   rw[e1,e2]
  constructor
  ·rintro⟨hs,h1,h2,h3,_⟩
   exact (key hs h1).1 ⟨h2,h3⟩
  ·intro hp
   obtain⟨hs,h1⟩:=heads_ex g hb
   obtain⟨h2,h3⟩:=(key hs h1).2 hp
   exact⟨hs,h1,h2,h3,keys_len (marks_E hb fun x hx=>((h1.2 x).1 hx).2) (marks_all hb hn h1)⟩
 ·refine⟨?_,fun h=>absurd h.1 hn⟩
  rintro⟨hs,h1,h2,h3,h4⟩
  exfalso
  refine hn fun w hw hc=>?_
  by_cases hd:g.deg w.1=2
  ·exact keys_less hb (fun x hx=>((h1.2 x).1 hx).2) hw hc hd h4
  ·obtain⟨m1,m2⟩:=self_meets hb hw hc hd
   unfold full5 at h3
   rw[Bool.and_eq_true,List.all_eq_true] at h3
   have:=h3.2 w.1 ((h1.2 _).2 ⟨m2,hd⟩)
   unfold all5 at this
   rw[beq_iff_eq] at this
   rw[this,List.mem_filter] at m1
   simp at m1
theorem found33_iff (hb:AllB g N):found33 g↔NC (finW g N)∧prog33 N ((finW g N).map prW):=by
 by_cases hn:NC (finW g N)
 ·rw[and_iff_right hn]
  have key:∀ hs,HeadsOf g hs→((∀ x∈hs,g.deg x=3)∧full33 g hs=true↔prog33 N ((finW g N).map prW)):=fun hs h=>by
   have he:=heads_hds hb hn h
   unfold prog33
   rw[← he]
   have hd:∀ x∈hs,g.deg x≠2∧x<N:=fun x hx=>by
    obtain⟨h1,h2⟩:=(h.2 x).1 hx
    obtain⟨e,he⟩:=List.exists_mem_of_ne_nil _ h1
    exact⟨h2,ends_lt hb he⟩
   have e1:(∀ x∈hs,g.deg x=3)↔∀ v∈hs,(nb ((finW g N).map prW) v).length=3:=by
    constructor
    ·intro q x hx
     rw[nb_deg hb hn x (hd x hx).2,if_neg (hd x hx).1]; exact q x hx
    ·intro q x hx
     have:=q x hx
     rwa [nb_deg hb hn x (hd x hx).2,if_neg (hd x hx).1] at this
   rw[e1]
   refine and_congr_right fun _=>?_
   unfold full33
   rw[Bool.and_eq_true,decide_eq_true_eq,List.all_eq_true]
   cases hs with
   | nil=>simp
   | cons h0 r =>
     have hd0:=(hd h0 (List.mem_cons_self ..)).1
     have hT:∀ y,y∈meetsM g h0↔y∈nb ((finW g N).map prW) h0:=fun y=>by
      unfold meetsM
      rw[(sortN_perm _).mem_iff]
      exact (fins_perm hb hn hd0).mem_iff
     have hTp:(nb ((finW g N).map prW) h0).Perm (meetsM g h0):=(fins_perm hb hn hd0).symm.trans (sortN_perm _).symm
     have hS:sideM g (h0::r) (meetsM g h0)=(h0::r).filter fun y=>!sideB ((finW g N).map prW) h0 y:=by
      unfold sideM sideB
      refine List.filter_congr fun y _=>?_
      congr 1
      rw[decide_eq_decide]
      exact hT y
     have hok:∀ x∈h0::r,(okH g (h0::r) (meetsM g h0) x=true↔if sideB ((finW g N).map prW) h0 x then (nb ((finW g N).map prW) x).Perm ((h0::r).filter fun y=>!sideB ((finW g N).map prW) h0 y)∧((h0::r).filter fun y=>!sideB ((finW g N).map prW) h0 y).length=3 else (nb ((finW g N).map prW) x).Perm (nb ((finW g N).map prW) h0)∧(nb ((finW g N).map prW) h0).length=3):=fun x hx=>by
      unfold okH
      rw[Bool.and_eq_true,beq_iff_eq,decide_eq_true_eq,hS]
      by_cases q:x∈meetsM g h0
      ·have q2:sideB ((finW g N).map prW) h0 x=true:=decide_eq_true ((hT x).1 q)
       rw[if_pos q,if_pos q2,meets_iff hb hn (hd x hx).1 ((h.1.imp fun h=>Nat.le_of_lt h).filter _)]
      ·have q2:¬ sideB ((finW g N).map prW) h0 x=true:=fun e=>q ((hT x).2 (of_decide_eq_true e))
       rw[if_neg q,if_neg q2,meets_iff hb hn (hd x hx).1 (by unfold meetsM; exact sortN_le _),hTp.length_eq]
       refine and_congr_left fun _=>⟨fun t=>t.trans hTp.symm,fun t=>t.trans hTp⟩
     constructor
     ·rintro⟨q1,q2⟩
      exact⟨h0,r,rfl,by simpa using q1,fun x hx=>(hok x hx).1 (q2 x hx)⟩
     ·rintro⟨h0',r',e,q1,q2⟩
      cases e
      exact⟨by simpa using q1,fun x hx=>(hok x hx).2 (q2 x hx)⟩
  constructor
  ·rintro⟨hs,h1,h2,h3,_⟩
   exact (key hs h1).1 ⟨h2,h3⟩
  ·intro hp
   obtain⟨hs,h1⟩:=heads_ex g hb
   obtain⟨h2,h3⟩:=(key hs h1).2 hp
   have hne:hs.headD 0∈hs:=by
    unfold full33 at h3
    rw[Bool.and_eq_true,decide_eq_true_eq] at h3
    cases hs with
    | nil=>simp at h3
    | cons a r=>exact List.mem_cons_self ..
   refine⟨hs,h1,h2,h3,keys_len (fun i hi=>?_) fun i hi=>List.mem_append_right _ (marks_all hb hn h1 i hi)⟩
   rcases List.mem_append.1 hi with hi|hi
   ·exact marks_E hb (fun x hx=>((h1.2 x).1 hx).2) i (List.mem_flatMap.2 ⟨_,hne,hi⟩)
   ·exact marks_E hb (fun x hx=>((h1.2 x).1 hx).2) i hi
 ·refine⟨?_,fun h=>absurd h.1 hn⟩
  rintro⟨hs,h1,h2,h3,h4⟩
  exfalso
  have h3':=h3
  unfold full33 at h3
  rw[Bool.and_eq_true,decide_eq_true_eq,List.all_eq_true] at h3
  have hne:hs.headD 0∈hs:=by
   cases hs with
   | nil=>simp at h3
   | cons a r=>exact List.mem_cons_self ..
  refine hn fun w hw hc=>?_
  by_cases hd:g.deg w.1=2
  ·refine keys_less hb (l:=hs.headD 0::hs) (fun x hx=>?_) hw hc hd (by rw[List.flatMap_cons]; exact h4)
   rcases List.mem_cons.1 hx with rfl|hx
   ·exact ((h1.2 _).1 hne).2
   ·exact ((h1.2 x).1 hx).2
  ·obtain⟨m1,m2⟩:=self_meets hb hw hc hd
   have:=h3.2 w.1 ((h1.2 _).2 ⟨m2,hd⟩)
   unfold okH at this
   rw[Bool.and_eq_true,beq_iff_eq] at this
   obtain⟨q,_⟩:=this
   split at q
   ·rename_i hT
    rw[q] at m1
    unfold sideM at m1
    rw[List.mem_filter] at m1
    have m2:=m1.2
    rw[decide_eq_true hT] at m2
    cases m2
   ·rename_i hT
    rw[q] at m1
    exact hT m1
end Go.Proofs.YtldkniahgagocaaGreat
namespace Go.Proofs.YtldkniahgagocaaGreat
open Go.Am
open Go.Kur (Gr Wk)
theorem heads_one {g:Gr}{hs hs':List Nat} (h:HeadsOf g hs) (h':HeadsOf g hs'):hs=hs':=rise_ext h.1 h'.1 fun x=>(h.2 x).trans (h'.2 x).symm
theorem below_of {n:Int}{E:List (Int×Int)}{L:List Int} (hp:LayP n E L):AllB (grK E L hp.nodup.1) n.toNat:=fun i hi=>by
 obtain⟨z,hz,rfl⟩:=List.mem_map.1 hi
 obtain⟨o1,o2,o3,o4,o5,o6⟩:=hp.nodup.2 z hz
 exact⟨by show tlK E z.toNat<_; unfold tlK; omega,by show hdK E z.toNat<_; unfold hdK; omega⟩
def Told (g:Gr) (r:AV):Prop:=(found5 g∧r=.int .i64 5)∨(¬ found5 g∧found33 g∧r=.int .i64 33)∨(¬ found5 g∧¬ found33 g∧r=.int .i64 0)
set_option maxHeartbeats 2000000 in
theorem kwhat_ok {h:AH}{n:Int}{ev lv:AV}{E:List (Int×Int)}{L:List Int} (he:SlE h ev E) (hL:SlI h lv L) (hel:E.length<2 ^ 28) (hll:L.length<2 ^ 28) (hn:n<2 ^ 28) :
 C prg 5 [.agg [.int .i64 n,ev],lv] h fun r h'=>Ext h.next h h'∧((¬ LayP n E L∧r=.int .i64 0)∨∃ hp:LayP n E L,Told (grK E L hp.nodup.1) r):=by
 obtain⟨ec,eo⟩:=he.cells
 obtain⟨lc,lo'⟩:=hL.cells
 have hLl:=hL.len
 rw[List.length_map] at hLl
 refine C.func pf5 ?_
 refine W.seq (W.run (by simp only[am,evOp,simprocAttr,initTm]<;>rfl) ?_)
 have x0:Ext h.next h (h.new (.cells [.int .i64 n,ev] 2 false)):=Ext.new (Nat.le_refl _)
 have g0:(h.new (.cells [.int .i64 n,ev] 2 false)).get h.next=some (.cells [.int .i64 n,ev] 2 false):=by rw[AH.get_new,if_pos rfl]
 have n0:(h.new (.cells [.int .i64 n,ev] 2 false)).next=h.next+1:=rfl
 generalize h.new (.cells [.int .i64 n,ev] 2 false)=h1 at *
 have r0:rdCells h1 h.next 0 2=some [.int .i64 n,ev]:=by rw[rdCells_of g0]; rfl
 refine W.seq (W.reg (G.gcall 2 (by simp only[am,evOp,simprocAttr,initTm,r0]<;>rfl) rfl (by simp only[am,evOp,simprocAttr,initTm,r0]) (by simp only[am,evOp,simprocAttr,initTm,r0]<;>rfl) (lay_ok (n:=n) (he.ext x0 (Nat.le_refl _)) (hL.ext x0 (Nat.le_refl _)) hel hll hn) fun r h2 hq=>?_))
 obtain⟨x2,hq⟩:=hq
 have n2:=x2.nx
 have X2:Ext h.next h h2:=x0.trans (x2.mono (by omega))
 rcases hq with ⟨hp,wb,rfl,w⟩|⟨hnp,rfl⟩
 case inr =>
  refine G.run (by simp only[am,evOp,simprocAttr]<;>rfl) ?_
  refine W.seq (W.seq (W.run (by simp only[am,evOp,simprocAttr]<;>rfl) ?_))
  refine W.yes (by simp only[am,evOp,simprocAttr]) (W.seq (W.run (by simp only[am,evOp,simprocAttr]<;>rfl) ?_))
  exact W.ret ⟨_,(by simp only[rs,rf5,am,evOp,simprocAttr]<;>rfl),X2,.inl ⟨hnp,rfl⟩⟩
 refine G.run (by simp only[am,evOp,simprocAttr]<;>rfl) ?_
 refine W.seq (W.seq (W.run (by simp only[am,evOp,simprocAttr]<;>rfl) ?_))
 refine W.no (by simp only[am,evOp,simprocAttr]) (W.skip ?_)
 have hb:=below_of hp
 have hgE:(grK E L hp.nodup.1).E.length=L.length:=by show (nL L).length=_; unfold nL; rw[List.length_map]
 have hT:∀ r,Told (grK E L hp.nodup.1) r→∃ hp:LayP n E L,Told (grK E L hp.nodup.1) r:=fun r t=>⟨hp,t⟩
 generalize grK E L hp.nodup.1=g at w hb hgE hT
 have hal:∀ {hs:List Nat},HeadsOf g hs→∀ x∈hs,Alive g x∧x<2 ^ 31:=fun {hs} q x hx=>by
  obtain⟨q1,q2⟩:=(q.2 x).1 hx
  obtain⟨e,he⟩:=List.exists_mem_of_ne_nil _ q1
  have:=ends_lt hb he
  exact⟨alive_of hb q2,by omega⟩
 have hhl:∀ {hs:List Nat},HeadsOf g hs→hs.length<2 ^ 30:=fun {hs} q=>by
  have:=Kur.len_le_of_sub (l:=hs) (m:=List.range n.toNat) (q.1.imp fun h=>by omega) fun x hx=>by
   obtain⟨q1,q2⟩:=(q.2 x).1 hx
   obtain⟨e,he⟩:=List.exists_mem_of_ne_nil _ q1
   exact List.mem_range.2 (ends_lt hb he)
  rw[List.length_range] at this
  omega
 have x3:Ext h2.next h2 (h2.new (.mapo [] 0)):=Ext.new (Nat.le_refl _)
 have g3:(h2.new (.mapo [] 0)).get h2.next=some (.mapo [] 0):=by rw[AH.get_new,if_pos rfl]
 have n3:(h2.new (.mapo [] 0)).next=h2.next+1:=rfl
 refine W.seq (W.run (by simp only[am,evOp,simprocAttr]<;>rfl) ?_)
 generalize h2.new (.mapo [] 0)=h3 at *
 have m3:MapK h3 h2.next []:=MapK.nil g3
 have hh4:C prg 10 [.ptr wb 0,.int .i64 4] h3 _:=heads_ok (cnt:=4) w x3 (by omega)
 refine W.seq (W.cut (fun ts h'=>¬ found5 g∧Ext h2.next h2 h'∧(∃ ks,MapK h' h2.next ks)∧Held [(1,lv),(5,.ptr wb 0),(7,.mp h2.next)] ts) ?_ ?_)
 ·refine W.seq (W.reg (G.gcall 1 (by simp only[am,evOp,simprocAttr,initTm]<;>rfl) rfl (by simp only[am,evOp,simprocAttr,initTm]) (by simp only[am,evOp,simprocAttr,initTm]<;>rfl) (hh4) fun r h4 hq=>?_))
  obtain⟨x4,hq⟩:=hq
  have n4:=x4.nx
  have X4:Ext h2.next h2 h4:=x3.trans (x4.mono (by omega))
  have m4:MapK h4 h2.next []:=m3.cong (x4.gt _ (by omega))
  rcases hq with ⟨a,hs,rfl,ia,hH,h44⟩|⟨rfl,x,q1,q2,q3⟩
  ·refine G.run (by simp only[am,evOp,simprocAttr]<;>rfl) ?_
   have hfull:=full_ok w X4 m4 (Nat.le_refl _) (nC_sl ia) (hhl hH) (hal hH)
   refine W.seq (W.reg (G.gcall 5 (by simp only[am,evOp,simprocAttr,initTm]<;>rfl) rfl (by simp only[am,evOp,simprocAttr,initTm]) (by simp only[am,evOp,simprocAttr,initTm]<;>rfl) (hfull) fun r h5 hq=>?_))
   obtain⟨rfl,k5,ks',m5,hks⟩:=hq
   have X5:=kp_ext (Nat.le_refl _) X4 k5
   have hl5:=m5.len
   cases hf:full5 g hs with
   | false =>
     refine G.run (by simp only[am,evOp,simprocAttr,initTm]<;>rfl) ?_
     refine W.no (by simp only[am,evOp,simprocAttr]) (W.skip ⟨fun ⟨hs',f1,f2,f3,f4⟩=>?_,X5,⟨ks',m5⟩,by simp only[hl,am,evOp,simprocAttr,initTm]⟩)
     rw[heads_one f1 hH,hf] at f3
     cases f3
   | true =>
     have hks:=hks hf
     by_cases hlen:ks'.length=L.length
     ·have c1:decide (((ks'.length:Nat):Int)=((L.length:Nat):Int))=true:=decide_eq_true (by omega)
      refine G.run (by simp only[am,evOp,simprocAttr,initTm,hl5,hLl,c1]<;>rfl) ?_
      refine W.yes (by simp only[am,evOp,simprocAttr]) (W.seq (W.run (by simp only[am,evOp,simprocAttr]<;>rfl) ?_))
      exact W.ret ⟨_,(by simp only[rs,rf5,am,evOp,simprocAttr]<;>rfl),X2.trans (X5.mono (by omega)),.inr (hT _ (.inl ⟨⟨hs,hH,h44,hf,by rw[← hks,hlen,hgE]⟩,rfl⟩))⟩
     ·have c1:decide (((ks'.length:Nat):Int)=((L.length:Nat):Int))=false:=decide_eq_false (by omega)
      refine G.run (by simp only[am,evOp,simprocAttr,initTm,hl5,hLl,c1]<;>rfl) ?_
      refine W.no (by simp only[am,evOp,simprocAttr]) (W.skip ⟨fun ⟨hs',f1,f2,f3,f4⟩=>?_,X5,⟨ks',m5⟩,by simp only[hl,am,evOp,simprocAttr,initTm]⟩)
      rw[heads_one f1 hH,← hks,hgE] at f4
      exact hlen f4
  ·refine G.run (by simp only[am,evOp,simprocAttr]<;>rfl) ?_
   refine W.seq (W.reg (G.nocall 5 (by simp only[am,evOp,simprocAttr,initTm]<;>rfl) rfl (by simp only[am,evOp,simprocAttr]) ?_))
   refine G.run (by simp only[am,evOp,simprocAttr,initTm]<;>rfl) ?_
   refine W.no (by simp only[am,evOp,simprocAttr]) (W.skip ⟨fun ⟨hs',f1,f2,f3,f4⟩=>?_,X4,⟨[],m4⟩,by simp only[hl,am,evOp,simprocAttr,initTm]⟩)
   exact q3 (f2 x ((f1.2 x).2 ⟨q1,q2⟩))
 rintro ts h5 ⟨hn5,X5,⟨ks,m5⟩,e1,e5,e7,-⟩
 simp only at e1 e5 e7
 obtain⟨h6,c6,m6,o6,u6⟩:=m5.clr
 have X6:Ext h2.next h2 h6:=X5.trans (u6.ext (Nat.le_refl _))
 refine W.seq (W.run (by simp only[am,evOp,simprocAttr,e7,c6]<;>rfl) ?_)
 have hh3:C prg 10 [.ptr wb 0,.int .i64 3] h6 _:=heads_ok (cnt:=3) w X6 (by omega)
 refine W.seq (W.cut (fun ts h'=>¬ found33 g∧Ext h2.next h2 h') ?_ ?_)
 ·refine W.seq (W.reg (G.gcall 1 (by simp only[am,evOp,simprocAttr,e5]<;>rfl) rfl (by simp only[am,evOp,simprocAttr,e5]) (by simp only[am,evOp,simprocAttr,e5]<;>rfl) (hh3) fun r h7 hq=>?_))
  obtain⟨x7,hq⟩:=hq
  have n7:=x7.nx
  have n6:=X6.nx
  have hdl:=m6.lt
  have X7:Ext h2.next h2 h7:=X6.trans (x7.mono (by omega))
  have m7:MapK h7 h2.next []:=m6.cong (x7.gt _ hdl)
  rcases hq with ⟨a,hs,rfl,ia,hH,h44⟩|⟨rfl,x,q1,q2,q3⟩
  ·refine G.run (by simp only[am,evOp,simprocAttr]<;>rfl) ?_
   have hhalf:=halves_ok w X7 m7 (Nat.le_refl _) (nC_sl ia) (hhl hH) (hal hH)
   refine W.seq (W.reg (G.gcall 5 (by simp only[am,evOp,simprocAttr,e5,e7]<;>rfl) rfl (by simp only[am,evOp,simprocAttr,e5,e7]) (by simp only[am,evOp,simprocAttr,e5,e7]<;>rfl) (hhalf) fun r h8 hq=>?_))
   obtain⟨rfl,k8,ks',m8,hks⟩:=hq
   have X8:=kp_ext (Nat.le_refl _) X7 k8
   have hl8:=m8.len
   cases hf:full33 g hs with
   | false =>
     refine G.run (by simp only[am,evOp,simprocAttr,e1,e7]<;>rfl) ?_
     refine W.no (by simp only[am,evOp,simprocAttr]) (W.skip ⟨fun ⟨hs',f1,f2,f3,f4⟩=>?_,X8⟩)
     rw[heads_one f1 hH,hf] at f3
     cases f3
   | true =>
     have hks:=hks hf
     by_cases hlen:ks'.length=L.length
     ·have c1:decide (((ks'.length:Nat):Int)=((L.length:Nat):Int))=true:=decide_eq_true (by omega)
      refine G.run (by simp only[am,evOp,simprocAttr,e1,e7,hl8,hLl,c1]<;>rfl) ?_
      refine W.yes (by simp only[am,evOp,simprocAttr]) (W.seq (W.run (by simp only[am,evOp,simprocAttr]<;>rfl) ?_))
      exact W.ret ⟨_,(by simp only[rs,rf5,am,evOp,simprocAttr]<;>rfl),X2.trans (X8.mono (by omega)),.inr (hT _ (.inr (.inl ⟨hn5,⟨hs,hH,h44,hf,by rw[← hks,hlen,hgE]⟩,rfl⟩)))⟩
     ·have c1:decide (((ks'.length:Nat):Int)=((L.length:Nat):Int))=false:=decide_eq_false (by omega)
      refine G.run (by simp only[am,evOp,simprocAttr,e1,e7,hl8,hLl,c1]<;>rfl) ?_
      refine W.no (by simp only[am,evOp,simprocAttr]) (W.skip ⟨fun ⟨hs',f1,f2,f3,f4⟩=>?_,X8⟩)
      rw[heads_one f1 hH,← hks,hgE] at f4
      exact hlen f4
  ·refine G.run (by simp only[am,evOp,simprocAttr]<;>rfl) ?_
   refine W.seq (W.reg (G.nocall 5 (by simp only[am,evOp,simprocAttr,e5,e7]<;>rfl) rfl (by simp only[am,evOp,simprocAttr]) ?_))
   refine G.run (by simp only[am,evOp,simprocAttr,e1,e7]<;>rfl) ?_
   refine W.no (by simp only[am,evOp,simprocAttr]) (W.skip ⟨fun ⟨hs',f1,f2,f3,f4⟩=>?_,X7⟩)
   exact q3 (f2 x ((f1.2 x).2 ⟨q1,q2⟩))
 ·rintro ts h8 ⟨hn33,X8⟩
  refine W.seq (W.run (by simp only[am,evOp,simprocAttr]<;>rfl) ?_)
  exact W.ret ⟨_,(by simp only[rs,rf5,am,evOp,simprocAttr]<;>rfl),X2.trans (X8.mono (by omega)),.inr (hT _ (.inr (.inr ⟨hn5,hn33,rfl⟩)))⟩
end Go.Proofs.YtldkniahgagocaaGreat
namespace Go.Proofs.YtldkniahgagocaaGreat
open Go.Am
open Go.Kur
def pE (p:Nat×Nat):Int×Int:=(((p.1:Nat):Int),((p.2:Nat):Int))
def pC (l:List (Nat×Nat)):List AV:=(l.map pE).flatMap eE
def pr0 (E:List (Int×Int)) (i:Nat):Nat×Nat:=(min (tlK E i) (hdK E i),max (tlK E i) (hdK E i))
def l0 (E:List (Int×Int)) (L:List Int):List (Nat×Nat):=(nL L).map (pr0 E)
def OkR (n:Int) (E:List (Int×Int)) (i:Int):Prop:=OkE n E i∧(E.getD i.toNat (0,0)).1≠(E.getD i.toNat (0,0)).2
def LayR (n:Int) (E:List (Int×Int)) (L:List Int):Prop:=∀ (k:Nat) (hk:k<L.length),OkR n E L[k]∧L[k]∉L.take k
theorem LayR.lay {n:Int}{E:List (Int×Int)}{L:List Int} (h:LayR n E L):LayP n E L:=fun k hk=>⟨(h k hk).1.1,(h k hk).2⟩
theorem pC_len (l:List (Nat×Nat)):(pC l).length=l.length*2:=by
 unfold pC
 rw[flat_len (f:=eE) (e:=2) (fun _=>rfl),List.length_map]
theorem pC_app (a b:List (Nat×Nat)):pC (a++b)=pC a++pC b:=by
 unfold pC
 rw[List.map_append,List.flatMap_append]
theorem pC_sl {h:AH}{lo:Nat}{v:AV}{l:List (Nat×Nat)} (hv:IsSl h 2 lo v (pC l)):SlE h v (l.map pE):=IsSl.sl (by omega) (fun _=>rfl) hv
theorem l0_succ {E:List (Int×Int)}{L:List Int}{k:Nat} (hk:k<L.length) {i:Nat} (hi:L[k]=((i:Nat):Int)):l0 E (L.take (k+1))=l0 E (L.take k)++[pr0 E i]:=by
 unfold l0 nL
 rw[List.take_succ_eq_append_getElem hk,List.map_append,List.map_append,hi]
 rfl
theorem smP_len {x:Nat}{l l':List (Nat×Nat)} (h:smP x l=some l'):l'.length≤l.length:=by
 unfold smP at h
 split at h
 ·rename_i p q hf
  split at h
  ·cases h
  ·cases h
   have:=flt_len_add l (atP x)
   rw[hf] at this
   simp only[List.length_cons,List.length_nil] at this
   rw[List.length_append,List.length_cons,List.length_nil]
   omega
 ·cases h
  exact Nat.le_refl _
theorem finP_len {l l':List (Nat×Nat)}:∀ {k:Nat},finP l k=some l'→l'.length≤l.length
 | 0,h=>by
   cases h
   exact Nat.le_refl _
 | k+1,h=>by
   rw[finP_succ] at h
   obtain⟨m,h1,h2⟩:=Option.bind_eq_some_iff.1 h
   exact Nat.le_trans (smP_len h2) (finP_len h1)
theorem finP_facts {g:Gr}{N:Nat} (hb:AllB g N) (h0:NC (iniW g)) {k:Nat}{l:List (Nat×Nat)} (h:finP ((iniW g).map prW) k=some l):l=(finW g k).map prW∧NC (finW g k)∧Srt l∧Bel N l:=by
 rcases finP_ok h0 k with ⟨q1,q2⟩|⟨q1,q2⟩
 ·rw[q1] at h
  cases h
  have v:=finW_inv (g:=g) k
  refine⟨rfl,q2,fun p hp=>?_,fun p hp=>?_⟩
  ·obtain⟨w,hw,rfl⟩:=List.mem_map.1 hp
   have h1:=(v.wk w hw).2
   have h2:=q2 w hw
   unfold closed at h2
   unfold prW
   simp only
   omega
  ·obtain⟨w,hw,rfl⟩:=List.mem_map.1 hp
   exact wk_lt hb (v.wk w hw).1
 ·rw[q1] at h
  cases h
def atI (l:List (Nat×Nat)) (x k:Nat):List Nat:=(List.range k).filter fun i=>atP x (l.getD i (0,0))
theorem range_getD (l:List (Nat×Nat)):(List.range l.length).map (fun i=>l.getD i (0,0))=l:=by
 refine List.ext_getElem? fun i=>?_
 rw[List.getElem?_map]
 by_cases hi:i<l.length
 ·rw[List.getElem?_range hi,List.getElem?_eq_getElem hi]
  simp [List.getD_eq_getElem?_getD,List.getElem?_eq_getElem hi]
 ·rw[List.getElem?_eq_none (by simp; omega),List.getElem?_eq_none (by omega)]
  rfl
theorem atI_flt (l:List (Nat×Nat)) (x:Nat):l.filter (atP x)=(atI l x l.length).map fun i=>l.getD i (0,0):=by
 conv=>lhs; rw[← range_getD l]
 rw[List.filter_map]
 rfl
theorem atI_succ (l:List (Nat×Nat)) (x:Nat) {k:Nat} (hk:k<l.length):atI l x (k+1)=if atP x l[k] then atI l x k++[k] else atI l x k:=by
 unfold atI
 rw[List.range_succ,List.filter_append]
 have:l.getD k (0,0)=l[k]:=by simp [List.getD_eq_getElem?_getD,List.getElem?_eq_getElem hk]
 rw[List.filter_cons,this]
 cases hq:atP x l[k] with
 | true=>rfl
 | false=>rw[if_neg (by simp),if_neg (by simp),List.filter_nil,List.append_nil]
def restI (l:List (Nat×Nat)) (i j k:Nat):List (Nat×Nat):=((List.range k).filter fun m=>decide (m≠i)&&decide (m≠j)).map fun m=>l.getD m (0,0)
theorem restI_flt {l:List (Nat×Nat)}{x i j:Nat} (h:atI l x l.length=[i,j]):restI l i j l.length=l.filter fun p=>!atP x p:=by
 conv=>rhs; rw[← range_getD l]
 rw[List.filter_map]
 unfold restI
 congr 1
 refine List.filter_congr fun m hm=>?_
 have hm':m∈atI l x l.length↔atP x (l.getD m (0,0))=true:=by
  unfold atI
  rw[List.mem_filter]
  exact⟨fun q=>q.2,fun q=>⟨hm,q⟩⟩
 rw[h] at hm'
 simp only[List.mem_cons,List.not_mem_nil,or_false] at hm'
 rw[Bool.eq_iff_iff]
 simp only[Bool.and_eq_true,decide_eq_true_eq,Function.comp,Bool.not_eq_true']
 cases hq:atP x (l.getD m (0,0)) with
 | true =>
   have:=hm'.2 hq
   constructor
   ·rintro⟨a,b⟩
    rcases this with e|e
    ·exact absurd e a
    ·exact absurd e b
   ·intro e; cases e
 | false =>
   refine⟨fun _=>rfl,fun _=>⟨fun e=>?_,fun e=>?_⟩⟩
   ·have:=hm'.1 (.inl e); rw[hq] at this; cases this
   ·have:=hm'.1 (.inr e); rw[hq] at this; cases this
theorem restI_succ (l:List (Nat×Nat)) (i j:Nat) {k:Nat} (hk:k<l.length):restI l i j (k+1)=if k≠i∧k≠j then restI l i j k++[l[k]] else restI l i j k:=by
 unfold restI
 rw[List.range_succ,List.filter_append,List.map_append]
 have:l.getD k (0,0)=l[k]:=by simp [List.getD_eq_getElem?_getD,List.getElem?_eq_getElem hk]
 by_cases h1:k=i<;>by_cases h2:k=j<;>simp [h1,h2]<;>(try simp_all)
theorem atI_lt {l:List (Nat×Nat)}{x k i:Nat} (h:i∈atI l x k):i<k∧atP x (l.getD i (0,0))=true:=by
 unfold atI at h
 obtain⟨a,b⟩:=List.mem_filter.1 h
 exact⟨List.mem_range.1 a,b⟩
theorem finP_none {l:List (Nat×Nat)}{k:Nat} (h:finP l k=none):∀ {m:Nat},k≤m→finP l m=none:=by
 intro m hm
 induction m with
 | zero =>
   have:k=0:=by omega
   subst this
   exact h
 | succ m ih =>
   by_cases e:k=m+1
   ·rw[← e]; exact h
   ·rw[finP_succ,ih (by omega)]
    rfl
theorem ini_nc {n:Int}{E:List (Int×Int)}{L:List Int} (hR:LayR n E L):NC (iniW (grK E L hR.lay.nodup.1)):=fun w hw=>by
 obtain⟨i,hi,rfl⟩:=List.mem_map.1 hw
 obtain⟨z,hz,rfl⟩:=List.mem_map.1 hi
 obtain⟨k,hk,rfl⟩:=List.getElem_of_mem hz
 obtain⟨⟨o1,o2⟩,_⟩:=hR k hk
 obtain⟨_,_,o3,o4,_,_⟩:=o1
 unfold closed
 show ¬ min (tlK E L[k].toNat) (hdK E L[k].toNat)=max (tlK E L[k].toNat) (hdK E L[k].toNat)
 unfold tlK hdK
 omega
theorem ini_l0 {E:List (Int×Int)}{L:List Int}{h:(nL L).Nodup}:(iniW (grK E L h)).map prW=l0 E L:=by
 unfold iniW l0
 rw[List.map_map]
 rfl
theorem push2 {h:AH}{esz lo bytes:Nat}{v:AV}{cs:List AV} (new:List AV) (hv:IsSl h esz lo v cs) (hlo:lo≤h.next) (he:0<esz) (hn:new.length=esz) (ho:new.all AV.one=true)
 (hb:(cs.length / esz+1)*bytes<tooMany) (hc:cs.length / esz+1<tooMany):∃ v' h',appA (h.new (.cells new esz false)) esz bytes v (.sl h.next 0 1 1)=some (v',h')∧IsSl h' esz lo v' (cs++new)∧Ext lo h h'∧h.next≤h'.next∧(∀ c,c<h.next→(∀ n,v≠.sl c 0 n n)→h'.get c=h.get c)∧∀ c n,v'=.sl c 0 n n→h.next<c:=by
 obtain⟨v',h',h1,h2,h3,h4,h5,h6,_⟩:=(hv.ext (Ext.new (o:=.cells new esz false) (Nat.le_refl _)) (Nat.le_refl _)).app (x:=h.next) (new:=new) (bytes:=bytes) (by simp; omega) he (by rw[AH.get_new]; simp) hlo
  (fun b n hbn=>by have:=hv.lt hbn; omega) hn ho hb hc
 refine⟨v',h',h1,h2,(Ext.new hlo).trans h3,by simp at h5; omega,fun c hcl hne=>?_,fun c n e=>?_⟩
 ·rw[h6 c (by simp; omega) fun b n e e'=>hne n (by rw[e,e']),AH.get_new,if_neg (by omega)]
 ·rw[h4] at e
  cases e
  simp
def cntC (N:Nat) (l:List (Nat×Nat)):List AV:=(List.range N).map fun v=>AV.int .i64 (((nb l v).length:Nat):Int)
theorem cntC_len (N:Nat) (l:List (Nat×Nat)):(cntC N l).length=N:=by simp [cntC]
theorem cntC_at {N:Nat}{l:List (Nat×Nat)}{v:Nat} (h:v<N):(cntC N l)[v]?=some (AV.int .i64 (((nb l v).length:Nat):Int)):=by
 unfold cntC
 rw[List.getElem?_map,List.getElem?_range h]
 rfl
theorem nb_snoc (l:List (Nat×Nat)) (p:Nat×Nat) (v:Nat):nb (l++[p]) v=nb l v++((if p.1=v then [p.2] else [])++(if p.2=v then [p.1] else [])):=by
 unfold nb
 rw[List.flatMap_append,List.flatMap_cons,List.flatMap_nil,List.append_nil]
theorem cntC_step {N:Nat}{l:List (Nat×Nat)}{p:Nat×Nat} (hp:p.1<p.2) (h2:p.2<N) :
 ((cntC N l).set p.1 (AV.int .i64 (((nb l p.1).length+1:Nat):Int))).set p.2 (AV.int .i64 (((nb l p.2).length+1:Nat):Int))=cntC N (l++[p]):=by
 refine List.ext_getElem? fun v=>?_
 by_cases hv:v<N
 ·rw[cntC_at hv,List.getElem?_set,List.getElem?_set,List.length_set,cntC_len,nb_snoc]
  by_cases e2:p.2=v
  ·subst e2
   rw[if_pos rfl,if_pos h2,if_neg (by omega),if_pos rfl,List.length_append]
   simp
  ·rw[if_neg e2]
   by_cases e1:p.1=v
   ·subst e1
    rw[if_pos rfl,if_pos hv,if_pos rfl,if_neg e2,List.length_append]
    simp
   ·rw[if_neg e1,if_neg e1,if_neg e2,List.length_append,cntC_at hv]
    simp
 ·rw[List.getElem?_eq_none (by rw[List.length_set,List.length_set,cntC_len]; omega),List.getElem?_eq_none (by rw[cntC_len]; omega)]
theorem cntC_zero (N:Nat):List.replicate N (AV.int .i64 0)=cntC N []:=by
 refine List.ext_getElem? fun v=>?_
 by_cases hv:v<N
 ·rw[cntC_at hv,List.getElem?_replicate,if_pos hv]
  rfl
 ·rw[List.getElem?_eq_none (by simp; omega),List.getElem?_eq_none (by rw[cntC_len]; omega)]
def sidC (N:Nat) (l:List (Nat×Nat)) (h0:Nat):List AV:=(List.range N).map fun v=>AV.bool (sideB l h0 v)
theorem sidC_len (N:Nat) (l:List (Nat×Nat)) (h0:Nat):(sidC N l h0).length=N:=by simp [sidC]
theorem sidC_at {N:Nat}{l:List (Nat×Nat)}{h0 v:Nat} (h:v<N):(sidC N l h0)[v]?=some (AV.bool (sideB l h0 v)):=by
 unfold sidC
 rw[List.getElem?_map,List.getElem?_range h]
 rfl
theorem sidC_same {N:Nat}{l:List (Nat×Nat)}{p:Nat×Nat}{h0:Nat} (h1:p.1≠h0) (h2:p.2≠h0):sidC N (l++[p]) h0=sidC N l h0∧(nb (l++[p]) h0).length=(nb l h0).length:=by
 unfold sidC sideB
 rw[nb_snoc,if_neg h1,if_neg h2]
 simp
theorem sidC_step {N:Nat}{l:List (Nat×Nat)}{p:Nat×Nat}{h0 y:Nat} (hy:nb (l++[p]) h0=nb l h0++[y]) (hN:y<N):(sidC N l h0).set y (AV.bool true)=sidC N (l++[p]) h0:=by
 refine List.ext_getElem? fun v=>?_
 by_cases hv:v<N
 ·rw[sidC_at hv,List.getElem?_set,sidC_len]
  unfold sideB
  rw[hy]
  by_cases e:y=v
  ·subst e
   simp [hv]
  ·rw[if_neg e,sidC_at hv]
   unfold sideB
   have:¬ v=y:=fun q=>e q.symm
   simp [this]
 ·rw[List.getElem?_eq_none (by rw[List.length_set,sidC_len]; omega),List.getElem?_eq_none (by rw[sidC_len]; omega)]
theorem sidC_zero (N h0:Nat):List.replicate N (AV.bool false)=sidC N [] h0:=by
 refine List.ext_getElem? fun v=>?_
 by_cases hv:v<N
 ·rw[sidC_at hv,List.getElem?_replicate,if_pos hv]
  simp [sideB,nb]
 ·rw[List.getElem?_eq_none (by simp; omega),List.getElem?_eq_none (by rw[sidC_len]; omega)]
theorem pE_beq (p q:Nat×Nat):(pE p==pE q)=decide (p=q):=by
 rw[Bool.eq_iff_iff,beq_iff_eq,decide_eq_true_eq]
 unfold pE
 constructor
 ·intro e
  simp only[Prod.mk.injEq] at e
  exact Prod.ext (by omega) (by omega)
 ·rintro rfl; rfl
end Go.Proofs.YtldkniahgagocaaGreat
