/-
  Ways through vertices at which just two edges end, in plain words. Vertices between two edges are taken out, one by one; what is left of the edges' ways. The two kinds, by the pairs that are left: as the document reckons, and as the program does.
-/
set_option linter.all false
namespace Go.Kur
theorem perm_of_sub {α:Type} [DecidableEq α]:∀ {l m:List α},l.Nodup→(∀ x∈l,x∈m)→m.length≤l.length→l.Perm m
 | [],m,_,_,h=>by
   have:m=[]:=List.length_eq_zero_iff.1 (by simpa using h)
   subst this
   exact .nil
 | a::l,m,hn,hs,h=>by
   have ha:=hs a (List.mem_cons_self ..)
   obtain⟨h1,h2⟩:=List.nodup_cons.1 hn
   have hp:=List.perm_cons_erase ha
   refine (List.Perm.cons a (perm_of_sub h2 (fun x hx=>?_) ?_)).trans hp.symm
   ·exact (List.mem_erase_of_ne (fun (e:x=a)=>h1 (by rw[← e]; exact hx))).2 (hs x (List.mem_cons_of_mem _ hx))
   ·rw[List.length_erase_of_mem ha]
    simp only[List.length_cons] at h
    omega
theorem len_le_of_sub {α:Type} [DecidableEq α]:∀ {l m:List α},l.Nodup→(∀ x∈l,x∈m)→l.length≤m.length
 | [],_,_,_=>Nat.zero_le _
 | a::l,m,hn,hs=>by
   have ha:=hs a (List.mem_cons_self ..)
   obtain⟨h1,h2⟩:=List.nodup_cons.1 hn
   have:=len_le_of_sub (l:=l) (m:=m.erase a) h2 fun x hx=>(List.mem_erase_of_ne (fun (e:x=a)=>h1 (by rw[← e]; exact hx))).2 (hs x (List.mem_cons_of_mem _ hx))
   rw[List.length_erase_of_mem ha] at this
   have hp:=List.length_pos_of_mem ha
   simp only[List.length_cons]
   omega
structure Gr where
 tl:Nat→Nat
 hd:Nat→Nat
 E:List Nat
 nd:E.Nodup
variable (g:Gr)
def Gr.at1 (x i:Nat):List Nat:=(if g.tl i=x then [i] else [])++(if g.hd i=x then [i] else [])
def Gr.ends (x:Nat):List Nat:=g.E.flatMap (g.at1 x)
def Gr.oth (i x:Nat):Nat:=g.tl i+g.hd i-x
def Gr.nxt (z e:Nat):Nat:=(g.ends z).getD 0 0+(g.ends z).getD 1 0-e
def Gr.deg (x:Nat):Nat:=(g.ends x).length
def Gr.joins (e x y:Nat):Prop:=e∈g.E∧(g.tl e=x∧g.hd e=y∨g.tl e=y∧g.hd e=x)
variable {g}
theorem deg_count (x:Nat):g.deg x=(g.E.flatMap fun i=>[g.tl i,g.hd i]).count x:=by
 unfold Gr.deg Gr.ends
 generalize g.E=l
 induction l with
 | nil=>rfl
 | cons i r ih =>
   rw[List.flatMap_cons,List.flatMap_cons,List.length_append,List.count_append,ih]
   congr 1
   unfold Gr.at1
   by_cases h1:g.tl i=x<;>by_cases h2:g.hd i=x<;>simp [h1,h2,List.count_cons]
theorem mem_ends {x i:Nat}:i∈g.ends x↔i∈g.E∧(g.tl i=x∨g.hd i=x):=by
 unfold Gr.ends Gr.at1
 rw[List.mem_flatMap]
 constructor
 ·rintro⟨j,h1,h2⟩
  rw[List.mem_append] at h2
  rcases h2 with h2|h2
  ·split at h2
   ·rw[List.mem_singleton] at h2; subst h2; exact⟨h1,.inl ‹_›⟩
   ·cases h2
  ·split at h2
   ·rw[List.mem_singleton] at h2; subst h2; exact⟨h1,.inr ‹_›⟩
   ·cases h2
 ·rintro⟨h1,h2⟩
  refine⟨i,h1,?_⟩
  rw[List.mem_append]
  rcases h2 with h2|h2
  ·left; rw[if_pos h2]; simp
  ·right; rw[if_pos h2]; simp
theorem Gr.joins.symm {e x y:Nat} (h:g.joins e x y):g.joins e y x:=⟨h.1,h.2.symm⟩
theorem Gr.joins.left {e x y:Nat} (h:g.joins e x y):e∈g.ends x:=mem_ends.2 ⟨h.1,by
 rcases h.2 with ⟨a,b⟩|⟨a,b⟩
 ·exact .inl a
 ·exact .inr b⟩
theorem Gr.joins.oth {e x y:Nat} (h:g.joins e x y):g.oth e x=y:=by
 unfold Gr.oth
 rcases h.2 with ⟨a,b⟩|⟨a,b⟩<;>omega
theorem joins_of {e x:Nat} (h:e∈g.ends x):g.joins e x (g.oth e x):=by
 obtain⟨h1,h2⟩:=mem_ends.1 h
 refine⟨h1,?_⟩
 unfold Gr.oth
 rcases h2 with h2|h2
 ·left; omega
 ·right; omega
theorem two_of {z:Nat} (h:g.deg z=2):∃ a b,g.ends z=[a,b]:=by
 unfold Gr.deg at h
 match hq:g.ends z,h with
 | [a,b],_=>exact⟨a,b,rfl⟩
theorem nxt_of {z e e':Nat} (h:g.deg z=2) (h1:e∈g.ends z) (h2:e'∈g.ends z) (hn:e≠e'):g.nxt z e=e':=by
 obtain⟨a,b,q⟩:=two_of h
 unfold Gr.nxt
 rw[q] at h1 h2 ⊢
 simp only[List.mem_cons,List.not_mem_nil,or_false,List.getD_cons_zero,List.getD_cons_succ] at *
 omega
theorem nxt_mem {z e:Nat} (h:g.deg z=2) (h1:e∈g.ends z):g.nxt z e∈g.ends z∧g.nxt z (g.nxt z e)=e:=by
 obtain⟨a,b,q⟩:=two_of h
 unfold Gr.nxt
 rw[q] at h1 ⊢
 simp only[List.mem_cons,List.not_mem_nil,or_false,List.getD_cons_zero,List.getD_cons_succ] at *
 omega
inductive Wk (g:Gr):Nat→List Nat→Nat→Prop
 | one {e x y}:g.joins e x y→Wk g x [e] y
 | cons {e x z es y}:g.joins e x z→g.deg z=2→Wk g z (g.nxt z e::es) y→Wk g x (e::g.nxt z e::es) y
theorem Wk.ne {x y:Nat}{es:List Nat} (h:Wk g x es y):es≠[]:=by cases h<;>simp
theorem Wk.head {x y e:Nat}{es:List Nat} (h:Wk g x (e::es) y):e∈g.ends x:=by
 cases h with
 | one h=>exact h.left
 | cons h _ _=>exact h.left
theorem Wk.mem {x y:Nat}{es:List Nat} (h:Wk g x es y):∀ e∈es,e∈g.E:=by
 induction h with
 | one h=>intro e he; rw[List.mem_singleton] at he; subst he; exact h.1
 | cons h _ _ ih =>
   intro e he
   rcases List.mem_cons.1 he with rfl|he
   ·exact h.1
   ·exact ih _ he
theorem Wk.snoc {x y:Nat}{es:List Nat} (h:Wk g x es y):∀ {e z:Nat},es.getLast?=some e→g.deg y=2→g.joins (g.nxt y e) y z→Wk g x (es++[g.nxt y e]) z:=by
 induction h with
 | one h =>
   intro e z he hd hj
   simp only[List.getLast?_singleton,Option.some.injEq] at he
   subst he
   exact .cons h hd (.one hj)
 | @cons e x z es y h hd w ih =>
   intro e' z' he hd' hj
   refine .cons h hd ?_
   exact ih (by rw[← he]; simp) hd' hj
theorem Wk.last {x y:Nat}{es:List Nat} (h:Wk g x es y):∃ e,es.getLast?=some e∧e∈g.ends y:=by
 induction h with
 | @one e x y h=>exact⟨e,rfl,h.symm.left⟩
 | cons h _ _ ih=>obtain⟨e,h1,h2⟩:=ih; exact⟨e,by rw[← h1]; simp,h2⟩
theorem Wk.rev {x y:Nat}{es:List Nat} (h:Wk g x es y):Wk g y es.reverse x:=by
 induction h with
 | one h=>exact .one h.symm
 | @cons e x z es y h hd w ih =>
   have he:=h.symm.left
   have q:=(nxt_mem hd he).2
   have:=ih.snoc (e:=g.nxt z e) (z:=x) (by simp) hd (by rw[q]; exact h.symm)
   rw[q] at this
   rw[List.reverse_cons]
   exact this
theorem Wk.app {x z:Nat}{as:List Nat} (h:Wk g x as z):∀ {e y:Nat}{bs:List Nat},as.getLast?=some e→g.deg z=2→Wk g z (g.nxt z e::bs) y→Wk g x (as++g.nxt z e::bs) y:=by
 induction h with
 | one h =>
   intro e y bs he hd w
   simp only[List.getLast?_singleton,Option.some.injEq] at he
   subst he
   exact .cons h hd w
 | @cons e x z es y h hd w ih =>
   intro e' y' bs he hd' w'
   refine .cons h hd ?_
   exact ih (by rw[← he]; simp) hd' w'
theorem Wk.edge {x y:Nat}{es:List Nat} (h:Wk g x es y) {v i:Nat} (hi:i∈es) (hv:i∈g.ends v) (hd:g.deg v≠2):(v=x∧es.head?=some i)∨(v=y∧es.getLast?=some i):=by
 induction h with
 | @one e x y h =>
   rw[List.mem_singleton] at hi
   subst hi
   have:=(mem_ends.1 hv).2
   rcases h.2 with ⟨a,b⟩|⟨a,b⟩<;>rcases this with q|q
   ·left; exact⟨by omega,rfl⟩
   ·right; exact⟨by omega,rfl⟩
   ·right; exact⟨by omega,rfl⟩
   ·left; exact⟨by omega,rfl⟩
 | @cons e x z es y h hz w ih =>
   rcases List.mem_cons.1 hi with rfl|hi
   ·have:=(mem_ends.1 hv).2
    have hvz:v≠z:=fun e=>hd (e▸hz)
    left
    refine⟨?_,rfl⟩
    rcases h.2 with ⟨a,b⟩|⟨a,b⟩<;>rcases this with q|q<;>omega
   ·rcases ih hi with ⟨rfl,_⟩|⟨h1,h2⟩
    ·exact absurd hz hd
    ·right; exact⟨h1,by rw[← h2]; simp⟩
def far (g:Gr):Nat→Nat→Nat→List Nat×Nat
 | 0,_,_=>([],0)
 | f+1,x,e=>if g.deg (g.oth e x)=2 then (e::(far g f (g.oth e x) (g.nxt (g.oth e x) e)).1,(far g f (g.oth e x) (g.nxt (g.oth e x) e)).2) else ([e],g.oth e x)
theorem Wk.far {x y:Nat}{es:List Nat} (h:Wk g x es y) (hd:g.deg y≠2):∀ {e:Nat}{f:Nat},es.head?=some e→es.length≤f→far g f x e=(es,y):=by
 induction h with
 | @one e x y h =>
   intro e' f he hf
   simp only[List.head?_cons,Option.some.injEq] at he
   subst he
   cases f with
   | zero=>simp at hf
   | succ f=>rw[Kur.far,h.oth,if_neg hd]
 | @cons e x z es y h hz w ih =>
   intro e' f he hf
   simp only[List.head?_cons,Option.some.injEq] at he
   subst he
   cases f with
   | zero=>simp at hf
   | succ f=>rw[Kur.far,h.oth,if_pos hz,ih hd rfl (by simpa using hf)]
end Go.Kur
namespace Go.Kur
variable {g:Gr}
abbrev Way:=Nat×Nat×List Nat
def prW (w:Way):Nat×Nat:=(w.1,w.2.1)
def endsW (w:Way):List Nat:=[w.1,w.2.1]
def ec (ws:List Way) (v:Nat):Nat:=(ws.flatMap endsW).count v
def atW (x:Nat) (w:Way):Bool:=decide (w.1=x∨w.2.1=x)
def closed (w:Way):Prop:=w.1=w.2.1
def toW (x:Nat) (w:Way):Nat×List Nat:=if w.2.1=x then (w.1,w.2.2) else (w.2.1,w.2.2.reverse)
def mkW (a b:Nat) (es:List Nat):Way:=if a≤b then (a,b,es) else (b,a,es.reverse)
def mergeW (x:Nat) (u w:Way):Way:=mkW (toW x u).1 (toW x w).1 ((toW x u).2++(toW x w).2.reverse)
instance (w:Way):Decidable (closed w):=by unfold closed; infer_instance
def smW (x:Nat) (ws:List Way):List Way :=
 match ws.filter (atW x) with
 | [u,w]=>if closed u∨closed w then ws else ws.filter (fun w=>!atW x w)++[mergeW x u w]
 | _=>ws
def iniW (g:Gr):List Way:=g.E.map fun i=>(min (g.tl i) (g.hd i),max (g.tl i) (g.hd i),[i])
structure Inv (g:Gr) (k:Nat) (ws:List Way):Prop where
 wk:∀ w∈ws,Wk g w.1 w.2.2 w.2.1∧w.1≤w.2.1
 pm:(ws.flatMap fun w=>w.2.2).Perm g.E
 ct:∀ v,k≤v∨g.deg v≠2→ec ws v=g.deg v
 cl:∀ v,v<k→g.deg v=2→∀ w∈ws,atW v w=true→closed w
theorem Inv.ini:Inv g 0 (iniW g) where
 wk:=fun w hw=>by
  obtain⟨i,hi,rfl⟩:=List.mem_map.1 hw
  refine⟨.one ⟨hi,?_⟩,by simp only[]; omega⟩
  simp only[]
  omega
 pm:=by
  unfold iniW
  rw[List.flatMap_map]
  simp
 ct:=fun v _=>by
  rw[deg_count]
  unfold ec iniW
  rw[List.flatMap_map]
  generalize g.E=l
  induction l with
  | nil=>rfl
  | cons i r ih =>
    rw[List.flatMap_cons,List.flatMap_cons,List.count_append,List.count_append,ih]
    congr 1
    unfold endsW
    simp only[]
    by_cases h:g.tl i≤g.hd i
    ·rw[Nat.min_eq_left h,Nat.max_eq_right h]
    ·rw[Nat.min_eq_right (by omega),Nat.max_eq_left (by omega)]
     simp only[List.count_cons,List.count_nil]
     omega
 cl:=fun v hv=>absurd hv (Nat.not_lt_zero _)
theorem ec_app (a b:List Way) (v:Nat):ec (a++b) v=ec a v+ec b v:=by
 unfold ec
 rw[List.flatMap_append,List.count_append]
theorem ec_cons (w:Way) (b:List Way) (v:Nat):ec (w::b) v=(endsW w).count v+ec b v:=by
 unfold ec
 rw[List.flatMap_cons,List.count_append]
theorem cnt_endsW (w:Way) (v:Nat):(endsW w).count v=(if w.1=v then 1 else 0)+(if w.2.1=v then 1 else 0):=by
 unfold endsW
 by_cases h1:w.1=v<;>by_cases h2:w.2.1=v<;>simp [h1,h2]
theorem ec_split (x v:Nat) (ws:List Way):ec ws v=ec (ws.filter (atW x)) v+ec (ws.filter fun w=>!atW x w) v:=by
 unfold ec
 rw[← List.count_append,← List.flatMap_append]
 exact (((List.filter_append_perm (atW x) ws).flatMap_right endsW).count_eq v).symm
theorem ec_not (x:Nat) (ws:List Way):ec (ws.filter fun w=>!atW x w) x=0:=by
 unfold ec
 rw[List.count_eq_zero]
 intro h
 obtain⟨w,h1,h2⟩:=List.mem_flatMap.1 h
 obtain⟨_,h3⟩:=List.mem_filter.1 h1
 unfold atW at h3
 unfold endsW at h2
 simp at h3 h2
 omega
theorem ec_pos {x:Nat}{ws:List Way} (h:∀ w∈ws,atW x w=true):ws.length≤ec ws x:=by
 induction ws with
 | nil=>exact Nat.zero_le _
 | cons w r ih =>
   rw[ec_cons,cnt_endsW]
   have h1:=h w (List.mem_cons_self ..)
   have h2:=ih fun u hu=>h u (List.mem_cons_of_mem _ hu)
   unfold atW at h1
   simp at h1
   simp only[List.length_cons]
   split<;>split<;>omega
theorem toW_wk {x:Nat}{w:Way} (h:Wk g w.1 w.2.2 w.2.1) (ha:atW x w=true):Wk g (toW x w).1 (toW x w).2 x∧((toW x w).1=w.1∧w.2.1=x∨(toW x w).1=w.2.1∧w.1=x)∧(toW x w).2.Perm w.2.2:=by
 unfold toW
 unfold atW at ha
 simp at ha
 split
 ·rename_i e
  exact⟨e▸h,.inl ⟨rfl,e⟩,.refl _⟩
 ·rename_i e
  have e2:w.1=x:=by omega
  exact⟨by rw[← e2]; exact h.rev,.inr ⟨rfl,e2⟩,List.reverse_perm _⟩
theorem mkW_ok {a b:Nat}{es:List Nat} (h:Wk g a es b):Wk g (mkW a b es).1 (mkW a b es).2.2 (mkW a b es).2.1∧(mkW a b es).1≤(mkW a b es).2.1∧(mkW a b es).2.2.Perm es∧(∀ v,(endsW (mkW a b es)).count v=(if a=v then 1 else 0)+(if b=v then 1 else 0))∧prW (mkW a b es)=(min a b,max a b):=by
 unfold mkW
 split
 ·rename_i q
  refine⟨h,q,.refl _,fun v=>cnt_endsW _ v,?_⟩
  unfold prW
  simp only[]
  rw[Nat.min_eq_left q,Nat.max_eq_right q]
 ·rename_i q
  refine⟨h.rev,by simp only[]; omega,List.reverse_perm _,fun v=>?_,?_⟩
  ·rw[cnt_endsW]
   simp only[]
   omega
  ·unfold prW
   simp only[]
   rw[Nat.min_eq_right (by omega),Nat.max_eq_left (by omega)]
theorem Inv.two {k x:Nat}{ws:List Way} (v:Inv g k ws) (hx:k≤x∨g.deg x≠2) {u w:Way} (hf:ws.filter (atW x)=[u,w]) (hu:¬ closed u) (hw:¬ closed w) :
 g.deg x=2∧Wk g (toW x u).1 ((toW x u).2++(toW x w).2.reverse) (toW x w).1∧(toW x u).1≠x∧(toW x w).1≠x:=by
 have mu:u∈ws.filter (atW x):=by rw[hf]; simp
 have mw:w∈ws.filter (atW x):=by rw[hf]; simp
 obtain⟨mu1,mu2⟩:=List.mem_filter.1 mu
 obtain⟨mw1,mw2⟩:=List.mem_filter.1 mw
 obtain⟨a1,a2,a3⟩:=toW_wk (v.wk u mu1).1 mu2
 obtain⟨b1,b2,b3⟩:=toW_wk (v.wk w mw1).1 mw2
 have hd:g.deg x=2:=by
  rw[← v.ct x hx,ec_split x x,ec_not,hf,ec_cons,ec_cons,cnt_endsW,cnt_endsW]
  unfold closed at hu hw
  simp only[ec,List.flatMap_nil,List.count_nil]
  rcases a2 with ⟨_,q⟩|⟨_,q⟩<;>rcases b2 with ⟨_,p⟩|⟨_,p⟩<;>(repeat' split)<;>omega
 refine⟨hd,?_,?_,?_⟩
 ·obtain⟨e,e1,e2⟩:=a1.last
  have b1':=b1.rev
  cases hq:(toW x w).2.reverse with
  | nil=>exact absurd hq b1'.ne
  | cons e' bs =>
    rw[hq] at b1'
    have e2':=b1'.head
    have hne:e≠e':=by
     have hp:(ws.flatMap fun w=>w.2.2).Nodup:=(v.pm.nodup_iff).2 g.nd
     have hp2:((ws.filter (atW x)).flatMap fun w=>w.2.2).Nodup:=by
      have hq:=((((List.filter_append_perm (atW x) ws).flatMap_right fun w:Way=>w.2.2).nodup_iff).2 hp)
      rw[List.flatMap_append] at hq
      exact (List.nodup_append.1 hq).1
     rw[hf] at hp2
     simp only[List.flatMap_cons,List.flatMap_nil,List.append_nil] at hp2
     have dj:=(List.nodup_append.1 hp2).2.2
     refine dj e (a3.mem_iff.1 (List.mem_of_getLast? e1)) e' (b3.mem_iff.1 ?_)
     rw[← List.mem_reverse,hq]
     exact List.mem_cons_self ..
    have hn:=nxt_of hd e2 e2' hne
    rw[← hn] at b1' ⊢
    exact a1.app e1 hd b1'
 ·unfold closed at hu
  rcases a2 with ⟨p,q⟩|⟨p,q⟩<;>omega
 ·unfold closed at hw
  rcases b2 with ⟨p,q⟩|⟨p,q⟩<;>omega
theorem Inv.step {k:Nat}{ws:List Way} (v:Inv g k ws):Inv g (k+1) (smW k ws):=by
 have same:(∀ u w,ws.filter (atW k)=[u,w]→closed u∨closed w)→Inv g (k+1) ws:=fun hno=>{
  wk:=v.wk
  pm:=v.pm
  ct:=fun x hx=>v.ct x (by rcases hx with h|h; · left; omega
                           ·exact .inr h)
  cl:=fun x hx hd w hw ha=>by
   by_cases e:x=k
   ·subst e
    have h2:=v.ct x (.inl (Nat.le_refl _))
    rw[hd,ec_split x x,ec_not,Nat.add_zero] at h2
    have hlen:=ec_pos (x:=x) (ws:=ws.filter (atW x)) fun w hw=>(List.mem_filter.1 hw).2
    rw[h2] at hlen
    have hm:w∈ws.filter (atW x):=List.mem_filter.2 ⟨hw,ha⟩
    match hq:ws.filter (atW x),hlen with
    | [],_=>rw[hq] at hm; cases hm
    | [u],_ =>
      rw[hq] at hm h2
      rw[List.mem_singleton] at hm
      subst hm
      rw[ec_cons,cnt_endsW] at h2
      simp only[ec,List.flatMap_nil,List.count_nil] at h2
      unfold closed
      split at h2<;>split at h2<;>omega
    | [u,y],_ =>
      have hh:=hno u y hq
      rw[hq] at hm h2
      rw[ec_cons,ec_cons,cnt_endsW,cnt_endsW] at h2
      simp only[ec,List.flatMap_nil,List.count_nil] at h2
      have mu:u∈ws.filter (atW x):=by rw[hq]; simp
      have my:y∈ws.filter (atW x):=by rw[hq]; simp
      have au:=(List.mem_filter.1 mu).2
      have ay:=(List.mem_filter.1 my).2
      unfold atW at au ay
      simp at au ay
      unfold closed at hh
      exfalso
      split at h2<;>split at h2<;>split at h2<;>split at h2<;>omega
    | _::_::_::_,hl=>simp at hl
   ·exact v.cl x (by omega) hd w hw ha}
 unfold smW
 split
 ·rename_i u w hf
  split
  ·rename_i hc
   exact same fun u' w' e=>by rw[hf] at e; cases e; exact hc
  ·rename_i hc
   have hu:¬ closed u:=fun h=>hc (.inl h)
   have hw:¬ closed w:=fun h=>hc (.inr h)
   have mu:u∈ws.filter (atW k):=by rw[hf]; simp
   have mw:w∈ws.filter (atW k):=by rw[hf]; simp
   obtain⟨mu1,mu2⟩:=List.mem_filter.1 mu
   obtain⟨mw1,mw2⟩:=List.mem_filter.1 mw
   obtain⟨a1,a2,a3⟩:=toW_wk (v.wk u mu1).1 mu2
   obtain⟨b1,b2,b3⟩:=toW_wk (v.wk w mw1).1 mw2
   obtain⟨hd,hwk,hax,hbx⟩:=v.two (.inl (Nat.le_refl _)) hf hu hw
   obtain⟨m1,m2,m3,m4,_⟩:=mkW_ok hwk
   refine⟨fun z hz=>?_,?_,fun x hx=>?_,fun x hx hdx z hz ha=>?_⟩
   ·rcases List.mem_append.1 hz with hz|hz
    ·exact v.wk z (List.mem_filter.1 hz).1
    ·rw[List.mem_singleton] at hz
     subst hz
     exact⟨m1,m2⟩
   ·rw[List.flatMap_append]
    simp only[List.flatMap_cons,List.flatMap_nil,List.append_nil]
    refine List.Perm.trans ?_ v.pm
    have hsp:=(List.filter_append_perm (atW k) ws).flatMap_right fun w:Way=>w.2.2
    refine List.Perm.trans ?_ hsp
    rw[List.flatMap_append,hf]
    simp only[List.flatMap_cons,List.flatMap_nil,List.append_nil]
    refine (List.perm_append_comm).trans ?_
    refine List.Perm.append_right _ ?_
    exact m3.trans (a3.append ((List.reverse_perm _).trans b3))
   ·have hxk:x≠k:=by
     rintro rfl
     rcases hx with h|h
     ·omega
     ·exact h hd
    have h1:=v.ct x (by rcases hx with h|h; · left; omega
                        ·exact .inr h)
    rw[← h1,ec_split k x ws,hf,ec_app,Nat.add_comm]
    congr 1
    unfold mergeW
    rw[ec_cons,ec_cons,ec_cons,m4,cnt_endsW,cnt_endsW]
    simp only[ec,List.flatMap_nil,List.count_nil,Nat.add_zero]
    have h0:¬ k=x:=fun e=>hxk e.symm
    rcases a2 with ⟨p1,q1⟩|⟨p1,q1⟩<;>rcases b2 with ⟨p2,q2⟩|⟨p2,q2⟩<;>rw[p1,p2,q1,q2]<;>simp only[if_neg h0]<;>omega
   ·rcases List.mem_append.1 hz with hz|hz
    ·obtain⟨z1,z2⟩:=List.mem_filter.1 hz
     have hxk:x≠k:=by
      rintro rfl
      rw[ha] at z2
      cases z2
     exact v.cl x (by omega) hdx z z1 ha
    ·rw[List.mem_singleton] at hz
     subst hz
     exfalso
     have hp:=m4 x
     have ha':0<(endsW (mergeW k u w)).count x:=by
      rw[cnt_endsW]
      unfold atW at ha
      simp at ha
      split<;>split<;>omega
     unfold mergeW at ha'
     rw[hp] at ha'
     have hor:(toW k u).1=x∨(toW k w).1=x:=by
      split at ha'<;>split at ha'<;>first|exact .inl ‹_›|exact .inr ‹_›|omega
     rcases hor with rfl|rfl
     ·have:(toW k u).1<k:=by omega
      refine hu (v.cl _ this hdx u mu1 ?_)
      unfold atW
      rcases a2 with ⟨p,q⟩|⟨p,q⟩<;>simp [p]
     ·have:(toW k w).1<k:=by omega
      refine hw (v.cl _ this hdx w mw1 ?_)
      unfold atW
      rcases b2 with ⟨p,q⟩|⟨p,q⟩<;>simp [p]
 ·rename_i hno
  exact same fun u w e=>absurd e (hno u w)
def finW (g:Gr) (k:Nat):List Way:=(List.range k).foldl (fun ws x=>smW x ws) (iniW g)
theorem finW_succ (k:Nat):finW g (k+1)=smW k (finW g k):=by
 unfold finW
 rw[List.range_succ,List.foldl_append]
 rfl
theorem finW_inv (k:Nat):Inv g k (finW g k):=by
 induction k with
 | zero=>exact Inv.ini
 | succ k ih=>rw[finW_succ]; exact ih.step
def atP (x:Nat) (p:Nat×Nat):Bool:=decide (p.1=x∨p.2=x)
def smP (x:Nat) (l:List (Nat×Nat)):Option (List (Nat×Nat)) :=
 match l.filter (atP x) with
 | [p,q]=>if p.1+p.2-x=q.1+q.2-x then none else some (l.filter (fun p=>!atP x p)++[(min (p.1+p.2-x) (q.1+q.2-x),max (p.1+p.2-x) (q.1+q.2-x))])
 | _=>some l
def NC (ws:List Way):Prop:=∀ w∈ws,¬ closed w
theorem flt_map (x:Nat) (ws:List Way):(ws.map prW).filter (atP x)=(ws.filter (atW x)).map prW∧(ws.map prW).filter (fun p=>!atP x p)=(ws.filter fun w=>!atW x w).map prW:=by
 rw[List.filter_map,List.filter_map]
 exact⟨rfl,rfl⟩
theorem smP_ok {k:Nat}{ws:List Way} (v:Inv g k ws) (hn:NC ws):(smP k (ws.map prW)=some ((smW k ws).map prW)∧NC (smW k ws))∨(smP k (ws.map prW)=none∧¬ NC (smW k ws)):=by
 obtain⟨f1,f2⟩:=flt_map k ws
 unfold smP smW
 rw[f1,f2]
 cases hf:ws.filter (atW k) with
 | nil=>exact .inl ⟨rfl,hn⟩
 | cons u r =>
   cases r with
   | nil=>exact .inl ⟨rfl,hn⟩
   | cons w r2 =>
     cases r2 with
     | cons y r3=>exact .inl ⟨rfl,hn⟩
     | nil =>
       have mu:u∈ws.filter (atW k):=by rw[hf]; simp
       have mw:w∈ws.filter (atW k):=by rw[hf]; simp
       obtain⟨mu1,mu2⟩:=List.mem_filter.1 mu
       obtain⟨mw1,mw2⟩:=List.mem_filter.1 mw
       have hu:=hn u mu1
       have hw:=hn w mw1
       obtain⟨a1,a2,a3⟩:=toW_wk (v.wk u mu1).1 mu2
       obtain⟨b1,b2,b3⟩:=toW_wk (v.wk w mw1).1 mw2
       obtain⟨hd,hwk,hax,hbx⟩:=v.two (.inl (Nat.le_refl _)) hf hu hw
       obtain⟨m1,m2,m3,m4,m5⟩:=mkW_ok hwk
       have ea:(prW u).1+(prW u).2-k=(toW k u).1:=by
        unfold prW
        simp only[]
        rcases a2 with ⟨p,q⟩|⟨p,q⟩<;>omega
       have eb:(prW w).1+(prW w).2-k=(toW k w).1:=by
        unfold prW
        simp only[]
        rcases b2 with ⟨p,q⟩|⟨p,q⟩<;>omega
       simp only[List.map_cons,List.map_nil,ea,eb]
       rw[if_neg (show ¬ (closed u∨closed w) from fun h=>h.elim hu hw)]
       by_cases e:(toW k u).1=(toW k w).1
       ·right
        rw[if_pos e]
        refine⟨rfl,fun h=>h (mergeW k u w) (by simp) ?_⟩
        have:=m5
        unfold prW at this
        unfold closed mergeW
        simp only[Prod.mk.injEq] at this
        rw[this.1,this.2,e]
        omega
       ·left
        rw[if_neg e]
        refine⟨?_,fun z hz=>?_⟩
        ·rw[List.map_append]
         simp only[List.map_cons,List.map_nil]
         rw[show prW (mergeW k u w)=_ from m5]
        ·rcases List.mem_append.1 hz with hz|hz
         ·exact hn z (List.mem_filter.1 hz).1
         ·rw[List.mem_singleton] at hz
          subst hz
          have:=m5
          unfold prW at this
          unfold closed mergeW
          simp only[Prod.mk.injEq] at this
          rw[this.1,this.2]
          omega
theorem smW_keep {k:Nat}{ws:List Way} (h:¬ NC ws):¬ NC (smW k ws):=by
 intro hn
 refine h fun w hw hc=>?_
 have:w∈smW k ws:=by
  unfold smW
  split
  ·rename_i u y hf
   split
   ·exact hw
   ·rename_i hcc
    refine List.mem_append_left _ (List.mem_filter.2 ⟨hw,?_⟩)
    cases ha:atW k w with
    | false=>rfl
    | true =>
      have:w∈ws.filter (atW k):=List.mem_filter.2 ⟨hw,ha⟩
      rw[hf] at this
      simp only[List.mem_cons,List.not_mem_nil,or_false] at this
      rcases this with rfl|rfl
      ·exact absurd (.inl hc) hcc
      ·exact absurd (.inr hc) hcc
  ·exact hw
 exact hn w this hc
def finP (l:List (Nat×Nat)) (k:Nat):Option (List (Nat×Nat)):=(List.range k).foldl (fun o x=>o.bind (smP x)) (some l)
theorem finP_succ (l:List (Nat×Nat)) (k:Nat):finP l (k+1)=(finP l k).bind (smP k):=by
 unfold finP
 rw[List.range_succ,List.foldl_append]
 rfl
theorem finP_ok (h0:NC (iniW g)) (k:Nat):(finP ((iniW g).map prW) k=some ((finW g k).map prW)∧NC (finW g k))∨(finP ((iniW g).map prW) k=none∧¬ NC (finW g k)):=by
 induction k with
 | zero=>exact .inl ⟨rfl,h0⟩
 | succ k ih =>
   rw[finP_succ,finW_succ]
   rcases ih with ⟨h1,h2⟩|⟨h1,h2⟩
   ·rw[h1]
    exact smP_ok (finW_inv k) h2
   ·rw[h1]
    exact .inr ⟨rfl,smW_keep h2⟩
theorem finW_keep (h:¬ NC (iniW g)) (k:Nat):¬ NC (finW g k):=by
 induction k with
 | zero=>exact h
 | succ k ih=>rw[finW_succ]; exact smW_keep ih
end Go.Kur
namespace Go.Kur
variable {g:Gr}
def nb (l:List (Nat×Nat)) (x:Nat):List Nat:=l.flatMap fun p=>(if p.1=x then [p.2] else [])++(if p.2=x then [p.1] else [])
theorem nb_cnt (l:List (Nat×Nat)) (x y:Nat) (hne:∀ p∈l,p.1≠p.2):(nb l x).count y=(l.filter fun p=>decide (p.1=x∧p.2=y∨p.1=y∧p.2=x)).length:=by
 unfold nb
 induction l with
 | nil=>rfl
 | cons p r ih =>
   rw[List.flatMap_cons,List.count_append,ih fun q hq=>hne q (List.mem_cons_of_mem _ hq),List.filter_cons]
   have hp:=hne p (List.mem_cons_self ..)
   by_cases h1:p.1=x<;>by_cases h2:p.2=x
   ·exact absurd (h1.trans h2.symm) hp
   ·by_cases h3:p.2=y
    ·have hyx:¬ y=x:=by omega
     have hxy:¬ x=y:=by omega
     simp [h1,h2,h3,hyx,hxy]; omega
    ·have:¬ (p.1=x∧p.2=y∨p.1=y∧p.2=x):=by omega
     simp [h1,h2,h3,this]
   ·by_cases h3:p.1=y
    ·have hyx:¬ y=x:=by omega
     have hxy:¬ x=y:=by omega
     simp [h1,h2,h3,hyx,hxy]; omega
    ·have:¬ (p.1=x∧p.2=y∨p.1=y∧p.2=x):=by omega
     simp [h1,h2,h3,this]
   ·have:¬ (p.1=x∧p.2=y∨p.1=y∧p.2=x):=by omega
    simp [h1,h2,this]
theorem mem_nb {l:List (Nat×Nat)}{x y:Nat}:y∈nb l x↔(x,y)∈l∨(y,x)∈l:=by
 unfold nb
 rw[List.mem_flatMap]
 constructor
 ·rintro⟨⟨a,b⟩,h1,h2⟩
  simp only[List.mem_append] at h2
  rcases h2 with h2|h2
  ·split at h2
   ·rename_i e
    rw[List.mem_singleton] at h2
    subst e h2
    exact .inl h1
   ·cases h2
  ·split at h2
   ·rename_i e
    rw[List.mem_singleton] at h2
    subst e h2
    exact .inr h1
   ·cases h2
 ·rintro (h|h)
  ·exact⟨_,h,by simp⟩
  ·exact⟨_,h,by simp⟩
theorem nb_len (l:List (Nat×Nat)) (x:Nat):(nb l x).length=(l.flatMap fun p=>[p.1,p.2]).count x:=by
 unfold nb
 induction l with
 | nil=>rfl
 | cons p r ih =>
   rw[List.flatMap_cons,List.flatMap_cons,List.length_append,List.count_append,ih]
   congr 1
   by_cases h1:p.1=x<;>by_cases h2:p.2=x<;>simp [h1,h2]
def Srt (l:List (Nat×Nat)):Prop:=∀ p∈l,p.1<p.2
theorem nodup_nb {l:List (Nat×Nat)} (hs:Srt l):l.Nodup↔∀ x,(nb l x).Nodup:=by
 have hne:∀ p∈l,p.1≠p.2:=fun p hp=>Nat.ne_of_lt (hs p hp)
 have key:∀ x y,x<y→(l.filter fun p=>decide (p.1=x∧p.2=y∨p.1=y∧p.2=x)).length=l.count (x,y):=by
  intro x y hxy
  rw[List.count_eq_length_filter]
  congr 1
  refine List.filter_congr fun p hp=>?_
  have:=hs p hp
  rw[Bool.eq_iff_iff,decide_eq_true_eq,beq_iff_eq]
  constructor
  ·rintro (⟨h1,h2⟩|⟨h1,h2⟩)
   ·exact Prod.ext h1 h2
   ·omega
  ·rintro rfl
   exact .inl ⟨rfl,rfl⟩
 have sym:∀ x y,(l.filter fun p=>decide (p.1=x∧p.2=y∨p.1=y∧p.2=x))=l.filter fun p=>decide (p.1=y∧p.2=x∨p.1=x∧p.2=y):=fun x y=>by
  refine List.filter_congr fun p _=>?_
  rw[decide_eq_decide]
  exact Or.comm
 rw[List.nodup_iff_count]
 constructor
 ·intro h x
  rw[List.nodup_iff_count]
  intro y
  rw[nb_cnt l x y hne]
  rcases Nat.lt_trichotomy x y with q|q|q
  ·rw[key x y q]; exact h _
  ·subst q
   rw[List.length_eq_zero_iff.2]
   ·exact Nat.zero_le _
   ·rw[List.filter_eq_nil_iff]
    intro p hp
    have:=hs p hp
    simp only[decide_eq_true_eq]
    omega
  ·rw[sym,key y x q]; exact h _
 ·rintro h ⟨x,y⟩
  by_cases hm:(x,y)∈l
  ·have q:=hs _ hm
   simp only at q
   rw[← key x y q,← nb_cnt l x y hne]
   exact List.nodup_iff_count.1 (h x) y
  ·rw[List.count_eq_zero_of_not_mem hm]
   exact Nat.zero_le _
def hds (n:Nat) (l:List (Nat×Nat)):List Nat:=(List.range n).filter fun v=>decide (0<(nb l v).length)
def Bel (n:Nat) (l:List (Nat×Nat)):Prop:=∀ p∈l,p.1<n∧p.2<n
theorem hds_rise (n:Nat) (l:List (Nat×Nat)):(hds n l).Pairwise (·<·):=List.pairwise_lt_range.filter _
theorem hds_nodup (n:Nat) (l:List (Nat×Nat)):(hds n l).Nodup:=List.nodup_range.filter _
theorem mem_hds {n:Nat}{l:List (Nat×Nat)} (hb:Bel n l) {v:Nat}:v∈hds n l↔∃ y,y∈nb l v:=by
 unfold hds
 rw[List.mem_filter,List.mem_range,decide_eq_true_eq]
 constructor
 ·rintro⟨_,h⟩
  exact List.exists_mem_of_length_pos h
 ·rintro⟨y,hy⟩
  refine⟨?_,List.length_pos_of_mem hy⟩
  rcases mem_nb.1 hy with h|h
  ·exact (hb _ h).1
  ·exact (hb _ h).2
theorem nb_hds {n:Nat}{l:List (Nat×Nat)} (hb:Bel n l) {v y:Nat} (h:y∈nb l v):v∈hds n l∧y∈hds n l:=⟨(mem_hds hb).2 ⟨y,h⟩,(mem_hds hb).2 ⟨v,mem_nb.2 (mem_nb.1 h).symm⟩⟩
theorem sum_nb {n:Nat}{l:List (Nat×Nat)} (hb:Bel n l):((hds n l).map fun v=>(nb l v).length).sum=2*l.length:=by
 have h1:((hds n l).map fun v=>(nb l v).length).sum=((List.range n).map fun v=>(nb l v).length).sum:=by
  unfold hds
  generalize List.range n=r
  induction r with
  | nil=>rfl
  | cons v r ih =>
    rw[List.filter_cons]
    split
    ·rw[List.map_cons,List.sum_cons,ih,List.map_cons,List.sum_cons]
    ·rename_i h
     rw[List.map_cons,List.sum_cons,ih]
     simp only[decide_eq_true_eq] at h
     omega
 rw[h1]
 have one:∀ a,a<n→((List.range n).map fun v=>if a=v then 1 else 0).sum=1:=by
  intro a ha
  clear hb h1
  induction n with
  | zero=>omega
  | succ n ih =>
    rw[List.range_succ,List.map_append,List.sum_append]
    by_cases e:a=n
    ·subst e
     have:((List.range a).map fun v=>if a=v then 1 else 0).sum=0:=by
      have:((List.range a).map fun v=>if a=v then 1 else 0)=(List.range a).map fun _=>0:=by
       refine List.map_congr_left fun v hv=>if_neg ?_
       have:=List.mem_range.1 hv
       omega
      rw[this,List.map_const']
      simp
     rw[this]
     simp
    ·rw[ih (by omega)]
     simp [e]
 have key:∀ (l:List (Nat×Nat)),Bel n l→((List.range n).map fun v=>(nb l v).length).sum=2*l.length:=by
  intro l
  induction l with
  | nil =>
    intro _
    rw[show (List.range n).map (fun v=>(nb [] v).length)=(List.range n).map fun _=>0 from rfl,List.map_const']
    simp
  | cons p r ih =>
    intro hb
    have e:∀ v,(nb (p::r) v).length=((if p.1=v then 1 else 0)+(if p.2=v then 1 else 0))+(nb r v).length:=fun v=>by
     rw[nb_len,nb_len,List.flatMap_cons,List.count_append]
     congr 1
     by_cases h1:p.1=v<;>by_cases h2:p.2=v<;>simp [h1,h2]
    have add:∀ (f h:Nat→Nat) (r:List Nat),(r.map fun v=>f v+h v).sum=(r.map f).sum+(r.map h).sum:=by
     intro f h r
     induction r with
     | nil=>rfl
     | cons v r ih=>simp only[List.map_cons,List.sum_cons,ih]; omega
    simp only[e]
    rw[add,add,one _ (hb p (List.mem_cons_self ..)).1,one _ (hb p (List.mem_cons_self ..)).2,ih fun q hq=>hb q (List.mem_cons_of_mem _ hq)]
    simp only[List.length_cons]
    omega
 exact key l hb
theorem all_nb {n:Nat}{l:List (Nat×Nat)} (hb:Bel n l) (hnd:∀ x,(nb l x).Nodup) (R:Nat→List Nat) (hR:∀ x∈hds n l,(∀ y∈nb l x,y∈R x))
 (hc:((hds n l).map fun v=>(R v).length).sum=2*l.length):∀ x∈hds n l,(nb l x).Perm (R x):=by
 have hle:∀ x∈hds n l,(nb l x).length≤(R x).length:=fun x hx=>len_le_of_sub (hnd x) (hR x hx)
 have heq:∀ (h:List Nat),(∀ x∈h,(nb l x).length≤(R x).length)→(h.map fun v=>(R v).length).sum=(h.map fun v=>(nb l v).length).sum→∀ x∈h,(R x).length=(nb l x).length:=by
  intro h
  induction h with
  | nil=>intro _ _ x hx; cases hx
  | cons v r ih =>
    intro h1 h2 x hx
    rw[List.map_cons,List.sum_cons,List.map_cons,List.sum_cons] at h2
    have hs:∀ (r:List Nat),(∀ x∈r,(nb l x).length≤(R x).length)→(r.map fun v=>(nb l v).length).sum≤(r.map fun v=>(R v).length).sum:=by
     intro r
     induction r with
     | nil=>intro _; exact Nat.le_refl _
     | cons v r ih =>
       intro h
       simp only[List.map_cons,List.sum_cons]
       have a:=h v (List.mem_cons_self ..)
       have b:=ih fun x hx=>h x (List.mem_cons_of_mem _ hx)
       omega
    have q1:=h1 v (List.mem_cons_self ..)
    have q2:=hs r fun x hx=>h1 x (List.mem_cons_of_mem _ hx)
    rcases List.mem_cons.1 hx with rfl|hx
    ·omega
    ·exact ih (fun x hx=>h1 x (List.mem_cons_of_mem _ hx)) (by omega) x hx
 intro x hx
 exact perm_of_sub (hnd x) (hR x hx) (by rw[heq _ hle (by rw[hc,sum_nb hb]) x hx]; exact Nat.le_refl _)
def doc5 (n:Nat) (l:List (Nat×Nat)):Prop:=l.Nodup∧l.length=10∧(hds n l).length=5
def prog5 (n:Nat) (l:List (Nat×Nat)):Prop:=(∀ v∈hds n l,(nb l v).length=4)∧(hds n l).length=5∧∀ x∈hds n l,(nb l x).Perm ((hds n l).filter fun y=>!decide (y=x))
theorem sum_const (h:List Nat) (f:Nat→Nat) (c:Nat) (hf:∀ x∈h,f x=c):(h.map f).sum=h.length*c:=by
 induction h with
 | nil=>simp
 | cons v r ih =>
   rw[List.map_cons,List.sum_cons,ih fun x hx=>hf x (List.mem_cons_of_mem _ hx),hf v (List.mem_cons_self ..),List.length_cons,Nat.add_mul]
   omega
theorem flt_ne_len {h:List Nat} (hn:h.Nodup) {x:Nat} (hx:x∈h):(h.filter fun y=>!decide (y=x)).length+1=h.length:=by
 induction h with
 | nil=>cases hx
 | cons v r ih =>
   obtain⟨h1,h2⟩:=List.nodup_cons.1 hn
   rw[List.filter_cons]
   by_cases e:v=x
   ·subst e
    simp only[decide_true,Bool.not_true,Bool.false_eq_true,if_false]
    rw[List.filter_eq_self.2 (fun y hy=>by
     simp only[Bool.not_eq_true',decide_eq_false_iff_not]
     exact fun e=>h1 (by rw[← e]; exact hy))]
    rfl
   ·simp only[e,decide_false,Bool.not_false,if_true,List.length_cons]
    rcases List.mem_cons.1 hx with rfl|hx
    ·exact absurd rfl e
    ·rw[ih h2 hx]
theorem five_ok {n:Nat}{l:List (Nat×Nat)} (hs:Srt l) (hb:Bel n l):doc5 n l↔prog5 n l:=by
 have hH:=hds_nodup n l
 constructor
 ·rintro⟨h1,h2,h3⟩
  have hp:=all_nb hb ((nodup_nb hs).1 h1) (fun x=>(hds n l).filter fun y=>!decide (y=x)) (fun x hx y hy=>by
   rw[List.mem_filter]
   refine⟨(nb_hds hb hy).2,?_⟩
   simp only[Bool.not_eq_true',decide_eq_false_iff_not]
   rintro rfl
   rcases mem_nb.1 hy with h|h<;>exact absurd (hs _ h) (Nat.lt_irrefl _)) (by
   rw[sum_const (c:=4) _ _ fun x hx=>by have:=flt_ne_len hH hx; omega]
   omega)
  refine⟨fun v hv=>?_,h3,hp⟩
  rw[(hp v hv).length_eq]
  have:=flt_ne_len hH hv
  omega
 ·rintro⟨h1,h2,h3⟩
  refine⟨(nodup_nb hs).2 fun x=>?_,?_,h2⟩
  ·by_cases hx:x∈hds n l
   ·exact ((h3 x hx).nodup_iff).2 (hH.filter _)
   ·have:nb l x=[]:=by
     rw[List.eq_nil_iff_forall_not_mem]
     exact fun y hy=>hx ((mem_hds hb).2 ⟨y,hy⟩)
    rw[this]
    exact List.nodup_nil
  ·have:=sum_nb hb
   rw[sum_const (c:=4) _ _ h1] at this
   omega
def sideB (l:List (Nat×Nat)) (h0 v:Nat):Bool:=decide (v∈nb l h0)
def doc33 (n:Nat) (l:List (Nat×Nat)):Prop:=l.Nodup∧l.length=9∧∃ h0 r,hds n l=h0::r∧r.length=5∧(∀ p∈l,sideB l h0 p.1≠sideB l h0 p.2)∧(nb l h0).length=3
def prog33 (n:Nat) (l:List (Nat×Nat)):Prop:=(∀ v∈hds n l,(nb l v).length=3)∧∃ h0 r,hds n l=h0::r∧r.length=5 ∧
 ∀ x∈hds n l,if sideB l h0 x then (nb l x).Perm ((hds n l).filter fun y=>!sideB l h0 y)∧((hds n l).filter fun y=>!sideB l h0 y).length=3 else (nb l x).Perm (nb l h0)∧(nb l h0).length=3
theorem flt_len_add {α:Type} (h:List α) (p:α→Bool):(h.filter p).length+(h.filter fun y=>!p y).length=h.length:=by
 have:=(List.filter_append_perm p h).length_eq
 rw[List.length_append] at this
 exact this
theorem six_ok {n:Nat}{l:List (Nat×Nat)} (hs:Srt l) (hb:Bel n l):doc33 n l↔prog33 n l:=by
 have hH:=hds_nodup n l
 constructor
 ·rintro⟨h1,h2,h0,r,h3,h4,h5,h6⟩
  have hnd:=(nodup_nb hs).1 h1
  have hT:((hds n l).filter (sideB l h0)).length=3:=by
   have:((hds n l).filter (sideB l h0)).Perm (nb l h0):=by
    refine (perm_of_sub (hnd h0) (fun y hy=>List.mem_filter.2 ⟨(nb_hds hb hy).2,decide_eq_true hy⟩) ?_).symm
    exact len_le_of_sub (hH.filter _) fun y hy=>of_decide_eq_true (List.mem_filter.1 hy).2
   rw[this.length_eq,h6]
  have hS:((hds n l).filter fun y=>!sideB l h0 y).length=3:=by
   have:=flt_len_add (hds n l) (sideB l h0)
   rw[h3] at this hT ⊢
   simp only[List.length_cons] at this
   omega
  have cross:∀ {x y},y∈nb l x→sideB l h0 x≠sideB l h0 y:=fun {x y} hy=>by
   rcases mem_nb.1 hy with h|h
   ·exact h5 _ h
   ·exact (h5 _ h).symm
  have hlen:∀ x∈hds n l,(if sideB l h0 x then (hds n l).filter (fun y=>!sideB l h0 y) else nb l h0).length=3:=fun x _=>by split<;>assumption
  have hp:=all_nb hb hnd (fun x=>if sideB l h0 x then (hds n l).filter (fun y=>!sideB l h0 y) else nb l h0) (fun x hx y hy=>by
   have hc:=cross hy
   split
   ·rename_i e
    rw[e] at hc
    exact List.mem_filter.2 ⟨(nb_hds hb hy).2,by cases hq:sideB l h0 y<;>simp_all⟩
   ·rename_i e
    have:sideB l h0 y=true:=by cases hq:sideB l h0 y<;>simp_all
    exact of_decide_eq_true this) (by
   rw[sum_const (c:=3) _ _ hlen,h3]
   simp only[List.length_cons]
   omega)
  refine⟨fun v hv=>by rw[(hp v hv).length_eq]; exact hlen v hv,h0,r,h3,h4,fun x hx=>?_⟩
  have:=hp x hx
  split
  ·rename_i e
   rw[if_pos e] at this
   exact⟨this,hS⟩
  ·rename_i e
   rw[if_neg e] at this
   exact⟨this,h6⟩
 ·rintro⟨h1,h0,r,h3,h4,h5⟩
  have m0:h0∈hds n l:=by rw[h3]; exact List.mem_cons_self ..
  have h6:=h1 h0 m0
  obtain⟨t,ht⟩:=List.exists_mem_of_length_pos (l:=nb l h0) (by omega)
  have hS:((hds n l).filter fun y=>!sideB l h0 y).length=3:=by
   have:=h5 t (nb_hds hb ht).2
   rw[if_pos (show sideB l h0 t=true from decide_eq_true ht)] at this
   exact this.2
  have hT:((hds n l).filter (sideB l h0)).length=3:=by
   have:=flt_len_add (hds n l) (sideB l h0)
   rw[h3] at this hS ⊢
   simp only[List.length_cons] at this
   omega
  have hTp:((hds n l).filter (sideB l h0)).Perm (nb l h0):=perm_of_sub (hH.filter _) (fun y hy=>of_decide_eq_true (List.mem_filter.1 hy).2) (by omega)
  refine⟨(nodup_nb hs).2 fun x=>?_,?_,h0,r,h3,h4,fun p hp=>?_,h6⟩
  ·by_cases hx:x∈hds n l
   ·have:=h5 x hx
    split at this
    ·exact (this.1.nodup_iff).2 (hH.filter _)
    ·exact ((this.1.trans hTp.symm).nodup_iff).2 (hH.filter _)
   ·have:nb l x=[]:=by
     rw[List.eq_nil_iff_forall_not_mem]
     exact fun y hy=>hx ((mem_hds hb).2 ⟨y,hy⟩)
    rw[this]
    exact List.nodup_nil
  ·have:=sum_nb hb
   rw[sum_const (c:=3) _ _ h1,h3] at this
   simp only[List.length_cons] at this
   omega
  ·have hy:p.2∈nb l p.1:=mem_nb.2 (.inl hp)
   have:=h5 p.1 (nb_hds hb hy).1
   split at this
   ·rename_i e
    have:=(List.mem_filter.1 (this.1.mem_iff.1 hy)).2
    rw[e]
    intro q
    rw[← q] at this
    cases this
   ·rename_i e
    have:sideB l h0 p.2=true:=decide_eq_true (this.1.mem_iff.1 hy)
    rw[this]
    exact e
end Go.Kur
