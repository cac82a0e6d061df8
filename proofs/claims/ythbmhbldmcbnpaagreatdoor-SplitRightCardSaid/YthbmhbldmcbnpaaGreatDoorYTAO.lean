/- Ties of all skeletons, one behind the other -/
import Derived.Test.YthbmhbldmcbnpaaGreatDoorYTAE
import Derived.Test.YthbmhbldmcbnpaaGreatDoorYTAC
set_option linter.all false
namespace Go.Spl
def tE (t:T4):Int:=t.2.2.1
def tL (t:T4):Int:=t.2.2.2
abbrev FT:=List (Nat×T4)
def cntF (l:FT) (i:Nat):Nat:=l.countP λp=>decide (tL p.2=-1)&&decide (tE p.2=((i:Nat):Int))
def plc (l:FT) (k:Nat):List Nat:=(l.filter λp=>decide (tL p.2=((k:Nat):Int))).map (·.1)
theorem cntF_app {l:FT}{s:Nat}{t:T4}{i:Nat}:cntF (l++[(s,t)]) i=cntF l i+if tL t=-1∧tE t=((i:Nat):Int) then 1 else 0:=by
 unfold cntF
 rw[dW,df,jh,bM]
 congr 1
 simp only[aH,az]
theorem plc_app {l:FT}{s:Nat}{t:T4}{k:Nat}:plc (l++[(s,t)]) k=plc l k++if tL t=((k:Nat):Int) then [s] else []:=by
 unfold plc
 rw[fm,br]
 congr 1
 by_cases h:tL t=((k:Nat):Int)
 ·rw[if_pos h,dY (by simpa using h)]; rfl
 ·rw[if_neg h,eT (by simpa using h)]; rfl
theorem cntF_le (l:FT) (i:Nat):cntF l i≤l.length:=dQ
theorem plc_le (l:FT) (k:Nat):(plc l k).length≤l.length:=by
 unfold plc
 rw[ar]
 exact eN ..
theorem mem_plc {l:FT}{k s:Nat}:s∈plc l k↔∃ t,(s,t)∈l∧tL t=((k:Nat):Int):=by
 unfold plc
 simp only[bi,bC,az]
 constructor
 ·rintro⟨p,⟨h1,h2⟩,rfl⟩
  exact⟨p.2,h1,h2⟩
 ·rintro⟨t,h1,h2⟩
  exact⟨(s,t),⟨h1,h2⟩,rfl⟩
end Go.Spl
namespace Go.Kur
variable {g:Gr}
abbrev Way:=Nat×Nat×List Nat
def Gg (w:Way):Prop:=w.1=w.2.1
instance (w:Way):Decidable (Gg w):=by unfold Gg; infer_instance
variable {g:Gr}
end Go.Kur
namespace Go.Proofs.YthbmhbldmcbnpaaGreatDoor
open Go.Am
def Dx (ks:List Nat) (k:Nat):List Nat:=if k∈ks then ks else ks++[k]
theorem Ad {ks:List Nat}{k:Nat} (h:ks.Nodup):(Dx ks k).Nodup:=by
 unfold Dx
 split
 ·exact h
 ·rename_i hk
  rw[bN]
  refine⟨h,by simp,λa ha b hb=>?_⟩
  rw[bd] at hb
  subst hb
  rintro rfl
  exact hk ha
def DD (es:List (AV×AV×Nat)) (ks:List Nat):Prop:=es.map (·.1)=ks.map λk=>AV.int .i64 ((k:Nat):Int)
theorem zw:∀ {es:List (AV×AV×Nat)}{ks:List Nat},DD es ks→∀ k:Nat,(k∉ks∧fw .ki (.int .i64 (k:Nat)) es=some none) ∨
 ∃ i v n,fw .ki (.int .i64 (k:Nat)) es=some (some (i,v,n))∧es[i]?=some (.int .i64 (k:Nat),v,n)∧ks[i]?=some k∧∀ j,j<i→ks[j]?≠some k
 | [],ks,h,k=>by
   have:ks=[]:=by
    have:=congrArg List.length h
    simp at this
    exact bk.1 this.symm
   subst this
   exact .inl ⟨by simp,rfl⟩
 | e::r,[],h,k=>by simp [DD] at h
 | (a,b,n)::r,p::ks,h,k=>by
   have h':=h
   simp only[DD,aS,cF] at h'
   obtain⟨rfl,h2⟩:=h'
   have hk:fT .ki (.int .i64 ((k:Nat):Int)) (.int .i64 ((p:Nat):Int))=some (((k:Nat):Int)==((p:Nat):Int)):=by simp [fT]
   by_cases q:p=k
   ·subst q
    refine .inr ⟨0,b,n,?_,rfl,rfl,λj hj=>absurd hj (bm _)⟩
    simp only[fw,hk,beq_self_eq_true]
   ·have hne:(((k:Nat):Int)==((p:Nat):Int))=false:=by rw[beq_eq_false_iff_ne]; omega
    rcases zw (es:=r) (ks:=ks) h2 k with ⟨h3,h4⟩|⟨i,v,m,h3,h4,h5,h6⟩
    ·refine .inl ⟨?_,?_⟩
     ·rw[aA]
      rintro (e|e)
      ·exact q e.symm
      ·exact h3 e
     ·simp only[fw,hk,hne,h4]
      rfl
    ·refine .inr ⟨i+1,v,m,?_,h4,h5,λj hj=>?_⟩
     ·simp only[fw,hk,hne,h3]
      rfl
     ·cases j with
      | zero=>simpa using q
      | succ j=>simpa using h6 j om
theorem iZ {k:Int}:nr .ki (.int .i64 k)=true:=by simp [nr,fT]
theorem pW {es:List (AV×AV×Nat)}{i:Nat}{k v:AV}{n:Nat}{u:AV} (h:es[i]?=some (k,v,n)):(es.set i (k,u,n)).map (·.1)=es.map (·.1)∧(es.set i (k,u,n)).map (·.2.2)=es.map (·.2.2):=by
 rw[mX,mX]
 have h1:(es.map (·.1))[i]?=some k:=by rw[aE,h]; rfl
 have h2:(es.map (·.2.2))[i]?=some n:=by rw[aE,h]; rfl
 constructor
 ·refine dg λj=>?_
  rw[cn]
  split
  ·rename_i e; subst e; rw[h1]; split
   ·rfl
   ·rename_i hn; rw[bu om] at h1; cases h1
  ·rfl
 ·refine dg λj=>?_
  rw[cn]
  split
  ·rename_i e; subst e; rw[h2]; split
   ·rfl
   ·rename_i hn; rw[bu om] at h2; cases h2
  ·rfl
abbrev ML:=List (Nat×List Nat)
def lkL (ml:ML) (x:Nat):List Nat:=((ml.find? λp=>p.1==x).map (·.2)).getD []
def kB:ML→Nat→Nat→ML
 | [],x,i=>[(x,[i])]
 | p::r,x,i=>if p.1=x then (x,p.2++[i])::r else p::kB r x i
theorem fF (p:Nat×List Nat) (r:ML) (x:Nat):lkL (p::r) x=if p.1=x then p.2 else lkL r x:=by
 unfold lkL
 rw[Ki]
 by_cases e:p.1=x
 ·rw[if_pos e,show (p.1==x)=true from by simpa using e]
  rfl
 ·rw[if_neg e,show (p.1==x)=false from by simpa using e]
theorem Ft (ml:ML) (x i y:Nat):lkL (kB ml x i) y=if x=y then lkL ml y++[i] else lkL ml y:=by
 induction ml with
 | nil =>
   rw[kB,fF]
   by_cases e:x=y
   ·rw[if_pos e,if_pos e]; rfl
   ·rw[if_neg e,if_neg e]
 | cons p r ih =>
   rw[kB]
   by_cases e:p.1=x
   ·rw[if_pos e,fF,fF]
    simp only
    by_cases e2:x=y
    ·rw[if_pos e2,if_pos e2,if_pos (e.trans e2)]
    ·rw[if_neg e2,if_neg e2,if_neg om]
   ·rw[if_neg e,fF,fF,ih]
    by_cases e2:x=y
    ·have h3:¬ p.1=y:=om
     simp only[if_pos e2,if_neg h3]
    ·rw[if_neg e2,if_neg e2]
theorem GW {ml:ML} (h:∀ p∈ml,p.2≠[]) (x i:Nat):∀ p∈kB ml x i,p.2≠[]:=by
 induction ml with
 | nil=>intro p hp; simp only[kB,bd] at hp; subst hp; simp
 | cons q r ih =>
   intro p hp
   rw[kB] at hp
   split at hp
   ·rcases aA.1 hp with rfl|hp
    ·simp
    ·exact h p (aM _ hp)
   ·rcases aA.1 hp with rfl|hp
    ·exact h _ (aK ..)
    ·exact ih (λp hp=>h p (aM _ hp)) p hp
theorem oU (ml:ML) (x i:Nat):(kB ml x i).map (·.1)=Dx (ml.map (·.1)) x:=by
 induction ml with
 | nil=>rfl
 | cons p r ih =>
   rw[kB,aS]
   unfold Dx at ih ⊢
   by_cases e:p.1=x
   ·rw[if_pos e,if_pos (by rw[e]; exact aK ..),aS,e]
   ·rw[if_neg e,aS,ih]
    by_cases e2:x∈r.map (·.1)
    ·rw[if_pos e2,if_pos (aM _ e2)]
    ·rw[if_neg e2,if_neg]
     ·rfl
     ·rw[aA]
      rintro (q|q)
      ·exact e q.symm
      ·exact e2 q
theorem vF {ml:ML} (hn:(ml.map (·.1)).Nodup) {p:Nat×List Nat} (hp:p∈ml):lkL ml p.1=p.2:=by
 induction ml with
 | nil=>cases hp
 | cons q r ih =>
   rw[aS] at hn
   obtain⟨h1,h2⟩:=bU.1 hn
   rw[fF]
   rcases aA.1 hp with rfl|hp
   ·rw[if_pos rfl]
   ·rw[if_neg λe=>h1 (by rw[e]; exact dq hp)]
    exact ih h2 hp
theorem oq {ml:ML}{x:Nat} (h:x∉ml.map (·.1)):lkL ml x=[]:=by
 induction ml with
 | nil=>rfl
 | cons q r ih =>
   rw[aS,aA] at h
   rw[fF,if_neg λe=>h (.inl e.symm)]
   exact ih λq=>h (.inr q)
theorem GX {ml:ML}{x i k:Nat}{p:Nat×List Nat} (hk:ml[k]?=some p) (hp:p.1=x) (hj:∀ j,j<k→(ml.map (·.1))[j]?≠some x):kB ml x i=ml.set k (x,p.2++[i]):=by
 induction ml generalizing k with
 | nil=>simp at hk
 | cons q r ih =>
   cases k with
   | zero =>
     simp only[bh,aa] at hk
     subst hk
     rw[kB,if_pos hp]
     rfl
   | succ k =>
     have h0:=hj 0 om
     simp only[aS,bh,ne_eq,aa] at h0
     rw[kB,if_neg h0,nU,ih (k:=k) (by simpa using hk) λj hj'=>by simpa using hj (j+1) om]
theorem DF {ml:ML}{x i:Nat} (h:x∉ml.map (·.1)):kB ml x i=ml++[(x,[i])]:=by
 induction ml with
 | nil=>rfl
 | cons q r ih =>
   rw[aS,aA] at h
   rw[kB,if_neg λe=>h (.inl e.symm),ih λq=>h (.inr q)]
   rfl
structure MapL (h:AH) (lo:Nat) (es:List (AV×AV×Nat)) (c:Nat) (ml:ML):Prop where
 keys:DD es (ml.map (·.1))
 at_:∀ (i:Nat) (e:AV×AV×Nat) (p:Nat×List Nat),es[i]?=some e→ml[i]?=some p→IsSl h 1 lo e.2.1 (nC p.2)
 sep:∀ (i j:Nat) (e e':AV×AV×Nat),i≠j→es[i]?=some e→es[j]?=some e'→∀ b n b' n',e.2.1=.sl b 0 n n→e'.2.1=.sl b' 0 n' n'→b≠b'
 st:(es.map (·.2.2)).Pairwise (·<·)∧∀ e∈es,e.2.2<c
theorem MapL.nil {h:AH}{lo c:Nat}:MapL h lo [] c []:=⟨rfl,λi e p q=>by simp at q,λi j e e' _ q=>by simp at q,.nil,λe he=>by cases he⟩
theorem MapL.len {h:AH}{lo c:Nat}{es:List (AV×AV×Nat)}{ml:ML} (m:MapL h lo es c ml):es.length=ml.length:=by
 have:=congrArg List.length m.keys
 simpa using this
theorem MapL.cong {h h':AH}{lo c:Nat}{es:List (AV×AV×Nat)}{ml:ML} (m:MapL h lo es c ml) (hk:∀ c,lo≤c→c<h.next→h'.get c=h.get c):MapL h' lo es c ml :=
 ⟨m.keys,λi e p q1 q2=>(m.at_ i e p q1 q2).cong λb n e' hb=>hk b hb ((m.at_ i e p q1 q2).lt e'),m.sep,m.st⟩
theorem MapL.look {h:AH}{lo c mb:Nat}{es:List (AV×AV×Nat)}{ml:ML} (m:MapL h lo es c ml) (hg:h.get mb=some (.mapo es c)) (x:Nat) :
 ∃ v,fZ h .ki false .nils (.mp mb) (.int .i64 (x:Nat))=some v∧IsSl h 1 lo v (nC (lkL ml x)):=by
 rcases zw m.keys x with ⟨q1,q2⟩|⟨i,v,n,q1,q2,q3,q4⟩
 ·exact⟨.nils,by simp only[fZ,hg,iZ,q2,if_true]; rfl,.inl ⟨rfl,by rw[oq q1]; rfl⟩⟩
 ·refine⟨v,by simp only[fZ,hg,iZ,q1,if_true]; rfl,?_⟩
  rw[aE] at q3
  obtain⟨p,hp,rfl⟩:=aw.1 q3
  have h1:=m.at_ i _ p q2 hp
  have:lkL ml p.1=p.2:=by
   have key:∀ {ml:ML}{i:Nat}{p:Nat×List Nat},ml[i]?=some p→(∀ j,j<i→(ml.map (·.1))[j]?≠some p.1)→lkL ml p.1=p.2:=by
    intro ml
    induction ml with
    | nil=>intro i p h; simp at h
    | cons q r ih =>
      intro i p hp hj
      cases i with
      | zero =>
        simp only[bh,aa] at hp
        subst hp
        rw[fF,if_pos rfl]
      | succ i =>
        have h0:=hj 0 om
        simp only[aS,bh,ne_eq,aa] at h0
        rw[fF,if_neg h0]
        exact ih (by simpa using hp) λj hj'=>by simpa using hj (j+1) om
   exact key hp q4
  rw[this]
  exact h1
theorem Jg {h h':AH}{mb:Nat}{e:RE}{ok:Bool}{z k:AV} (hg:h'.get mb=h.get mb):fZ h' e ok z (.mp mb) k=fZ h e ok z (.mp mb) k:=by
 simp only[fZ,hg]
theorem MapL.up {h:AH}{lo c mb x0:Nat}{es:List (AV×AV×Nat)}{ml:ML} (m:MapL h lo es c ml) (hg:h.get mb=some (.mapo es c)) (hmb:mb<lo) (hlo:lo≤h.next) (x i:Nat) (hx0:h.get x0=some (.cells [.int .i64 (i:Nat)] 1 false)) (hxl:lo≤x0)
 (hxn:∀ (j:Nat) (e:AV×AV×Nat),es[j]?=some e→∀ b n,e.2.1=.sl b 0 n n→b≠x0) (hl:(lkL ml x).length<2 ^ 30) :
 ∃ v v' h1 h2 es' c',fZ h .ki false .nils (.mp mb) (.int .i64 (x:Nat))=some v∧lP h 1 8 v (.sl x0 0 1 1)=some (v',h1)∧h1.get mb=some (.mapo es c)∧mj h1 .ki (.mp mb) (.int .i64 (x:Nat)) v'=some (.un,h2)∧h2.get mb=some (.mapo es' c')∧MapL h2 lo es' c' (kB ml x i) ∧
   Ext lo h h1∧Kp (λc=>c=mb∨lo≤c) h h2∧(∀ c,c<h.next→(∀ (j:Nat) (e:AV×AV×Nat),es[j]?=some e→∀ n,e.2.1≠.sl c 0 n n)→h1.get c=h.get c∧(c≠mb→h2.get c=h.get c)) ∧
   (∀ (j:Nat) (e:AV×AV×Nat),es'[j]?=some e→∀ b n,e.2.1=.sl b 0 n n→b=h.next∨∃ (j:Nat) (e:AV×AV×Nat) (n:Nat),es[j]?=some e∧e.2.1=.sl b 0 n n)∧h2.next=h.next+1:=by
 have hmx:mb<h.next:=AH.lt_of_get hg
 have nine:nC [i]=[AV.int .i64 ((i:Nat):Int)]:=rfl
 rcases zw m.keys x with ⟨q1,q2⟩|⟨k,v,n,q1,q2,q3,q4⟩
 ·
  have hz:lkL ml x=[]:=oq q1
  have hn:IsSl h 1 lo .nils (nC []):=.inl ⟨rfl,rfl⟩
  obtain⟨v',h1,a1,a2,a3,a4,a5,a6,a7⟩:=hn.app (bytes:=8) hlo om hx0 hxl (λb n e=>by cases e) rfl rfl (by unfold aQ; simp [nC]) (by unfold aQ; simp [nC])
  have g1:h1.get mb=some (.mapo es c):=by rw[a3.gt _ hmb]; exact hg
  have u:=NW (o:=.mapo (es++[(.int .i64 (x:Nat),v',c)]) (c+1)) g1
  have hel:es.length=ml.length:=m.len
  refine⟨.nils,v',h1,_,es++[(.int .i64 (x:Nat),v',c)],c+1,by simp only[fZ,hg,iZ,q2,if_true]; rfl,a1,g1,by simp only[mj,g1,iZ,q2,if_true],u.get,?_,a3,?_,λc hc hcn=>?_,λj e e1 b n e3=>?_,by rw[u.nx,a5]⟩
  ·have keep:∀ (j:Nat) (e:AV×AV×Nat) (p:Nat×List Nat),es[j]?=some e→ml[j]?=some p→IsSl (h1.put mb (.mapo (es++[(.int .i64 (x:Nat),v',c)]) (c+1))) 1 lo e.2.1 (nC p.2):=λj e p e1 e2=>by
    refine (m.at_ j e p e1 e2).cong λb n e3 hb=>?_
    rw[u.ne om,a6 b ((m.at_ j e p e1 e2).lt e3) λb' n' e4=>by cases e4]
   have lt:∀ (j:Nat) (e:AV×AV×Nat),es[j]?=some e→∀ b n,e.2.1=.sl b 0 n n→b<h.next:=λj e e1 b n e3=>by
    have hj:=(aB.1 e1).1
    exact (m.at_ j e _ e1 (au (show j<ml.length by omega))).lt e3
   refine⟨?_,λj e p e1 e2=>?_,λj j' e e' hne e1 e2 b n b' n' f1 f2=>?_,?_⟩
   ·rw[oU]
    unfold Dx DD
    rw[if_neg q1,br,br,m.keys]
    rfl
   ·rw[DF q1] at e2
    by_cases hj:j<es.length
    ·rw[bf hj] at e1
     rw[bf om] at e2
     exact keep j e p e1 e2
    ·have hj':j<(es++[(AV.int .i64 ((x:Nat):Int),v',c)]).length:=(aB.1 e1).1
     rw[aN,aR,bo] at hj'
     have:j=es.length:=om
     subst this
     rw[aY om,eA] at e1
     rw[hel,aY om,eA] at e2
     cases e1
     cases e2
     exact a2.cong λb n _ hb=>u.ne om
   ·have one:∀ (j:Nat) (e:AV×AV×Nat),(es++[(AV.int .i64 ((x:Nat):Int),v',c)])[j]?=some e→(j<es.length∧es[j]?=some e)∨(j=es.length∧e.2.1=v'):=λj e e1=>by
     by_cases hj:j<es.length
     ·rw[bf hj] at e1
      exact .inl ⟨hj,e1⟩
     ·have hj':j<(es++[(AV.int .i64 ((x:Nat):Int),v',c)]).length:=(aB.1 e1).1
      rw[aN,aR,bo] at hj'
      have:j=es.length:=om
      subst this
      rw[aY om,eA] at e1
      cases e1
      exact .inr ⟨rfl,rfl⟩
    rcases one j e e1 with ⟨l1,o1⟩|⟨l1,o1⟩<;>rcases one j' e' e2 with ⟨l2,o2⟩|⟨l2,o2⟩
    ·exact m.sep j j' e e' hne o1 o2 b n b' n' f1 f2
    ·have:=lt j e o1 b n f1
     rw[o2,a4] at f2
     cases f2
     omega
    ·have:=lt j' e' o2 b' n' f2
     rw[o1,a4] at f1
     cases f1
     omega
    ·omega
   ·obtain⟨s1,s2⟩:=m.st
    refine⟨?_,λe he=>?_⟩
    ·rw[br,lQ]
     refine⟨s1,by simp,λa ha b hb=>?_⟩
     simp only[aS,mY,bd] at hb
     subst hb
     obtain⟨e,he,rfl⟩:=bi.1 ha
     exact s2 e he
    ·rcases aI.1 he with he|he
     ·have:=s2 e he; omega
     ·rw[bd] at he
      subst he
      simp
  ·refine⟨by rw[u.nx,a5]; omega,λc hc hn=>?_,λc hc=>by rw[u.ty,a7]⟩
   have hc1:c≠mb:=λe=>hn (.inl e)
   have hc2:¬ lo≤c:=λe=>hn (.inr e)
   rw[u.ne hc1,a3.gt _ om]
  ·have q:h1.get c=h.get c:=a6 c hc λb' n e4=>by cases e4
   exact⟨q,λhm=>by rw[u.ne hm,q]⟩
  ·by_cases hj:j<es.length
   ·rw[bf hj] at e1
    exact .inr ⟨j,e,n,e1,e3⟩
   ·have hj':j<(es++[(AV.int .i64 ((x:Nat):Int),v',c)]).length:=(aB.1 e1).1
    rw[aN,aR,bo] at hj'
    have:j=es.length:=om
    subst this
    rw[aY om,eA] at e1
    cases e1
    rw[a4] at e3
    cases e3
    exact .inl rfl
 ·
  rw[aE] at q3
  obtain⟨p,hp,hpx⟩:=aw.1 q3
  have hs:=m.at_ k _ p q2 hp
  have hpl:lkL ml x=p.2:=by
   obtain⟨v2,b1,b2⟩:=m.look hg x
   have key:∀ {ml:ML}{i:Nat}{p:Nat×List Nat},ml[i]?=some p→(∀ j,j<i→(ml.map (·.1))[j]?≠some p.1)→lkL ml p.1=p.2:=by
    intro ml
    induction ml with
    | nil=>intro i p h; simp at h
    | cons q r ih =>
      intro i p hp hj
      cases i with
      | zero =>
        simp only[bh,aa] at hp
        subst hp
        rw[fF,if_pos rfl]
      | succ i =>
        have h0:=hj 0 om
        simp only[aS,bh,ne_eq,aa] at h0
        rw[fF,if_neg h0]
        exact ih (by simpa using hp) λj hj'=>by simpa using hj (j+1) om
   rw[← hpx] at q4 ⊢
   exact key hp q4
  obtain⟨v',h1,a1,a2,a3,a4,a5,a6,a7⟩:=hs.app (bytes:=8) hlo om hx0 hxl (λb n e=>hxn k _ q2 b n e) rfl rfl (by rw[fj,← hpl]; unfold aQ; omega) (by rw[fj,← hpl]; unfold aQ; omega)
  have g1:h1.get mb=some (.mapo es c):=by rw[a3.gt _ hmb]; exact hg
  have u:=NW (o:=.mapo (es.set k (.int .i64 (x:Nat),v',n)) c) g1
  have hel:es.length=ml.length:=m.len
  have hkl:k<es.length:=(aB.1 q2).1
  refine⟨v,v',h1,_,es.set k (.int .i64 (x:Nat),v',n),c,by simp only[fZ,hg,iZ,q1,if_true]; rfl,a1,g1,by simp only[mj,g1,iZ,q1,if_true],u.get,?_,a3,?_,λc hc hcn=>?_,λj e e1 b n e3=>?_,by rw[u.nx,a5]⟩
  ·have hup:kB ml x i=ml.set k (x,p.2++[i]):=GX hp hpx q4
   have lt:∀ (j:Nat) (e:AV×AV×Nat),es[j]?=some e→∀ b n,e.2.1=.sl b 0 n n→b<h.next:=λj e e1 b n e3=>by
    have hj:=(aB.1 e1).1
    exact (m.at_ j e _ e1 (au (show j<ml.length by omega))).lt e3
   have one:∀ (j:Nat) (e:AV×AV×Nat),(es.set k (AV.int .i64 ((x:Nat):Int),v',n))[j]?=some e→(j≠k∧es[j]?=some e)∨(j=k∧e.2.1=v'):=λj e e1=>by
    rw[cn] at e1
    split at e1
    ·rename_i e0
     cases e1
     exact .inr ⟨e0.symm,rfl⟩
    ·rename_i e0
     exact .inl ⟨λq=>e0 q.symm,e1⟩
   refine⟨?_,λj e p' e1 e2=>?_,λj j' e e' hne e1 e2 b n1 b' n1' f1 f2=>?_,?_⟩
   ·rw[oU]
    unfold Dx DD
    rw[if_pos (by rw[← hpx]; exact dq (fz hp)),(pW q2).1]
    exact m.keys
   ·rw[hup] at e2
    rcases one j e e1 with ⟨o1,o2⟩|⟨rfl,o2⟩
    ·rw[eR (λq=>o1 q.symm)] at e2
     refine (m.at_ j e p' o2 e2).cong λb n1 e3 hb=>?_
     rw[u.ne om,a6 b ((m.at_ j e p' o2 e2).lt e3) λb' n' e4=>m.sep j k e _ o1 o2 q2 b n1 b' n' e3 e4]
    ·rw[fe om] at e2
     cases e2
     rw[o2,pj]
     exact a2.cong λb n _ hb=>u.ne om
   ·rcases one j e e1 with ⟨l1,o1⟩|⟨l1,o1⟩<;>rcases one j' e' e2 with ⟨l2,o2⟩|⟨l2,o2⟩
    ·exact m.sep j j' e e' hne o1 o2 b n1 b' n1' f1 f2
    ·have:=lt j e o1 b n1 f1
     rw[o2,a4] at f2
     cases f2
     omega
    ·have:=lt j' e' o2 b' n1' f2
     rw[o1,a4] at f1
     cases f1
     omega
    ·omega
   ·obtain⟨s1,s2⟩:=m.st
    refine⟨by rw[(pW q2).2]; exact s1,λe he=>?_⟩
    rcases oK he with he|rfl
    ·exact s2 e he
    ·have:=s2 _ (fz q2)
     exact this
  ·refine⟨by rw[u.nx,a5]; omega,λc hc hn=>?_,λc hc=>by rw[u.ty,a7]⟩
   have hc1:c≠mb:=λe=>hn (.inl e)
   have hc2:¬ lo≤c:=λe=>hn (.inr e)
   rw[u.ne hc1,a3.gt _ om]
  ·have q:h1.get c=h.get c:=a6 c hc λb' n' e4=>by
    rintro rfl
    have q3:=hcn k _ q2 n'
    exact q3 e4
   exact⟨q,λhm=>by rw[u.ne hm,q]⟩
  ·rw[cn] at e1
   split at e1
   ·cases e1
    rw[a4] at e3
    cases e3
    exact .inl rfl
   ·exact .inr ⟨j,e,n,e1,e3⟩
end Go.Proofs.YthbmhbldmcbnpaaGreatDoor
