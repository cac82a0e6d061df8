/- Cells that are never written stay in every run. -/
import Derived.Test.YthbmhbldmcbnpaaGreatDoorYAmFrame
set_option linter.all false
namespace Go.Am
theorem ve (o:Out) (i:Nat):(o.unblock i).heap=o.heap:=by
 cases o with
 | exit id ts h =>
   unfold Out.unblock
   by_cases q:id=i
   ·simp only[q,if_true]; rfl
   ·simp only[q,if_false]
 | norm=>rfl
 | ret=>rfl
 | val=>rfl
section
variable {c:Nat}{cs:List AV}{e:Nat}
theorem gX {h:AH}{b:Nat}{o p:AO} (hc:h.get c=some (.cells cs e true)) (hb:h.get b=some o) (hn:o≠.cells cs e true):(h.put b p).get c=some (.cells cs e true):=by
 have hne:c≠b:=λq=>by
  subst q
  rw[hc] at hb
  exact hn (Option.some.inj hb).symm
 rw[AH.get_put _ _ _ _ (AH.lt_of_get hb),if_neg (λq=>hne q.symm)]
 exact hc
theorem zq {h:AH}{p:AO} (hc:h.get c=some (.cells cs e true)):(h.new p).get c=some (.cells cs e true):=by
 have:=AH.lt_of_get hc
 rw[AH.get_new,if_neg om]
 exact hc
theorem AP {h:AH}{p:AO}{t:Nat} (hc:h.get c=some (.cells cs e true)):(h.newT p t).get c=some (.cells cs e true):=by
 have:=AH.lt_of_get hc
 rw[AH.get_newT,if_neg om]
 exact hc
theorem vB {h:AH}{p:AO}{t:Option Nat} (hc:h.get c=some (.cells cs e true)):(h.newG p t).get c=some (.cells cs e true):=by
 cases t with
 | none=>exact zq hc
 | some t=>exact AP hc
theorem AU {h:AH}{k:Nat} (hc:h.get c=some (.cells cs e true)):(h.keep k).get c=some (.cells cs e true):=by
 have:=AH.lt_of_get hc
 rw[AH.keep_get,if_neg om]
 exact hc
theorem tx {h h':AH}{b i:Nat}{vs:List AV} (hc:h.get c=some (.cells cs e true)) (hw:bD h b i vs=some h'):h'.get c=some (.cells cs e true):=by
 unfold bD at hw
 split at hw
 ·rename_i hg
  split at hw
  ·cases hw
   exact gX hc hg (by simp)
  ·cases hw
 ·cases hw
theorem Jz {ev:RO→AV}{h h':AH}{op:ROp}{v:AV} (hc:h.get c=some (.cells cs e true)) (he:aC ev h op=some (v,h')):h'.get c=some (.cells cs e true):=by
 by_cases c0:op.cls=0
 ·obtain⟨rfl,_⟩:=pC c0 he
  exact hc
 by_cases c1:op.cls=1
 ·obtain⟨rfl,_⟩:=kO c1 he
  exact hc
 by_cases c2:op.cls=2
 ·rw[oB c2,aw] at he
  obtain⟨p,hp,he⟩:=he
  simp only[ap] at he
  obtain⟨rfl,rfl⟩:=he
  exact vB hc
 have hG:∀ {t:Option Nat}{k b:Nat}{s x:AV},mW h t k b s x=some (v,h')→h'.get c=some (.cells cs e true):=by
  intro t k b s x he
  unfold mW at he
  repeat' (split at he)
  all_goals first
   | (cases he; done)
   | (simp only[aa,ap] at he; obtain⟨_,rfl⟩:=he; first | exact hc | exact vB hc | (refine vB ?_; refine gX hc (by assumption) (by simp)))
   | (rw[aw] at he; obtain⟨h1,hw,he⟩:=he; simp only[ap] at he; obtain⟨_,rfl⟩:=he; exact tx hc hw)
 cases op<;>(try (exfalso; first|exact c0 rfl|exact c1 rfl|exact c2 rfl; done))<;>simp only[aC] at he
 case app=>rw[← pK] at he; exact hG he
 case appB =>
  unfold yt at he
  repeat' (split at he)
  all_goals exact hG he
 case store =>
  unfold jm at he
  repeat' (split at he)
  all_goals first
   | (cases he; done)
   | (rw[aw] at he; obtain⟨h1,hw,he⟩:=he; simp only[ap] at he; obtain⟨_,rfl⟩:=he; exact tx hc hw)
 case cpy =>
  unfold CY at he
  repeat' (split at he)
  all_goals first
   | (cases he; done)
   | (simp only[aa,ap] at he; obtain⟨_,rfl⟩:=he; exact hc)
   | (rw[aw] at he; obtain⟨h1,hw,he⟩:=he; simp only[ap] at he; obtain⟨_,rfl⟩:=he; exact tx hc hw)
 case scl =>
  unfold BO at he
  repeat' (split at he)
  all_goals first
   | (cases he; done)
   | (simp only[aa,ap] at he; obtain⟨_,rfl⟩:=he; exact hc)
   | (rw[aw] at he; obtain⟨h1,hw,he⟩:=he; simp only[ap] at he; obtain⟨_,rfl⟩:=he; exact tx hc hw)
 case mup =>
  unfold mj at he
  repeat' (split at he)
  all_goals first
   | (cases he; done)
   | (simp only[aa,ap] at he; obtain⟨_,rfl⟩:=he; first | exact hc | exact gX hc (by assumption) (by simp))
 case men =>
  unfold tj at he
  repeat' (split at he)
  all_goals first
   | (cases he; done)
   | (simp only[aa,ap] at he; obtain⟨_,rfl⟩:=he; first | exact hc | exact gX hc (by assumption) (by simp))
 case mst =>
  unfold vC at he
  repeat' (split at he)
  all_goals first
   | (cases he; done)
   | (simp only[aa,ap] at he; obtain⟨_,rfl⟩:=he; first | exact hc | exact gX hc (by assumption) (by simp))
 case mcl =>
  unfold Cs at he
  repeat' (split at he)
  all_goals first
   | (cases he; done)
   | (simp only[aa,ap] at he; obtain⟨_,rfl⟩:=he; first | exact hc | exact gX hc (by assumption) (by simp))
 case apz =>
  unfold Dv at he
  repeat' (split at he)
  all_goals first
   | (cases he; done)
   | (simp only[aa,ap] at he; obtain⟨_,rfl⟩:=he; first | exact hc | exact zq hc)
 case mkz =>
  unfold Cp at he
  repeat' (split at he)
  all_goals first
   | (cases he; done)
   | (simp only[aa,ap] at he; obtain⟨_,rfl⟩:=he; exact AP hc)
 case cvP =>
  rw[aw] at he
  obtain⟨_,_,he⟩:=he
  simp only[ap] at he
  obtain⟨_,rfl⟩:=he
  exact hc
 case ustr =>
  unfold tz at he
  repeat' (split at he)
  all_goals first
   | (cases he; done)
   | (simp only[aa,ap] at he; obtain⟨_,rfl⟩:=he; exact hc)
   | (rw[aw] at he; obtain⟨h1,hw,he⟩:=he; simp only[ap] at he; obtain⟨_,rfl⟩:=he; exact gX hc (by assumption) (by simp))
 all_goals (cases he)
theorem NI {b:Nat}{ev:RO→AV}{h h':AH}{o:ROper}{v:AV} (hc:h.get c=some (.cells cs e true)) (he:evN b ev h o=some (v,h')):h'.get c=some (.cells cs e true):=by
 unfold evN at he
 split at he
 ·exact Jz hc he
 ·rename_i j hj
  unfold fU at he
  split at he
  ·rename_i hg
   split at he
   ·simp only[aa,ap] at he
    obtain⟨_,rfl⟩:=he
    have hlt:=AH.lt_of_get hg
    have hne:c≠b+j:=λq=>by
     subst q
     rw[hc] at hg
     cases hg
    rw[AH.get_putG hlt,if_neg (λq=>hne q.symm)]
    exact hc
   ·cases he
  ·cases he
theorem nx_ro {h:AH}{x:AV}{as:List (AV×AH)} (hc:h.get c=some (.cells cs e true)) (he:mg h x=some as):∀ v h',(v,h')∈as→h'.get c=some (.cells cs e true):=by
 intro v h' hm
 unfold mg at he
 split at he
 ·rename_i b
  split at he
  ·rename_i hg
   cases he
   simp only[aA,bH,or_false,ap] at hm
   first
    | (obtain⟨_,rfl⟩:=hm; exact hc)
    | (rcases hm with ⟨_,rfl⟩ | hm<;>exact hc)
  ·rename_i hg
   repeat' (split at he)
   all_goals first
    | (cases he; done)
    | skip
   all_goals (cases he)
   all_goals (rcases aI.1 hm with hm|hm)
   all_goals first
    | (rw[bd] at hm; cases hm; exact hc)
    | (cases hm; done)
    | (obtain⟨x,hx,q⟩:=bi.1 hm; cases q; exact gX hc hg (by simp))
  ·cases he
 ·cases he
theorem BS.ro {P:RP}{t:Task}{ts:Tm}{h:AH}{R:Out→Prop} (hb:BS P t ts h R) (hc:h.get c=some (.cells cs e true)):BS P t ts h λo=>R o∧o.heap.get c=some (.cells cs e true):=by
 induction hb with
 | nil a=>exact .nil ⟨a,hc⟩
 | skipped a _ ih=>exact .skipped a (ih hc)
 | op a b d _ ih=>exact .op a b d (ih (NI hc b))
 | any a b d k _ ih=>exact .any a b d k λv h' hm=>ih v h' hm (nx_ro hc d v h' hm)
 | call a b _ k _ ih1 ih2=>exact .call a b (ih1 hc) (λv h' hs=>k v h' hs.1) λv h' hs=>ih2 v h' hs.1 hs.2
 | callv a b d _ k _ ih1 ih2=>exact .callv a b d (ih1 hc) (λv h' hs=>k v h' hs.1) λv h' hs=>ih2 v h' hs.1 hs.2
 | yield a b d _ k _ ih1 ih2=>exact .yield a b d (ih1 hc) (λv h' hs=>k v h' hs.1) λv h' hs=>ih2 v h' hs.1 hs.2
 | skip a=>exact .skip ⟨a,hc⟩
 | reg _ ih=>exact .reg (ih hc)
 | regD a _ ih=>exact .regD a λl hl=>ih l hl (AU hc)
 | regK _ ih=>exact .regK (ih (AU hc))
 | seq _ _ d f ih1 ih2=>exact .seq (ih1 hc) (λts' h' hs=>ih2 ts' h' hs.1 hs.2) (λ_ _ _ hs=>⟨d _ _ _ hs.1,hs.2⟩) λ_ _ hs=>⟨f _ _ hs.1,hs.2⟩
 | cond a _ ih=>exact .cond a (ih hc)
 | block _ b ih =>
   exact .block (ih hc) λo ho=>⟨b o ho.1,by rw[ve]; exact ho.2⟩
 | loop _ _ d f ih1 ih2=>exact .loop (ih1 hc) (λts' h' hs=>ih2 ts' h' hs.1 hs.2) (λ_ _ _ hs=>⟨d _ _ _ hs.1,hs.2⟩) λ_ _ hs=>⟨f _ _ hs.1,hs.2⟩
 | rangeF a _ d ih =>
   refine .rangeF a (ih (zq hc)) λv h' hs=>?_
   obtain⟨f1,p1,t1,q1,st,pend,g1,g2,g3⟩:=d v h' hs.1
   refine⟨f1,p1,t1,q1,st,pend,g1,g2,?_⟩
   have hk:∀ p:AO,(h'.put _ p).get c=some (.cells cs e true):=λp=>gX hs.2 g1 (by simp)
   split at g3<;>exact⟨g3,hk _⟩
 | exit a=>exact .exit ⟨a,hc⟩
 | ret a=>exact .ret ⟨a,hc⟩
 | func a _ d f ih =>
   refine .func a (ih hc) (λid ts' h' hs=>d id ts' h' hs.1) λts' h' hs=>?_
   rcases hs with hs|hs
   ·obtain⟨v,g1,g2⟩:=f ts' h' (.inl hs.1)
    exact⟨v,g1,g2,hs.2⟩
   ·obtain⟨v,g1,g2⟩:=f ts' h' (.inr hs.1)
    exact⟨v,g1,g2,hs.2⟩
 | srt a b d f g=>exact .srt a b d f ⟨g,tx hc d⟩
 | srf a b d f g k =>
   refine .srf a b d f g λis p q=>?_
   obtain⟨h',x,y⟩:=k is p q
   exact⟨h',x,y,tx hc x⟩
 | round a b d f _ g _ i ih1 ih2 =>
   refine .round a b d f (ih1 hc) (λo ho=>g o ho.1) (λts1 h1 f1 p1 tl1 ps1 hs hg=>ih2 ts1 h1 f1 p1 tl1 ps1 hs.1 hg (gX hs.2 hg (by simp))) λo ho=>?_
   have:=i o ho.1
   have hk:=ho.2
   cases o with
   | norm=>obtain⟨_,_,_,_,q1,q2⟩:=this; exact⟨_,_,_,_,q1,q2,gX hk q1 (by simp)⟩
   | ret=>obtain⟨_,_,_,_,q1,q2⟩:=this; exact⟨_,_,_,_,q1,q2,gX hk q1 (by simp)⟩
   | exit=>obtain⟨_,_,_,_,q1,q2⟩:=this; exact⟨_,_,_,_,q1,q2,gX hk q1 (by simp)⟩
   | val=>exact this
end
end Go.Am
