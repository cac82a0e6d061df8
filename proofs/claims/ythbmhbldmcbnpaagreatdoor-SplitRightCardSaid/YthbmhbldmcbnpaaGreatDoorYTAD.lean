/- maps.Keys, and slices.Sorted of the keys, that come in any o -/
import Derived.Test.YthbmhbldmcbnpaaGreatDoorYTAC
set_option linter.all false
namespace Go.Proofs.YthbmhbldmcbnpaaGreatDoor
open Go.Am
theorem to:KeyE .ki (λk:Nat=>AV.int .i64 ((k:Nat):Int)):=λa b=>by
 simp only[fT,if_true,aa]
 by_cases e:a=b
 ·subst e; simp
 ·rw[ai e,beq_eq_false_iff_ne]; omega
theorem NB {h:AH}{it mb c:Nat}{es:List (AV×AV×Nat)}{seen:List Nat} (hi:h.get it=some (.mit (some mb) c seen c)) (hm:h.get mb=some (.mapo es c)) (hs:∀ e∈es,e.2.2<c) :
 ∃ al,mg h (.ptr it 0)=some al∧∀ v h',(v,h')∈al→((∀ e∈es,e.2.2∈seen)∧v=.tup [.bool false]∧h'=h)∨∃ e∈es,e.2.2∉seen∧v=.tup [.bool true,e.1,e.2.1]∧h'=h.put it (.mit (some mb) c (seen++[e.2.2]) c):=by
 have hno:(!seen.isEmpty&&!es.isEmpty&&es.all (λe=>decide (e.2.2≥c)))=false:=by
  cases es with
  | nil=>simp
  | cons e r =>
    have:=hs e (aK ..)
    have h1:decide (e.2.2≥c)=false:=ai om
    simp [h1]
 refine⟨_,by simp only[mg,hi,hm,hno]; rfl,λv h' hv=>?_⟩
 rcases aI.1 hv with hv|hv
 ·split at hv
  ·rename_i ho
   rw[bd] at hv
   cases hv
   refine .inl ⟨λe he=>?_,rfl,rfl⟩
   simp only[rD,lI] at ho
   refine Classical.byContradiction λhc=>?_
   have:e∈(es.filter λe=>!seen.contains e.2.2).filter λe=>decide (e.2.2<c):=bC.2 ⟨bC.2 ⟨he,by simpa using hc⟩,aq (hs e he)⟩
   rw[ho] at this
   cases this
  ·cases hv
 ·obtain⟨e,he,q⟩:=bi.1 hv
  cases q
  have:e∈es∧e.2.2∉seen:=by
   unfold Gn at he
   rcases aI.1 he with he|he
   ·have:=(bC.1 he).1
    obtain⟨a,b⟩:=bC.1 this
    exact⟨a,by simpa using b⟩
   ·have:=(bC.1 he).1
    obtain⟨a,b⟩:=bC.1 this
    exact⟨a,by simpa using b⟩
  exact .inr ⟨e,this.1,this.2,rfl,rfl⟩
theorem JC {h:AH}{it mb c:Nat}{es:List (AV×AV×Nat)}{seen:List Nat}{e:AV×AV×Nat} (hi:h.get it=some (.mit (some mb) c (seen++[e.2.2]) c)) (hm:h.get mb=some (.mapo es c)) (hs:(es.map (·.2.2)).Pairwise (·<·)) (he:e∈es) :
 vW h (.ptr it 0)=some (.tup [e.1,e.2.1]):=by
 have hf:es.find? (λx=>x.2.2==e.2.2)=some e:=by
  clear hm
  induction es with
  | nil=>cases he
  | cons a r ih =>
    rw[aS,cN] at hs
    rw[Ki]
    rcases aA.1 he with rfl|he
    ·rw[show (e.2.2==e.2.2)=true from by simp]
    ·have:=hs.1 e.2.2 (dq he)
     rw[show (a.2.2==e.2.2)=false from by rw[beq_eq_false_iff_ne]; omega]
     exact ih hs.2 he
 simp only[vW,hi,hm,List.getLast?_append,List.getLast?_singleton,Option.some_or,if_true,hf,aG]
theorem Ao {α:Type} [DecidableEq α] {κ:α→AV}{h:AH}{it mb c:Nat}{es:List (AV×AV×Nat)}{l:List (α×AV)}{ix:List Nat} (E:EsG κ es c l) (hm:h.get mb=some (.mapo es c)) (nd:ix.Nodup) (hb:∀ i∈ix,i<l.length)
 (hi:h.get it=some (.mit (some mb) c (ix.map λi=>(es.getD i (.nilp,.nilp,0)).2.2) c)) :
 ∃ al,mg h (.ptr it 0)=some al∧∀ v h',(v,h')∈al→(ix.Perm (List.range l.length)∧v=.tup [.bool false]∧h'=h) ∨
   ∃ (i:Nat) (hl:i<l.length),i∉ix∧(ix++[i]).Nodup∧(∀ k∈ix++[i],k<l.length)∧ix.length<l.length∧v=.tup [.bool true,κ l[i].1,l[i].2]∧h'=h.put it (.mit (some mb) c ((ix++[i]).map λi=>(es.getD i (.nilp,.nilp,0)).2.2) c)∧vW h' (.ptr it 0)=some (.tup [κ l[i].1,l[i].2])∨False:=by
 obtain⟨al,q1,q2⟩:=NB hi hm E.st2
 have hel:=E.ent.len
 have hst:∀ i j,(hi:i<es.length)→(hj:j<es.length)→es[i].2.2=es[j].2.2→i=j:=λi j hi hj e=>by
  have hp:=E.st1
  rcases kw i j with q|q|q
  ·have:=(dh.1 hp) i j (by simpa using hi) (by simpa using hj) q
   rw[bt,bt] at this
   omega
  ·exact q
  ·have:=(dh.1 hp) j i (by simpa using hj) (by simpa using hi) q
   rw[bt,bt] at this
   omega
 refine⟨al,q1,λv h' hv=>?_⟩
 rcases q2 v h' hv with ⟨p1,rfl,rfl⟩|⟨e,p1,p2,rfl,rfl⟩
 ·refine .inl ⟨?_,rfl,rfl⟩
  refine Kur.perm_of_sub nd (λi hi=>aL.2 (hb i hi)) ?_
  rw[aZ]
  have:∀ i∈List.range l.length,i∈ix:=λi hi=>by
   have hi:=aL.1 hi
   have hi':i<es.length:=om
   obtain⟨j,hj,e⟩:=bi.1 (p1 _ (aO hi'))
   have hj':j<es.length:=by have:=hb j hj; omega
   rw[aF,au hj'] at e
   have:=hst j i hj' hi' e
   rwa [← this]
  have:=Kur.len_le_of_sub iB this
  rwa [aZ] at this
 ·obtain⟨k,hk,rfl⟩:=db p1
  have hkl:k<l.length:=om
  have hkx:k∉ix:=λq=>p2 (bi.2 ⟨k,q,by rw[aF,au hk]; rfl⟩)
  have nd':(ix++[k]).Nodup:=by
   rw[bN]
   exact⟨nd,by simp,λa ha b hb=>by rw[bd] at hb; subst hb; rintro rfl; exact hkx ha⟩
  have in':∀ i∈ix++[k],i<l.length:=λi hi=>by
   rcases aI.1 hi with q|q
   ·exact hb i q
   ·rw[bd] at q; subst q; exact hkl
  have hlt:(ix++[k]).length≤l.length:=by
   have:=Kur.len_le_of_sub (l:=ix++[k]) (m:=List.range l.length) nd' λi hi=>aL.2 (in' i hi)
   rwa [aZ] at this
  rw[aN,aR,bo] at hlt
  have hent:es[k].1=κ l[k].1∧es[k].2.1=l[k].2:=by
   have q:(es.map (λx=>(x.1,x.2.1)))[k]?=_:=congrArg (·[k]?) E.ent
   rw[aE,aE,au hk,au hkl] at q
   simp only[aG,aa,ap] at q
   exact q
  have hmit:(ix.map λi=>(es.getD i (.nilp,.nilp,0)).2.2)++[es[k].2.2]=(ix++[k]).map λi=>(es.getD i (.nilp,.nilp,0)).2.2:=by
   rw[br]
   simp [aF,au hk]
  have u:=NW (o:=.mit (some mb) c ((ix.map λi=>(es.getD i (.nilp,.nilp,0)).2.2)++[es[k].2.2]) c) hi
  have hne:mb≠it:=by
   rintro rfl
   rw[hm] at hi
   cases hi
  have hent2:=JC u.get (by rw[u.ne hne]; exact hm) E.st1 (aO hk)
  rw[hent.1,hent.2] at hent2
  refine .inr ⟨k,hkl,.inl ⟨hkx,nd',in',om,by rw[hent.1,hent.2],by rw[hmit],hent2⟩⟩
theorem Cq {h:AH}{cb mb L c:Nat}{es:List (AV×AV×Nat)}{l:List (Nat×AV)} (E:EsG (λk:Nat=>AV.int .i64 ((k:Nat):Int)) es c l) (hlt:cb<h.next) (hlt2:mb<h.next) (J:List Nat→AH→Prop) (hJ:∀ ks h',J ks h'→h'.get cb=some (.cells [.mp mb] 1 false)∧h'.get mb=some (.mapo es c))
 (hS:∀ ks h1 h2,J ks h1→h.next≤h1.next→(∀ b,b<h.next→h2.get b=h1.get b)→h1.next≤h2.next→(∀ b,b<h.next→h2.tyOf b=h1.tyOf b)→(∀ b,h.next<b→b<h1.next→h2.get b=h1.get b)→J ks h2)
 (hY:∀ ks k h1,k∈l.map (·.1)→k∉ks→ks.length<l.length→J ks h1→h.next<h1.next→Y prg L [.int .i64 ((k:Nat):Int)] h1 λr h2=>r=.bool true∧J (ks++[k]) h2∧h1.next≤h2.next∧h2.get h.next=h1.get h.next) (h0:J [] h) :
 C prg 59 [.yld L,.ptr cb 0] h λ_ h'=>∃ ks,ks.Perm (l.map (·.1))∧J ks h':=by
 refine NX pf59 ?_
 obtain⟨r0,s0⟩:=hJ [] h h0
 have rc:aj h cb 0 1=some [.mp mb]:=aJ r0 rfl
 have hrg:vp h (.mp mb)=some (.ptr h.next 0,h.new (.mit (some mb) c [] c)):=by simp only[vp,s0]
 have x1:Ext h.next h (h.new (.mit (some mb) c [] c)):=NU (ae _)
 have gi:(h.new (.mit (some mb) c [] c)).get h.next=some (.mit (some mb) c [] c):=by rw[AH.get_new,if_pos rfl]
 have n1:(h.new (.mit (some mb) c [] c)).next=h.next+1:=rfl
 refine ah (ak (Mi2 rc hrg) ?_)
 have j1:J [] (h.new (.mit (some mb) c [] c)):=hS [] h _ h0 (ae _) (λb hb=>x1.gt b hb) x1.nx (λb hb=>x1.ty b hb) λb q1 q2=>by omega
 generalize h.new (.mit (some mb) c [] c)=hA at *
 let key:Nat→Nat:=λi=>(l.map (·.1)).getD i 0
 have hkey:∀ i (hi:i<l.length),key i=l[i].1:=λi hi=>by
  show (l.map (·.1)).getD i 0=_
  rw[aF,aE,au hi]
  rfl
 have hinj:∀ i j,i<l.length→j<l.length→key i=key j→i=j:=λi j hi hj e=>by
  rw[hkey i hi,hkey j hj] at e
  have:=(GK (h₀:=by simpa using hi) (h₁:=by simpa using hj) E.nod (i:=i) (j:=j)).1 (by simpa using e)
  exact this
 refine bL (fI (λm ts h'=>∃ ix,m=l.length-ix.length∧ix.Nodup∧(∀ i∈ix,i<l.length)∧J (ix.map key) h'∧h.next<h'.next∧h'.get h.next=some (.mit (some mb) c (ix.map λi=>(es.getD i (.nilp,.nilp,0)).2.2) c)∧Held [(0,.yld L),(5,.ptr h.next 0)] ts) ?_ (n:=l.length)
  ⟨[],by simp,nV,(λi hi=>by cases hi),j1,om,gi,Hi0⟩)
 rintro m ts hB ⟨ix,rfl,i1,i2,i3,i4,i5,e0,e5,-⟩
 simp only at e0 e5
 obtain⟨al,q1,q2⟩:=Ao E (hJ _ _ i3).2 i1 i2 i5
 refine ah (bF (MY rfl (by rw[zE,e5]; exact q1) λv h' hv=>⟨rfl,?_⟩))
 rcases q2 v h' hv with ⟨p1,rfl,rfl⟩|⟨k,hk,⟨p1,p2,p3,p4,rfl,rfl,p5⟩|hf⟩
 ·refine bp (M0) ?_
  refine ah (cj (Z0) ?_)
  refine eX ⟨λ_=>⟨.tup [],rfl,ix.map key,?_,i3⟩,λe=>absurd rfl e⟩
  have:=p1.map key
  refine this.trans ?_
  have he:(List.range l.length).map key=l.map (·.1):=by
   refine fR (by simp) λi q1 q2=>?_
   rw[bt,jF,hkey i (by simpa using q2),bt]
  rw[he]
 ·have u:=NW (o:=.mit (some mb) c ((ix++[k]).map λi=>(es.getD i (.nilp,.nilp,0)).2.2) c) i5
  have hjm:=hJ _ _ i3
  have i3':J (ix.map key) (hB.put h.next (.mit (some mb) c ((ix++[k]).map λi=>(es.getD i (.nilp,.nilp,0)).2.2) c)):=hS _ hB _ i3 om (λb hb=>u.ne om) (by rw[u.nx]; omega) (λb _=>u.ty b) λb q1 q2=>u.ne om
  generalize hB.put h.next (.mit (some mb) c ((ix++[k]).map λi=>(es.getD i (.nilp,.nilp,0)).2.2) c)=hC at *
  refine bp (M0) ?_
  refine ah (bq (Z0) (be ?_))
  refine bL (ah (ak (M2 e5 p5) ?_))
  have hkn:l[k].1∉ix.map key:=λq=>by
   obtain⟨i,hi,e⟩:=bi.1 q
   rw[← hkey k hk] at e
   exact p1 ((hinj i k (i2 i hi) hk e)▸hi)
  have hy:=hY (ix.map key) l[k].1 hC (dq (aO hk)) hkn (by rw[ar]; exact p4) i3' (by rw[u.nx]; omega)
  refine ah (bF (yB 2 (M1 e0) rfl (Z1 e0) (M1 e0) (M1 e0) (hy) λr hD hq=>?_))
  obtain⟨rfl,d1,d2,d3⟩:=hq
  refine bp (M0) ?_
  refine cj (Z0) ?_
  refine be ⟨l.length-(ix++[k]).length,by rw[aN,aR,bo]; omega,ix++[k],rfl,p2,p3,?_,by rw[u.nx] at d2; omega,by rw[d3]; exact u.get,H2 e0 e5⟩
  rw[br]
  have:[k].map key=[l[k].1]:=by rw[← hkey k hk]; rfl
  rw[this]
  exact d1
 ·exact hf.elim
theorem Fm {h:AH}{v:AV} (hv:v.cells=[v]):C prg 29 [v] h λr h'=>r=.fn 59 [.ptr h.next 0]∧h'=h.new (.cells [v] 1 false):=by
 refine NX pf29 ?_
 refine ah (ak (Mi1 hv) ?_)
 refine ah (ak (M0) ?_)
 exact aV ⟨_,(by simp only[rs,rf29,am,aC,simprocAttr]<;>rfl),rfl,rfl⟩
theorem Ac {h:AH}{cb mb c:Nat}{es:List (AV×AV×Nat)}{l:List (Nat×AV)} (E:EsG (λk:Nat=>AV.int .i64 ((k:Nat):Int)) es c l) (hc:h.get cb=some (.cells [.mp mb] 1 false)) (hm:h.get mb=some (.mapo es c)) (hxl:l.length<2 ^ 30) :
 C prg 80 [.nils,.fn 59 [.ptr cb 0]] h λr h'=>∃ ks,ks.Perm (l.map (·.1))∧IsSl h' 1 h.next r (nC ks)∧Ext h.next h h':=by
 have hcb:=AH.lt_of_get hc
 have hmb:=AH.lt_of_get hm
 refine NX pf80 ?_
 refine ah (ak (Mi0) ?_)
 have g0:(h.new (.cells [.nils] 1 false)).get h.next=some (.cells [.nils] 1 false):=by rw[AH.get_new,if_pos rfl]
 have x0:Ext h.next h (h.new (.cells [.nils] 1 false)):=NU (ae _)
 have n0:(h.new (.cells [.nils] 1 false)).next=h.next+1:=rfl
 generalize h.new (.cells [.nils] 1 false)=h0 at *
 refine ah (ah (sV (λts h1=>h1=h0∧cG ts 2=.ptr h.next 0∧cG ts 6=.fn 59 [.ptr cb 0]) (by simp only[am,aC,simprocAttr,bI]) λts h1 hq=>?_))
 obtain⟨rfl,e2,e6⟩:=hq
 refine bL (yw (Q:=λ_ h'=>∃ ks,ks.Perm (l.map (·.1))∧h'.get h1.next=some (.lp 80 [true,false,true,false] ts [7] .ready none)∧(∃ s,h'.get h.next=some (.cells [s] 1 false)∧IsSl h' 1 (h.next+3) s (nC ks))∧Ext h.next h h'∧h.next+2≤h'.next) (by simp only[am,aC,simprocAttr,e6]; rfl) ?_ ?_)
 ·have hn2:(h1.new (.lp 80 [true,false,true,false] ts [7] .ready none)).next=h.next+2:=by rw[AH.next_new,n0]
  refine (Cq E (mb:=mb) (cb:=cb) (h:=h1.new (.lp 80 [true,false,true,false] ts [7] .ready none)) om om (λks h'=>h'.get h1.next=some (.lp 80 [true,false,true,false] ts [7] .ready none)∧(∃ s,h'.get h.next=some (.cells [s] 1 false)∧IsSl h' 1 (h.next+3) s (nC ks))∧Ext h.next h h'∧h.next+2≤h'.next) ?_ ?_ ?_ ?_).mono λr h' q=>q
  ·rintro ks h' ⟨_,_,hx,_⟩
   exact⟨by rw[hx.gt _ hcb]; exact hc,by rw[hx.gt _ hmb]; exact hm⟩
  ·rintro ks ha hb ⟨a1,⟨s,a2,a3⟩,a4,a5⟩ hle b1 b2 b3 b4
   refine⟨by rw[b1 _ om]; exact a1,⟨s,by rw[b1 _ om]; exact a2,IsSl.cong (lo:=h.next+3) a3 λb n e q=>b4 b om (a3.lt e)⟩,⟨by have:=a4.nx; omega,λc hc=>by rw[b1 c om]; exact a4.gt c hc,λc hc=>by rw[b3 c om]; exact a4.ty c hc⟩,om⟩
  ·rintro ks k h' hk1 hk2 hkl ⟨hL,⟨s,hs,hsl⟩,hx,hn⟩ hlt
   rw[hn2] at hlt ⊢
   refine Y.round hL rfl pf80 rfl ?_
   refine ak (by simp only[am,aC,simprocAttr,jp]<;>rfl) ?_
   refine⟨rfl,?_⟩
   have uB:=NW (o:=.lp 80 [true,false,true,false] ts [7] .busy none) hL
   generalize h'.put h1.next (.lp 80 [true,false,true,false] ts [7] .busy none)=hb at *
   have hsl':IsSl hb 1 (h.next+3) s (nC ks):=hsl.upd uB om
   have gs:hb.get h.next=some (.cells [s] 1 false):=by rw[uB.ne om]; exact hs
   have rs1:aj hb h.next 0 1=some [s]:=by rw[aP gs]; rfl
   obtain⟨s',h2,a1,i1,x1,p1⟩:=hsl'.push (bytes:=8) [.int .i64 ((k:Nat):Int)] (by rw[uB.nx]; omega) om rfl rfl (by rw[fj]; unfold aQ; omega) (by rw[fj]; unfold aQ; omega)
   have gs2:h2.get h.next=some (.cells [s] 1 false):=by rw[x1.gt _ om]; exact gs
   obtain⟨sc,so⟩:=i1.cells
   have w1:bD h2 h.next 0 [s']=some (h2.put h.next (.cells [s'] 1 false)):=by rw[et gs2]; rfl
   have uS:=NW (o:=.cells [s'] 1 false) gs2
   have hnx1:=uB.nx
   have hnx2:=x1.nx
   refine bL ?_
   refine ak (by simp only[am,aC,simprocAttr,e2,rs1,a1,sc,so,w1]<;>rfl) ?_
   have gL:(h2.put h.next (.cells [s'] 1 false)).get h1.next=some (.lp 80 [true,false,true,false] ts [7] .busy none):=by rw[uS.ne om,x1.gt _ om,uB.get]
   have uR:=NW (o:=.lp 80 [true,false,true,false] ts [7] .ready none) gL
   refine⟨gL,rfl,⟨uR.get,⟨s',by rw[uR.ne om]; exact uS.get,?_⟩,?_,?_⟩,?_,?_⟩
   ·rw[pj]
    exact (i1.upd uS om).upd uR om
   ·exact hx.trans ((uB.ext om).trans ((x1.mono om).trans ((uS.ext (ae _)).trans (uR.ext om))))
   ·rw[uR.nx,uS.nx]
    omega
   ·rw[uR.nx,uS.nx]
    omega
   ·rw[uR.ne om,uS.ne om,x1.gt _ om,uB.ne om]
  ·have gN:(h1.new (.lp 80 [true,false,true,false] ts [7] .ready none)).get h1.next=some (.lp 80 [true,false,true,false] ts [7] .ready none):=by rw[AH.get_new,if_pos rfl]
   refine⟨gN,⟨.nils,?_,.inl ⟨rfl,rfl⟩⟩,x0.trans (NU om),by rw[AH.next_new]; omega⟩
   rw[AH.get_new,if_neg om]
   exact g0
 ·rintro _ h' ⟨ks,hp,hL,⟨s,hs,hsl⟩,hx,hn⟩
  refine⟨⟨_,_,_,_,hL⟩,λf1 p1 t1 q1=>?_⟩
  have uO:=NW (o:=.lp f1 p1 t1 q1 .over none) hL
  have rs1:aj (h'.put h1.next (.lp f1 p1 t1 q1 .over none)) h.next 0 1=some [s]:=by rw[aP (by rw[uO.ne om]; exact hs)]; rfl
  refine ah (ak (M2 e2 rs1) ?_)
  exact aV ⟨s,(by simp only[rs,rf80,am,aC,simprocAttr]<;>rfl),ks,hp,(hsl.upd uO om).mono om,hx.trans (uO.ext om)⟩
theorem tS:∀ {l m:List Nat},l.Pairwise (·<·)→m.Pairwise (·<·)→(∀ x,x∈l↔x∈m)→l=m
 | [],[],_,_,_=>rfl
 | [],y::m,_,_,h=>by have:=(h y).2 (aK ..); cases this
 | x::l,[],_,_,h=>by have:=(h x).1 (aK ..); cases this
 | x::l,y::m,h1,h2,h=>by
   obtain⟨a1,a2⟩:=cN.1 h1
   obtain⟨b1,b2⟩:=cN.1 h2
   have e:x=y:=by
    have hx:=(h x).1 (aK ..)
    have hy:=(h y).2 (aK ..)
    rcases aA.1 hx with q|q
    ·exact q
    ·rcases aA.1 hy with p|p
     ·exact p.symm
     ·have:=a1 y p; have:=b1 x q; omega
   subst e
   rw[tS a2 b2 λz=>?_]
   have hz:=h z
   rw[aA,aA] at hz
   constructor
   ·intro q
    rcases hz.1 (.inr q) with p|p
    ·have:=a1 z q; omega
    ·exact p
   ·intro q
    rcases hz.2 (.inr q) with p|p
    ·have:=b1 z q; omega
    ·exact p
theorem yS {l:List Nat} (h:l.Nodup):(iE l).Pairwise (·<·):=by
 have h1:=BE l
 have h2:(iE l).Nodup:=((lW l).nodup_iff).2 h
 exact (h1.and h2).imp λ⟨a,b⟩=>by have b:_≠_:=b; omega
theorem yR {h:AH}{cb mb:Nat}{l:List (Nat×AV)} (m:MapG (λk:Nat=>AV.int .i64 ((k:Nat):Int)) h mb l) (hc:h.get cb=some (.cells [.mp mb] 1 false)) (hxl:l.length<2 ^ 30) :
 C prg 28 [.fn 59 [.ptr cb 0]] h λr h'=>∃ ks,ks.Pairwise (·<·)∧(∀ x,x∈ks↔x∈l.map (·.1))∧IsSl h' 1 h.next r (nC ks)∧Ext h.next h h':=by
 obtain⟨es,c,hm,E⟩:=m
 have hcol:C prg 57 [.fn 59 [.ptr cb 0]] h λr h'=>∃ ks,ks.Perm (l.map (·.1))∧IsSl h' 1 h.next r (nC ks)∧Ext h.next h h':=by
  refine NX pf57 ?_
  refine ah (ak (Mi0) ?_)
  refine ah (bF (bg 1 (Mi0) rfl (Zi0) (Mi0) (Ac E hc hm hxl) λr h2 hq=>?_))
  refine bp (M0) ?_
  exact aV ⟨r,(by simp only[rs,rf57,am,aC,simprocAttr]<;>rfl),hq⟩
 refine NX pf28 ?_
 refine ah (ak (Mi0) ?_)
 refine ah (bF (bg 1 (Mi0) rfl (Zi0) (Mi0) (hcol) λr h2 hq=>?_))
 obtain⟨ks,k1,k2,k3⟩:=hq
 refine bp (M0) ?_
 have kl:ks.length=l.length:=by rw[k1.length_eq,ar]
 refine ah (bF (bg 1 (M0) rfl (Z0) (M0) (DV k2 om) λu h3 hq=>?_))
 obtain⟨s1,s2,s3,s4⟩:=hq
 refine bp (M0) ?_
 refine ah (ak (M0) ?_)
 refine aV ⟨r,(by simp only[rs,rf28,am,aC,simprocAttr,k2.cells.1]<;>rfl),iE ks,yS ((k1.nodup_iff).2 E.nod),λx=>by rw[(lW ks).mem_iff,k1.mem_iff],s1,?_⟩
 have hx:∀ c,c<h.next→∀ n,r≠.sl c 0 n n:=λc hc n e=>by
  rcases k2 with ⟨q,_⟩|⟨b,m,hb,q,_⟩
  ·rw[q] at e; cases e
  ·rw[q] at e; cases e; omega
 exact k3.trans ⟨om,λc hc=>s2 c (hx c hc),λc _=>s4 c⟩
end Go.Proofs.YthbmhbldmcbnpaaGreatDoor
namespace Go.Blk
structure Gr where
 m:Nat
 n:Nat
 tl:Nat→Nat
 hd:Nat→Nat
 ok:∀ i,i<m→tl i<n∧hd i<n∧tl i≠hd i
variable {g:Gr}
def Gr.oth (g:Gr) (i x:Nat):Nat:=g.tl i+g.hd i-x
def Gr.inc (g:Gr) (i x:Nat):Prop:=i<g.m∧(g.tl i=x∨g.hd i=x)
instance (i x:Nat):Decidable (g.inc i x):=by unfold Gr.inc; infer_instance
theorem inc_lt {i x:Nat} (h:g.inc i x):x<g.n:=by
 obtain⟨h1,h2⟩:=h
 have:=g.ok i h1
 rcases h2 with rfl|rfl
 ·exact this.1
 ·exact this.2.1
theorem inc_oth {i x:Nat} (h:g.inc i x):g.inc i (g.oth i x)∧g.oth i x≠x∧g.oth i (g.oth i x)=x:=by
 obtain⟨h1,h2⟩:=h
 have:=g.ok i h1
 unfold Gr.inc Gr.oth
 rcases h2 with rfl|rfl
 ·exact⟨⟨h1,.inr om⟩,om,om⟩
 ·exact⟨⟨h1,.inl om⟩,om,om⟩
theorem gF {i x y:Nat} (hx:g.inc i x) (hy:g.inc i y) (hne:y≠x):y=g.oth i x:=by
 obtain⟨h1,h2⟩:=hx
 obtain⟨_,h3⟩:=hy
 have:=g.ok i h1
 unfold Gr.oth
 omega
inductive Conn (g:Gr) (S:Nat→Prop):Nat→Nat→Prop
 | refl {u:Nat}:S u→Conn g S u u
 | step {u v i:Nat}:Conn g S u v→g.inc i v→S (g.oth i v)→Conn g S u (g.oth i v)
theorem Conn.right {S:Nat→Prop}{u v:Nat} (h:Conn g S u v):S v:=by
 cases h with
 | refl h=>exact h
 | step _ _ h=>exact h
theorem Conn.trans {S:Nat→Prop}{u v w:Nat} (h1:Conn g S u v) (h2:Conn g S v w):Conn g S u w:=by
 induction h2 with
 | refl _=>exact h1
 | step _ a b ih=>exact .step ih a b
theorem Conn.edge {S:Nat→Prop}{u i:Nat} (hu:S u) (hi:g.inc i u) (hv:S (g.oth i u)):Conn g S u (g.oth i u):=.step (.refl hu) hi hv
theorem Conn.symm {S:Nat→Prop}{u v:Nat} (h:Conn g S u v):Conn g S v u:=by
 induction h with
 | refl h=>exact .refl h
 | @step v i h1 h2 h3 ih =>
   obtain⟨a,b,c⟩:=inc_oth h2
   have:=Conn.edge (S:=S) h3 a (by rw[c]; exact h1.right)
   rw[c] at this
   exact this.trans ih
theorem Conn.mono {S S':Nat→Prop}{u v:Nat} (h:Conn g S u v) (hs:∀ z,S z→S' z):Conn g S' u v:=by
 induction h with
 | refl h=>exact .refl (hs _ h)
 | step _ a b ih=>exact .step ih a (hs _ b)
theorem Conn.stays {S T:Nat→Prop}{u v:Nat} (h:Conn g S u v) (ht:∀ u i,T u→g.inc i u→S (g.oth i u)→T (g.oth i u)) (hu:T u):T v:=by
 induction h with
 | refl _=>exact hu
 | step _ a b ih=>exact ht _ _ ih a b
def Rel (g:Gr) (i k:Nat):Prop:=∃ x,g.inc i x∧g.inc k x∧Conn g (·≠x) (g.oth i x) (g.oth k x)
theorem Rel.symm {i k:Nat} (h:Rel g i k):Rel g k i:=by
 obtain⟨x,a,b,c⟩:=h
 exact⟨x,b,a,c.symm⟩
inductive Cls (g:Gr):Nat→Nat→Prop
 | refl {i:Nat}:Cls g i i
 | step {i j k:Nat}:Cls g i j→Rel g j k→Cls g i k
theorem Cls.trans {i j k:Nat} (h1:Cls g i j) (h2:Cls g j k):Cls g i k:=by
 induction h2 with
 | refl=>exact h1
 | step _ b ih=>exact .step ih b
theorem Cls.one {i k:Nat} (h:Rel g i k):Cls g i k:=.step .refl h
theorem Cls.symm {i k:Nat} (h:Cls g i k):Cls g k i:=by
 induction h with
 | refl=>exact .refl
 | step _ b ih=>exact (Cls.one b.symm).trans ih
def IsBlock (g:Gr) (b:List Nat):Prop:=b≠[]∧(∀ i∈b,∀ k∈b,Cls g i k)∧∀ i∈b,∀ k,Rel g i k→k∈b
theorem IsBlock.cls {b:List Nat} (h:IsBlock g b) {i k:Nat} (hi:i∈b) (hk:Cls g i k):k∈b:=by
 induction hk with
 | refl=>exact hi
 | step _ r ih=>exact h.2.2 _ ih _ r
structure DS where
 num:Nat→Nat
 low:Nat→Nat
 cnt:Nat
 stk:List Nat
 blk:List (List Nat)
def upd (f:Nat→Nat) (x v:Nat):Nat→Nat:=λz=>if z=x then v else f z
theorem upd_same {f:Nat→Nat}{x v:Nat}:upd f x v x=v:=if_pos rfl
theorem upd_ne {f:Nat→Nat}{x v z:Nat} (h:z≠x):upd f x v z=f z:=if_neg h
def DS.close (sort:List Nat→List Nat) (s:DS) (i:Nat):DS:={ s with blk:=s.blk++[sort (s.stk.drop (s.stk.idxOf i))],stk:=s.stk.take (s.stk.idxOf i)}
def enter (x:Nat) (s:DS):DS:={ s with cnt:=s.cnt+1,num:=upd s.num x (s.cnt+1),low:=upd s.low x (s.cnt+1)}
def edgeS (g:Gr) (sort:List Nat→List Nat) (vis:Nat→Nat→DS→DS) (x:Nat) (by_:Option Nat) (s:DS) (i:Nat):DS :=
 if by_=some i then s
 else if s.num (g.oth i x)=0 then
  let s2:=vis (g.oth i x) i { s with stk:=s.stk++[i]}
  let s3:DS:={ s2 with low:=upd s2.low x (min (s2.low x) (s2.low (g.oth i x)))}
  if s3.num x≤s3.low (g.oth i x) then s3.close sort i else s3
 else if s.num (g.oth i x)<s.num x then { s with stk:=s.stk++[i],low:=upd s.low x (min (s.low x) (s.num (g.oth i x)))}
 else s
def visit (g:Gr) (ends:Nat→List Nat) (sort:List Nat→List Nat):Nat→Nat→Option Nat→DS→DS
 | 0,_,_,s=>s
 | f+1,x,by_,s=>(ends x).foldl (edgeS g sort (λy i s=>visit g ends sort f y (some i) s) x by_) (enter x s)
def unm (g:Gr) (s:DS):Nat:=(List.range g.n).countP λv=>s.num v==0
theorem ls {α:Type}{p q:α→Bool}:∀ {l:List α},(∀ x∈l,p x=true→q x=true)→l.countP p≤l.countP q
 | [],_=>ae _
 | a::l,h=>by
   have ih:=ls (l:=l) λx hx=>h x (aM _ hx)
   rw[df,df]
   have ha:=h a (aK ..)
   cases hp:p a with
   | true=>rw[ha hp]; simp; exact ih
   | false=>cases q a<;>simp<;>omega
theorem lq {α:Type}{p q:α→Bool}:∀ {l:List α}{a:α},(∀ x∈l,p x=true→q x=true)→a∈l→p a=false→q a=true→l.countP p<l.countP q
 | [],a,_,hm,_,_=>by cases hm
 | b::l,a,h,hm,hp,hq=>by
   rw[df,df]
   rcases aA.1 hm with rfl|hm
   ·have:=ls (l:=l) λx hx=>h x (aM _ hx)
    rw[hp,hq]
    simp
    omega
   ·have ih:=lq (l:=l) (λx hx=>h x (aM _ hx)) hm hp hq
    have hb:=h b (aK ..)
    cases hp':p b with
    | true=>rw[hb hp']; simp; omega
    | false=>cases q b<;>simp<;>omega
theorem Na {s s':DS} (h:∀ v,s.num v≠0→s'.num v≠0):unm g s'≤unm g s:=by
 refine ls λv _ hv=>?_
 have hv:s'.num v=0:=by simpa using hv
 have:s.num v=0:=Decidable.byContradiction λhc=>h v hc hv
 simp [this]
theorem yH {s s':DS} (h:∀ v,s.num v≠0→s'.num v≠0) {x:Nat} (hx:x<g.n) (h0:s.num x=0) (h1:s'.num x≠0):unm g s'<unm g s:=by
 refine lq (a:=x) (λv _ hv=>?_) (aL.2 hx) (by simpa using h1) (by simpa using h0)
 have hv:s'.num v=0:=by simpa using hv
 have:s.num v=0:=Decidable.byContradiction λhc=>h v hc hv
 simp [this]
section
variable (m n:Nat) (tl hd:Nat→Nat) (c:Nat→Bool)
def goE (s:Nat→Bool) (i:Nat):Nat→Bool:=if c i=true∧(s (tl i)=true∨s (hd i)=true) then λv=>decide (v=tl i)||(decide (v=hd i)||s v) else s
def goP (s:Nat→Bool):Nat→Bool:=(List.range m).foldl (goE tl hd c) s
def goN:Nat→(Nat→Bool)→Nat→Bool
 | 0,s=>s
 | k+1,s=>goP m tl hd c (goN k s)
inductive RC:Nat→Nat→Prop
 | refl {u:Nat}:RC u u
 | one {u v i:Nat}:RC u v→i<m→c i=true→tl i=v→RC u (hd i)
 | two {u v i:Nat}:RC u v→i<m→c i=true→hd i=v→RC u (tl i)
end
section
variable {m n:Nat}{tl hd:Nat→Nat}{c:Nat→Bool}
theorem FQ {s:Nat→Bool}{i v:Nat} (h:s v=true):goE tl hd c s i v=true:=by
 unfold goE
 split
 ·simp [h]
 ·exact h
theorem vS:∀ (l:List Nat) {s:Nat→Bool}{v:Nat},s v=true→l.foldl (goE tl hd c) s v=true
 | [],_,_,h=>h
 | _::l,_,_,h=>vS l (FQ h)
theorem zC {s:Nat→Bool}{v:Nat} (h:s v=true):goP m tl hd c s v=true:=vS _ h
theorem Ba {f:Nat}:∀ (l:List Nat) {s:Nat→Bool},(∀ i∈l,i<m)→(∀ v,s v=true→RC m tl hd c f v)→∀ v,l.foldl (goE tl hd c) s v=true→RC m tl hd c f v
 | [],_,_,h=>h
 | i::l,s,hl,h=>by
   refine Ba l (λk hk=>hl k (aM _ hk)) λv hv=>?_
   unfold goE at hv
   split at hv
   ·rename_i hc
    simp only[bV,az] at hv
    rcases hv with rfl|rfl|hv
    ·rcases hc.2 with q|q
     ·exact h _ q
     ·exact .two (h _ q) (hl i (aK ..)) hc.1 rfl
    ·rcases hc.2 with q|q
     ·exact .one (h _ q) (hl i (aK ..)) hc.1 rfl
     ·exact h _ q
    ·exact h v hv
   ·exact h v hv
theorem zD {f:Nat}{s:Nat→Bool} (h:∀ v,s v=true→RC m tl hd c f v):∀ k v,goN m tl hd c k s v=true→RC m tl hd c f v
 | 0=>h
 | k+1=>Ba _ (λi hi=>aL.1 hi) (zD h k)
def Shut (m:Nat) (tl hd:Nat→Nat) (c:Nat→Bool) (s:Nat→Bool):Prop:=∀ i,i<m→c i=true→s (tl i)=s (hd i)
theorem uD:∀ (l:List Nat) {s:Nat→Bool},(∀ v,l.foldl (goE tl hd c) s v=true→s v=true)→∀ i∈l,c i=true→s (tl i)=s (hd i)
 | [],_,_,i,hi,_=>by cases hi
 | k::l,s,h,i,hi,hc=>by
   have e1:∀ v,goE tl hd c s k v=s v:=λv=>by
    rw[cW]
    exact⟨λhv=>h v (vS l hv),FQ⟩
   rcases aA.1 hi with rfl|hi
   ·rw[cW]
    constructor
    ·intro q
     rw[← e1 (hd i)]
     unfold goE
     rw[if_pos ⟨hc,.inl q⟩]
     simp
    ·intro q
     rw[← e1 (tl i)]
     unfold goE
     rw[if_pos ⟨hc,.inr q⟩]
     simp
   ·have e2:goE tl hd c s k=s:=funext e1
    refine uD l (s:=s) (λv hv=>h v ?_) i hi hc
    show l.foldl (goE tl hd c) (goE tl hd c s k) v=true
    rw[e2]; exact hv
def cnt (n:Nat) (s:Nat→Bool):Nat:=(List.range n).countP s
theorem NM {s:Nat→Bool}:cnt n s≤n:=bW dQ (by simp)
theorem Shut.rc {s:Nat→Bool} (hs:Shut m tl hd c s) {u v:Nat} (h:RC m tl hd c u v) (hu:s u=true):s v=true:=by
 induction h with
 | refl=>exact hu
 | one _ a b e ih=>rw[← hs _ a b,e]; exact ih
 | two _ a b e ih=>rw[hs _ a b,e]; exact ih
theorem xS (ht:∀ i,i<m→tl i<n∧hd i<n) {s:Nat→Bool} (hs:∀ v,s v=true→v<n):∀ k,Shut m tl hd c (goN m tl hd c k s)∨cnt n s+k≤cnt n (goN m tl hd c k s)
 | 0=>.inr (ae _)
 | k+1=>by
   have hin:∀ k v,goN m tl hd c k s v=true→v<n:=by
    intro k
    induction k with
    | zero=>exact hs
    | succ k ih =>
      have:∀ (l:List Nat) (s:Nat→Bool),(∀ i∈l,i<m)→(∀ v,s v=true→v<n)→∀ v,l.foldl (goE tl hd c) s v=true→v<n:=by
       intro l
       induction l with
       | nil=>intro s _ h; exact h
       | cons i l ihl =>
         intro s hl h
         refine ihl _ (λk hk=>hl k (aM _ hk)) λv hv=>?_
         unfold goE at hv
         have:=ht i (hl i (aK ..))
         split at hv
         ·simp only[bV,az] at hv
          rcases hv with rfl|rfl|hv
          ·exact this.1
          ·exact this.2
          ·exact h v hv
         ·exact h v hv
      exact this _ _ (λi hi=>aL.1 hi) ih
   by_cases q:∀ v,goP m tl hd c (goN m tl hd c k s) v=true→goN m tl hd c k s v=true
   ·left
    have e:goP m tl hd c (goN m tl hd c k s)=goN m tl hd c k s:=funext λv=>by
     rw[cW]
     exact⟨q v,zC⟩
    show Shut m tl hd c (goP m tl hd c (goN m tl hd c k s))
    rw[e]
    exact λi hi hc=>uD _ q i (aL.2 hi) hc
   ·right
    have ⟨v,hv⟩:=Classical.not_forall.1 q
    have ⟨h1,h2⟩:=Classical.not_imp.1 hv
    have hlt:cnt n (goN m tl hd c k s)<cnt n (goN m tl hd c (k+1) s) :=
     lq (a:=v) (λx _ hx=>zC hx) (aL.2 (hin (k+1) v h1)) (by simpa using h2) h1
    rcases xS ht hs k with h|h
    ·exfalso
     apply h2
     have:=zD (m:=m) (tl:=tl) (hd:=hd) (c:=c) (f:=v) (s:=goN m tl hd c k s)
     have e:∀ (l:List Nat),(∀ i∈l,i<m)→l.foldl (goE tl hd c) (goN m tl hd c k s)=goN m tl hd c k s:=by
      intro l
      induction l with
      | nil=>intro _; rfl
      | cons i l ihl =>
        intro hl
        have e1:goE tl hd c (goN m tl hd c k s) i=goN m tl hd c k s:=by
         unfold goE
         split
         ·rename_i hc
          have hh:=h i (hl i (aK ..)) hc.1
          funext w
          rw[cW]
          simp only[bV,az]
          constructor
          ·rintro (rfl|rfl|q)
           ·rcases hc.2 with q|q
            ·exact q
            ·rw[hh]; exact q
           ·rcases hc.2 with q|q
            ·rw[← hh]; exact q
            ·exact q
           ·exact q
          ·exact λq=>.inr (.inr q)
         ·rfl
        rw[dB,e1]
        exact ihl λk hk=>hl k (aM _ hk)
     have:=e (List.range m) λi hi=>aL.1 hi
     rw[← this]
     exact h1
    ·omega
theorem go_ok (ht:∀ i,i<m→tl i<n∧hd i<n) {f:Nat} (hf:f<n) (v:Nat):goN m tl hd c n (λv=>decide (v=f)) v=true↔RC m tl hd c f v:=by
 constructor
 ·exact zD (λv hv=>by rw[cm hv]; exact .refl) n v
 ·intro h
  have hs:Shut m tl hd c (goN m tl hd c n λv=>decide (v=f)):=by
   rcases xS (c:=c) ht (s:=λv=>decide (v=f)) (λv hv=>by rw[cm hv]; exact hf) n with h|h
   ·exact h
   ·have h1:0<cnt n (λv=>decide (v=f)):=by
     unfold cnt
     rw[iJ]
     exact⟨f,aL.2 hf,by simp⟩
    have h2:=NM (n:=n) (s:=goN m tl hd c n λv=>decide (v=f))
    omega
  refine hs.rc h ?_
  have:∀ k,goN m tl hd c k (λv=>decide (v=f)) f=true:=by
   intro k
   induction k with
   | zero=>simp [goN]
   | succ k ih=>exact zC ih
  exact this n
end
variable {g:Gr}
def offB (g:Gr) (x:Nat) (i:Nat):Bool:=!(decide (g.tl i=x))&&!(decide (g.hd i=x))
theorem oh {x i:Nat}:offB g x i=true↔g.tl i≠x∧g.hd i≠x:=by
 unfold offB
 simp
theorem Gf {x u v:Nat} (hu:u≠x):RC g.m g.tl g.hd (offB g x) u v↔Conn g (·≠x) u v:=by
 constructor
 ·intro h
  induction h with
  | refl=>exact .refl hu
  | @one v i h1 h2 h3 h4 ih =>
    obtain⟨a,b⟩:=oh.1 h3
    have hi:g.inc i v:=⟨h2,.inl h4⟩
    have e:g.oth i v=g.hd i:=by unfold Gr.oth; omega
    have:=Conn.step ih hi (by rw[e]; exact b)
    rwa [e] at this
  | @two v i h1 h2 h3 h4 ih =>
    obtain⟨a,b⟩:=oh.1 h3
    have hi:g.inc i v:=⟨h2,.inr h4⟩
    have e:g.oth i v=g.tl i:=by unfold Gr.oth; omega
    have:=Conn.step ih hi (by rw[e]; exact a)
    rwa [e] at this
 ·intro h
  induction h with
  | refl _=>exact .refl
  | @step v i h1 h2 h3 ih =>
    have hv:=h1.right
    rcases h2.2 with q|q
    ·have e:g.oth i v=g.hd i:=by unfold Gr.oth; omega
     rw[e] at h3 ⊢
     exact .one ih h2.1 (oh.2 ⟨by rw[q]; exact hv,h3⟩) q
    ·have e:g.oth i v=g.tl i:=by unfold Gr.oth; omega
     rw[e] at h3 ⊢
     exact .two ih h2.1 (oh.2 ⟨h3,by rw[q]; exact hv⟩) q
structure Lst (g:Gr) (l:Nat→Nat):Prop where
 cls:∀ i,i<g.m→Cls g i (l i)
 le:∀ i,i<g.m→l i≤i
 same:∀ i k,i<g.m→k<g.m→Rel g i k→l i=l k
theorem zK {i k:Nat} (h:Cls g i k) (hi:i<g.m):k<g.m:=by
 induction h with
 | refl=>exact hi
 | step _ r _=>obtain⟨x,_,b,_⟩:=r; exact b.1
theorem Lst.eqc {l:Nat→Nat} (h:Lst g l) {i k:Nat} (hi:i<g.m) (hc:Cls g i k):l i=l k:=by
 induction hc with
 | refl=>rfl
 | step a r ih=>exact ih.trans (h.same _ _ (zK a hi) (by obtain⟨x,_,b,_⟩:=r; exact b.1) r)
theorem Lst.uniq {l l':Nat→Nat} (h:Lst g l) (h':Lst g l') {i:Nat} (hi:i<g.m):l i=l' i:=by
 have a:l i≤l' i:=by
  rw[h.eqc hi (h'.cls i hi)]
  exact h.le _ (zK (h'.cls i hi) hi)
 have b:l' i≤l i:=by
  rw[h'.eqc hi (h.cls i hi)]
  exact h'.le _ (zK (h.cls i hi) hi)
 omega
theorem Lst.iff {l:Nat→Nat} (h:Lst g l) {i k:Nat} (hi:i<g.m) (hk:k<g.m):l i=l k↔Cls g i k:=by
 refine⟨λe=>?_,h.eqc hi⟩
 have:=(h.cls k hk).symm
 rw[← e] at this
 exact (h.cls i hi).trans this
def canon (m:Nat) (l:Nat→Nat):List (List Nat):=((List.range m).filter λi=>l i==i).map λi=>(List.range m).filter λk=>l k==i
theorem canon_congr {m:Nat}{l l':Nat→Nat} (h:∀ i,i<m→l i=l' i):canon m l=canon m l':=by
 unfold canon
 have e1:((List.range m).filter λi=>l i==i)=(List.range m).filter λi=>l' i==i:=List.filter_congr λi hi=>by rw[h i (aL.1 hi)]
 rw[e1]
 refine ct λi _=>?_
 exact List.filter_congr λk hk=>by rw[h k (aL.1 hk)]
end Go.Blk
namespace Go.Spl
open Go.Blk (RC goN go_ok)
section
variable {m:Nat}{tl hd:Nat→Nat}{c:Nat→Bool}
theorem rc_trans {u v z:Nat} (h1:RC m tl hd c u v) (h2:RC m tl hd c v z):RC m tl hd c u z:=by
 induction h2 with
 | refl=>exact h1
 | one _ a b e ih=>exact .one ih a b e
 | two _ a b e ih=>exact .two ih a b e
theorem rc_symm {u v:Nat} (h:RC m tl hd c u v):RC m tl hd c v u:=by
 induction h with
 | refl=>exact .refl
 | one _ a b e ih=>subst e; exact rc_trans (.two .refl a b rfl) ih
 | two _ a b e ih=>subst e; exact rc_trans (.one .refl a b rfl) ih
theorem rc_lt {n:Nat} (ht:∀ i,i<m→tl i<n∧hd i<n) {u v:Nat} (h:RC m tl hd c u v) (hu:u<n):v<n:=by
 induction h with
 | refl=>exact hu
 | one _ a _ _ _=>exact (ht _ a).2
 | two _ a _ _ _=>exact (ht _ a).1
theorem rc_sub {m':Nat}{tl' hd':Nat→Nat}{c':Nat→Bool} (hs:∀ i,i<m→c i=true→∃ k,k<m'∧c' k=true∧((tl' k=tl i∧hd' k=hd i)∨(tl' k=hd i∧hd' k=tl i))) {u v:Nat} (h:RC m tl hd c u v):RC m' tl' hd' c' u v:=by
 induction h with
 | refl=>exact .refl
 | one _ a b e ih =>
   obtain⟨k,k1,k2,⟨k3,k4⟩|⟨k3,k4⟩⟩:=hs _ a b
   ·rw[← k4]; exact .one ih k1 k2 (k3.trans e)
   ·rw[← k3]; exact .two ih k1 k2 (k4.trans e)
 | two _ a b e ih =>
   obtain⟨k,k1,k2,⟨k3,k4⟩|⟨k3,k4⟩⟩:=hs _ a b
   ·rw[← k3]; exact .two ih k1 k2 (k4.trans e)
   ·rw[← k4]; exact .one ih k1 k2 (k3.trans e)
end
def cw (tl hd:Nat→Nat) (w:Nat→Bool) (i:Nat):Bool:=!(w (tl i))&&!(w (hd i))
def RepP (m:Nat) (tl hd:Nat→Nat) (w:Nat→Bool) (x:Nat):Prop:=w x=false∧∀ y,y<x→¬ RC m tl hd (cw tl hd w) y x
open Classical in
noncomputable def nParts (n m:Nat) (tl hd:Nat→Nat) (w:Nat→Bool):Nat:=(List.range n).countP λx=>decide (RepP m tl hd w x)
section
variable {m:Nat}{tl hd:Nat→Nat}{w:Nat→Bool}
theorem rc_w {u v:Nat} (h:RC m tl hd (cw tl hd w) u v):u=v∨(w u=false∧w v=false):=by
 induction h with
 | refl=>exact .inl rfl
 | one h1 a b e ih =>
   simp only[cw,aH,dL] at b
   rcases ih with rfl|ih
   ·subst e; exact .inr b
   ·exact .inr ⟨ih.1,b.2⟩
 | two h1 a b e ih =>
   simp only[cw,aH,dL] at b
   rcases ih with rfl|ih
   ·subst e; exact .inr ⟨b.2,b.1⟩
   ·exact .inr ⟨ih.1,b.1⟩
theorem rep_ex:∀ (y:Nat),w y=false→∃ x,x≤y∧RepP m tl hd w x∧RC m tl hd (cw tl hd w) x y:=by
 intro y
 induction y using Nat.strongRecOn with
 | _ y ih =>
   intro hy
   by_cases h:RepP m tl hd w y
   ·exact⟨y,ae _,h,.refl⟩
   ·have:∃ z,z<y∧RC m tl hd (cw tl hd w) z y:=Classical.byContradiction λhc=>h ⟨hy,λz hz hr=>hc ⟨z,hz,hr⟩⟩
    obtain⟨z,hz,hr⟩:=this
    have hw:w z=false:=by
     rcases rc_w hr with e|e
     ·omega
     ·exact e.1
    obtain⟨x,h1,h2,h3⟩:=ih z hz hw
    exact⟨x,om,h2,rc_trans h3 hr⟩
theorem EL {x y:Nat} (hx:RepP m tl hd w x) (hy:RepP m tl hd w y) (h:RC m tl hd (cw tl hd w) x y):x=y:=by
 rcases kw x y with q|q|q
 ·exact absurd h (hy.2 x q)
 ·exact q
 ·exact absurd (rc_symm h) (hx.2 y q)
theorem one_part {n:Nat} (h0:∃ x,x<n∧w x=false) (ht:∀ i,i<m→tl i<n∧hd i<n):nParts n m tl hd w=1↔∀ x y,x<n→y<n→w x=false→w y=false→RC m tl hd (cw tl hd w) x y:=by
 unfold nParts
 rw[List.countP_eq_length_filter]
 constructor
 ·intro h x y hx hy wx wy
  obtain⟨a,ha⟩:=List.length_eq_one_iff.1 h
  have key:∀ z,z<n→w z=false→RC m tl hd (cw tl hd w) a z:=λz hz wz=>by
   obtain⟨r,r1,r2,r3⟩:=rep_ex (m:=m) (tl:=tl) (hd:=hd) z wz
   have:r∈(List.range n).filter λx=>@decide (RepP m tl hd w x) (Classical.propDecidable _):=by
    rw[bC]
    exact⟨aL.2 om,by simpa using r2⟩
   rw[ha,bd] at this
   subst this
   exact r3
  exact rc_trans (rc_symm (key x hx wx)) (key y hy wy)
 ·intro h
  obtain⟨z,hz,wz⟩:=h0
  obtain⟨r,r1,r2,r3⟩:=rep_ex (m:=m) (tl:=tl) (hd:=hd) z wz
  have hr:r∈(List.range n).filter λx=>@decide (RepP m tl hd w x) (Classical.propDecidable _):=by
   rw[bC]
   exact⟨aL.2 om,by simpa using r2⟩
  have hnd:((List.range n).filter λx=>@decide (RepP m tl hd w x) (Classical.propDecidable _)).Nodup:=List.Pairwise.filter _ iB
  have hall:∀ x∈(List.range n).filter λx=>@decide (RepP m tl hd w x) (Classical.propDecidable _),x=r:=λx hx=>by
   rw[bC] at hx
   have hx2:RepP m tl hd w x:=by simpa using hx.2
   exact EL hx2 r2 (h x r (aL.1 hx.1) om hx2.1 r2.1)
  revert hr hnd hall
  generalize (List.range n).filter (λx=>@decide (RepP m tl hd w x) (Classical.propDecidable _))=l
  intro hr hnd hall
  match l,hr,hnd,hall with
  | [a],_,_,_=>rfl
  | a::b::l,_,hnd,hall =>
    exfalso
    have e1:=hall a (by simp)
    have e2:=hall b (by simp)
    rw[e1,e2] at hnd
    simp at hnd
end
end Go.Spl
