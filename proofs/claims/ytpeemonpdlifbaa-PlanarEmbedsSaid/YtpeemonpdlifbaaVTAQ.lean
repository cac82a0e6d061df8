/- planar -/
import Derived.Test.YtpeemonpdlifbaaVTAP
import Derived.Test.YtpeemonpdlifbaaVTAD
import Derived.Test.YtpeemonpdlifbaaVTAC
import Derived.Test.YtpeemonpdlifbaaVTAE
set_option linter.all false
namespace Go.Proofs.Ytpeemonpdlifbaa
open Go.Am
open Go.Pla (Met ks tr tr_app tr_root tr_last)
theorem uX {h:AH}{v:AV}{xs:List Nat}{lo:Nat} (hv:IsSl h 1 lo v (nC xs)) (hl:xs.length<2 ^ 40):C prg 57 [v] h λ_ h'=>IsSl h' 1 lo v (nC xs.reverse)∧Ext lo h h'∧h'.next=h.next∧∀ c,c<h.next→(∀ b n,v=.sl b 0 n n→c≠b)→h'.get c=h.get c:=by
 have hi:∀ ys:List Nat,gI (ys.map λn=>((n:Nat):Int)).toArray=nC ys:=λys=>by rw[nC,AX]; rfl
 have bi:∀ {d e:Array Int},d.size=e.size→lS (gI d) 0 e=.cells (gI e) 1 false:=fun {d e} he=>by
  unfold lS dL
  have:(gI d).drop (0+(gI e).length)=[]:=by rw[List.drop_eq_nil_iff,gP,gP]; omega
  rw[this,eD]
  simp
 rcases hv with ⟨rfl,hz⟩|⟨b,n,h1,rfl,h3,h4⟩
 ·have hx:xs=[]:=by
   have:=congrArg List.length hz
   rw[iO] at this
   exact bd.1 (by simpa using this)
  subst hx
  refine (reverse_nil (h:=h)).mono λ_ h' e=>?_
  subst e
  exact⟨.inl ⟨rfl,rfl⟩,KI,rfl,λ_ _ _=>rfl⟩
 ·rw[iO] at h4
  generalize hd:(xs.map λn=>((n:Nat):Int)).toArray=d
  have hs:d.size=xs.length:=by rw[← hd]; simp
  have hn:n=d.size:=om
  subst hn
  rw[← hi xs,hd,← bi (d:=d) (e:=d) rfl] at h3
  refine (qR (c:=d.size) h3 (by rw[gP]; omega) om).mono λ_ h' u=>⟨.inr ⟨b,d.size,h1,rfl,?_,?_⟩,u.ext h1,u.nx,λc _ hc=>u.ne (hc b _ rfl)⟩
  ·have hr:nC xs.reverse=gI d.reverse:=by rw[← hi,← hd]; simp
   rw[hr,← bi (d:=d) (e:=d.reverse) (by simp)]
   exact u.get
  ·rw[iO]; simp; omega
def Lm (L:List (Nat×Nat)):List (Int×AV):=L.map λp=>(((p.1:Nat):Int),AV.int .i64 ((p.2:Nat):Int))
abbrev qc (h:AH) (mb:Nat) (L:List (Nat×Nat)):Prop:=MapG (λk:Int=>AV.int .i64 k) h mb (Lm L)
theorem Jt:∀ {L:List (Nat×Nat)}{k:Int},lkG (Lm L) k=none∨∃ y x A C,k=((y:Nat):Int)∧lkG (Lm L) k=some (.int .i64 ((x:Nat):Int))∧L=A++(y,x)::C
 | [],k=>.inl rfl
 | (y,x)::L,k=>by
   by_cases h:((y:Nat):Int)=k
   ·refine .inr ⟨y,x,[],L,h.symm,?_,rfl⟩
    simp only[Lm,bE,lkG,if_pos h]
   ·have e:lkG (Lm ((y,x)::L)) k=lkG (Lm L) k:=by simp only[Lm,bE,lkG,if_neg h]
    rcases Jt (L:=L) (k:=k) with h1|⟨y',x',A,C,h1,h2,h3⟩
    ·exact .inl (e.trans h1)
    ·exact .inr ⟨y',x',(y,x)::A,C,h1,e.trans h2,by rw[h3]; rfl⟩
theorem qu {L:List (Nat×Nat)}{k:Nat}:lkG (Lm L) ((k:Nat):Int)=none↔k∉ks L:=by
 rw[Fa]
 simp only[Lm,ks,kK,bC,not_exists,not_and]
 constructor
 ·intro h p hp e; exact h p hp (by have e':p.1=k:=e; show ((p.1:Nat):Int)=_; rw[e'])
 ·intro h p hp e; exact h p hp (by have e':((p.1:Nat):Int)=((k:Nat):Int):=e; omega)
section
variable {g:Go.Blk.Gr}{Bl:List Nat}{laid thr:Nat→Bool}
theorem Kb {r:Nat}{L:List (Nat×Nat)} (m:Met g Bl laid thr r L) (hB:∀ i∈Bl,i<g.m) {x:Nat} (hx:x∈ks L):(x=r∧lkG (Lm L) ((x:Nat):Int)=some (.int .i64 ((x:Nat):Int)))∨∃ z,z≠x∧z∈ks L∧lkG (Lm L) ((x:Nat):Int)=some (.int .i64 ((z:Nat):Int))∧tr L x=tr L z++[x]:=by
 rcases Jt (L:=L) (k:=((x:Nat):Int)) with h|⟨y,z,A,C,h1,h2,h3⟩
 ·exact absurd hx (qu.1 h)
 have hy:x=y:=om
 subst hy
 by_cases hA:A=[]
 ·subst hA
  obtain⟨T,hT⟩:=m.root
  rw[hT] at h3
  simp only[bp] at h3
  injection h3 with h4 _
  injection h4 with h4 h5
  subst h4 h5
  exact .inl ⟨rfl,h2⟩
 ·obtain⟨p1,p2,i,hi,hj,_⟩:=m.par A x z C h3 hA
  have hne:z≠x:=by
   intro e; subst e
   have:=(g.ok i (hB i hi)).2.2
   rcases Go.Pla.jn_iff.1 hj with ⟨a,b⟩|⟨a,b⟩<;>omega
  have nd:=m.nd
  refine .inr ⟨z,hne,by rw[h3,Go.Pla.ks_app]; exact bD _ p1,h2,?_⟩
  have e1:L=(A++[(x,z)])++C:=by rw[h3]; simp
  rw[e1] at nd ⊢
  rw[tr_app nd (by simp [ks]),tr_last hA]
  rw[bQ] at nd ⊢
  rw[tr_app nd p1]
theorem Ce {h:AH}{mb r y:Nat}{L:List (Nat×Nat)} (hm:qc h mb L) (m:Met g Bl laid thr r L) (hB:∀ i∈Bl,i<g.m) (hy:y∈ks L) (hL:L.length<2 ^ 30):C prg 75 [.mp mb,.int .i64 (y:Nat)] h λv h'=>IsSl h' 1 h.next v (nC (tr L y))∧Ext h.next h h':=by
 refine KK pf75 ?_
 have hml:=hm.lt
 have x0:Ext h.next h (h.new (.cells [.int .i64 (y:Nat)] 1 false)):=KH (ab _)
 have g0:(h.new (.cells [.int .i64 (y:Nat)] 1 false)).get h.next=some (.cells [.int .i64 (y:Nat)] 1 false):=by rw[AH.get_new,if_pos rfl]
 refine ai (au (Mi0) ?_)
 refine ai (bR (λts h1=>h1=h.new (.cells [.int .i64 (y:Nat)] 1 false)∧aN ts 0=.mp mb∧aN ts 1=.int .i64 (y:Nat)∧aN ts 5=.sl h.next 0 1 1) (by simp only[am,aH,simprocAttr,bN]) ?_)
 rintro ts h1 ⟨rfl,e0,e1,e5⟩
 generalize h.new (.cells [.int .i64 (y:Nat)] 1 false)=h1 at *
 refine ai (cY (fX (λn ts h2=>∃ (x:Nat) (zs:List Nat) (v:AV),n=(tr L x).length∧x∈ks L∧tr L y=tr L x++zs.reverse∧IsSl h2 1 h.next v (nC (zs++[x]))∧Ext h.next h h2∧aN ts 0=.mp mb∧aN ts 1=.int .i64 (x:Nat)∧aN ts 5=v) ?_ (n:=(tr L y).length) ⟨y,[],_,rfl,hy,by simp,.inr ⟨h.next,1,ab _,rfl,g0,rfl⟩,x0,e0,e1,e5⟩))
 clear e0 e1 e5 g0 x0
 rintro n ts h2 ⟨x,zs,v,hn,hx,ht,hv,x2,e0,e1,e5⟩
 have hm2:qc h2 mb L:=hm.cong (x2.gt _ hml)
 have lk:=hm2.look vH (.int .i64 0) ((x:Nat):Int)
 have hzl:zs.length+(tr L x).length≤L.length:=by
  have h1:=congrArg List.length ht
  rw[aC,List.length_reverse] at h1
  have h2:=Go.Pla.tr_len L y
  omega
 rcases Kb m hB hx with ⟨hr,hl⟩|⟨z,hzx,hz,hl,htz⟩
 ·
  rw[hl] at lk
  dsimp only[Option.getD] at lk
  refine ai (ai (au (M5 e0 e1 lk @decide_true @cm) ?_))
  refine dn (Z2 @decide_true @cm) ?_
  refine fC ⟨λ_=>?_,λe=>absurd rfl e⟩
  have hend:tr L y=(zs++[x]).reverse:=by rw[ht,hr,tr_root m]; simp
  refine ai (bU (bu 1 (M2 e0 e5) rfl (Z2 e0 e5) (M2 e0 e5) (uX hv (by rw[aC]; simp; omega)) λ_ h3 hq=>?_))
  obtain⟨i3,x3,_,_⟩:=hq
  refine bP (M0) ?_
  refine ai (au (M1 e5) ?_)
  exact bM ⟨v,(by simp only[rs,rf75,am,aH,simprocAttr,e5]<;>rfl),by rw[hend]; exact i3,x2.trans x3⟩
 ·rw[hl] at lk
  dsimp only[Option.getD] at lk
  have dz:decide (((z:Nat):Int)=((x:Nat):Int))=false:=by rw[bh]; omega
  refine ai (ai (au (by simp only[am,aH,simprocAttr,e0,e1,lk,dz,bJ]<;>rfl) ?_))
  refine cE (by simp only[am,aH,simprocAttr,dz,bJ]) (bH (cY ?_))
  refine ai (bR (λts h'=>h'=h2∧aN ts 0=.mp mb∧aN ts 1=.int .i64 (z:Nat)∧aN ts 5=v) (by simp only[am,aH,simprocAttr,e0,e1,e5,lk]) ?_)
  rintro ts h3 ⟨rfl,e0,e1,e5⟩
  have hnl:(nC (zs++[x])).length=zs.length+1:=by rw[iO,aC]; rfl
  obtain⟨v',h4,a4,i4,x4,n4⟩:=hv.push (bytes:=8) [.int .i64 (z:Nat)] x2.nx om rfl rfl (by rw[hnl,ew]; unfold aU; omega) (by rw[hnl,ew]; unfold aU; omega)
  refine bR (λts h'=>h'=h4∧aN ts 0=.mp mb∧aN ts 1=.int .i64 (z:Nat)∧aN ts 5=v') (by simp only[am,aH,simprocAttr,e0,e1,e5,a4]) ?_
  rintro ts h5 ⟨rfl,e0,e1,e5⟩
  refine⟨(tr L z).length,?_,z,zs++[x],v',rfl,hz,?_,?_,x2.trans x4,e0,e1,e5⟩
  ·rw[hn,htz]; simp
  ·rw[ht,htz]; simp
  ·rw[vq]; exact i4
end
open Go.Am
def IsQ (h:AH) (lo:Nat) (v:AV) (xs:List Nat):Prop:=SlN h v xs∧∃ b o cs,v=.sl b o xs.length xs.length∧lo≤b∧h.get b=some (.cells cs 1 false)
theorem IsQ.ext {h h':AH}{lo k:Nat}{v:AV}{xs:List Nat} (q:IsQ h lo v xs) (x:Ext k h h') (hk:h.next≤k):IsQ h' lo v xs:=by
 obtain⟨h0,b,o,cs,h1,h2,h3⟩:=q
 exact⟨h0.ext x hk,b,o,cs,h1,h2,by rw[x.gt _ (cG (AH.lt_of_get h3) hk)]; exact h3⟩
theorem IsQ.cong {h h':AH}{lo:Nat}{v:AV}{xs:List Nat} (q:IsQ h lo v xs) (hk:∀ c,lo≤c→c<h.next→h'.get c=h.get c):IsQ h' lo v xs:=by
 obtain⟨h0,b,o,cs,h1,h2,h3⟩:=q
 exact⟨h0.cong λb' o' n' c' e=>by rw[h1] at e; cases e; exact hk _ h2 (AH.lt_of_get h3),b,o,cs,h1,h2,by rw[hk _ h2 (AH.lt_of_get h3)]; exact h3⟩
theorem IsQ.one {h:AH}{lo b x:Nat} (hb:lo≤b) (hg:h.get b=some (.cells [.int .i64 (x:Nat)] 1 false)):IsQ h lo (.sl b 0 1 1) [x] :=
 ⟨KG hg rfl (ab _),b,0,_,rfl,hb,hg⟩
theorem IsQ.len {h:AH}{lo:Nat}{v:AV}{xs:List Nat} (q:IsQ h lo v xs):jc v=some (.int .i64 (xs.length:Nat)):=by
 obtain⟨_,b,o,cs,rfl,_⟩:=q; rfl
theorem IsQ.head {h:AH}{lo:Nat}{v:AV}{x:Nat}{xs:List Nat} (q:IsQ h lo v (x::xs)):∃ b o,kV 1 v (.int .i64 0)=some (.ptr b o)∧ak h b o 1=some [.int .i64 (x:Nat)]:=by
 obtain⟨b,o,h1,h2,_⟩:=q.1.at1 (i:=0) (y:=.int .i64 (x:Nat)) rfl
 exact⟨b,o,h1,h2⟩
theorem IsQ.tail {h:AH}{lo:Nat}{v:AV}{x:Nat}{xs:List Nat} (q:IsQ h lo v (x::xs)):∃ v',slV h 1 v (some (.int .i64 1)) none none=some v'∧IsQ h lo v' xs:=by
 obtain⟨h0,b,o,cs,h1,h2,h3⟩:=q
 obtain⟨v',e1,e2,_,_⟩:=h0.from (lo:=1) (by simp)
 refine⟨v',e1,(by
  rw[bE,bE,List.drop_one,nV] at e2; exact e2),b,if xs.length=0 then o else o+1,cs,?_,h2,h3⟩
 have hb1:bnd (.int .i64 ((1:Nat):Int)) (xs.length+1)=some 1:=jz om
 subst h1
 simp only[slV,h3,if_true,sT,aB,gU,bB,if_false,hb1,aG,aa] at e1
 rw[← e1]
 congr 1
 by_cases hz:xs.length=0
 ·rw[if_pos om,if_pos hz]
 ·rw[if_neg om,if_neg hz,aP]
theorem IsQ.push {h:AH}{lo:Nat}{v:AV}{xs:List Nat} (q:IsQ h lo v xs) (hlo:lo≤h.next) (hl:xs.length<2 ^ 34) (x:Nat) :
 ∃ v' h',fB (h.new (.cells [.int .i64 (x:Nat)] 1 false)) 1 8 v (.sl h.next 0 1 1)=some (v',h')∧IsQ h' lo v' (xs++[x])∧Ext lo h h'∧h.next≤h'.next∧(∀ c,c<h.next→(∀ b o n m,v=.sl b o n m→c≠b)→h'.get c=h.get c)∧∀ b o n m,v'=.sl b o n m→h.next≤b:=by
 obtain⟨h0,b,o,cs,rfl,h2,h3⟩:=q
 have hb:=AH.lt_of_get h3
 have x0:Ext h.next h (h.new (.cells [.int .i64 (x:Nat)] 1 false)):=KH (ab _)
 have g0:(h.new (.cells [.int .i64 (x:Nat)] 1 false)).get h.next=some (.cells [.int .i64 (x:Nat)] 1 false):=by rw[AH.get_new,if_pos rfl]
 have n0:(h.new (.cells [.int .i64 (x:Nat)] 1 false)).next=h.next+1:=rfl
 have gb:(h.new (.cells [.int .i64 (x:Nat)] 1 false)).get b=some (.cells cs 1 false):=by rw[x0.gt _ hb]; exact h3
 have s0:=(h0.ext x0 (ab _)).src
 have s1:=(KG (h:=h.new (.cells [.int .i64 (x:Nat)] 1 false)) (c:=1) g0 rfl (ab _)).src
 generalize h.new (.cells [.int .i64 (x:Nat)] 1 false)=h1 at *
 have u:=KJ (o:=.dead) gb
 have x2:Ext (h1.put b .dead).next (h1.put b .dead) ((h1.put b .dead).new (.cells (nC xs++[.int .i64 (x:Nat)]) 1 false)):=KH (ab _)
 have g2:((h1.put b .dead).new (.cells (nC xs++[.int .i64 (x:Nat)]) 1 false)).get (h1.put b .dead).next=some (.cells (nC xs++[.int .i64 (x:Nat)]) 1 false):=by rw[AH.get_new,if_pos rfl]
 have hf:((xs.map λn=>((n:Nat):Int)).map eI).flatten=nC xs:=by rw[nC,qj]
 have hsrc:ak h1 b o (xs.length*1)=some (nC xs):=by
  have:=s0.1
  simp only[eM,gb,if_true,hf,ae] at this
  revert this
  cases ak h1 b o (xs.length*1) with
  | none=>intro h; simp at h
  | some w=>intro h; simp at h; rw[h]
 refine⟨.sl (h1.put b .dead).next 0 (xs.length+1) (xs.length+1),(h1.put b .dead).new (.cells (nC xs++[.int .i64 (x:Nat)]) 1 false),?_,⟨?_,(h1.put b .dead).next,0,_,by simp,?_,g2⟩,?_,?_⟩
 ·simp only[fB]
  have s1':eM h1 1 (.sl h.next 0 1 1)=some (1,[.int .i64 (x:Nat)]):=s1.1
  rw[s1']
  have ho:([AV.int .i64 (x:Nat)].all AV.one)=true:=rfl
  simp only[ho,gb,hsrc,if_true]
  rw[if_neg om,if_neg om,if_pos (by unfold aU; omega),u.nx]
 ·refine eH (lo:=0) (.inr ⟨_,_,ft _,rfl,?_,?_⟩)
  ·rw[vq]; exact g2
  ·rw[iO,aC]; simp
 ·rw[u.nx,n0]; omega
 ·exact ((x0.mono om).trans (u.ext h2)).trans (x2.mono (by rw[u.nx,n0]; omega))
 ·have:=x2.nx
  rw[u.nx,n0] at this
  refine⟨om,λc hc hne=>?_,λb' o' n' m' e=>?_⟩
  ·rw[x2.gt c (by rw[u.nx,n0]; omega),u.ne (hne b o _ _ rfl),x0.gt c hc]
  ·cases e
   rw[u.nx,n0]; omega
end Go.Proofs.Ytpeemonpdlifbaa
namespace Go.Blk
variable {g:Gr}
def Nw (s s':DS) (v:Nat):Prop:=s.num v=0∧s'.num v≠0
structure Pre (g:Gr) (an:List Nat) (x:Nat) (by_:Option Nat) (s:DS):Prop where
 hx:x<g.n
 x0:s.num x=0
 gray:∀ a∈an,s.num a≠0
 black:∀ v,s.num v≠0→v∉an→∀ i,g.inc i v→s.num (g.oth i v)≠0
 le:∀ v,s.num v≤s.cnt
 inj:∀ u v,s.num u=s.num v→s.num u≠0→u=v
 chain:∀ z,z∉an→∀ a∈an,∀ b∈an,Conn g (·≠z) a b
 by1:∀ b,by_=some b→g.inc b x∧g.oth b x∈an
 by0:by_=none→an=[]
 stk:∀ j∈s.stk,some j≠by_→∀ v,g.inc j v→s.num v≠0
structure Com (g:Gr) (x:Nat) (by_:Option Nat) (s s':DS) (new:List Nat) (bs:List (List Nat)):Prop where
 keep:∀ v,s.num v≠0→s'.num v=s.num v
 numx:s'.num x=s.cnt+1
 newn:∀ v,Nw s s' v→s.cnt<s'.num v
 cnt:s.cnt<s'.cnt
 le:∀ v,s'.num v≤s'.cnt
 inj:∀ u v,s'.num u=s'.num v→s'.num u≠0→u=v
 conn:∀ u,Nw s s' u→Conn g (Nw s s') x u
 lowk:∀ v,¬ Nw s s' v→s'.low v=s.low v
 lowle:s'.low x≤s'.num x
 lowpos:0<s'.low x
 stk:s'.stk=s.stk++new
 blk:s'.blk=s.blk++bs
 nd:(new++bs.flatten).Nodup
 cls:∀ i∈new,∃ b,by_=some b∧Cls g i b
 blks:∀ b∈bs,IsBlock g b
structure Post (g:Gr) (x:Nat) (by_:Option Nat) (s s':DS) (new:List Nat) (bs:List (List Nat)):Prop extends Com g x by_ s s' new bs where
 black:∀ u,Nw s s' u→∀ i,g.inc i u→s'.num (g.oth i u)≠0
 lowa:∀ u i,Nw s s' u→g.inc i u→some i≠by_→¬ Nw s s' (g.oth i u)→s'.low x≤s'.num (g.oth i u)
 lowb:s'.low x=s'.num x∨∃ u i,Nw s s' u∧g.inc i u∧some i≠by_∧¬ Nw s s' (g.oth i u)∧s'.num (g.oth i u)=s'.low x
 part:∀ i,(i∈new∨∃ b∈bs,i∈b)↔some i≠by_∧∃ u,Nw s s' u∧g.inc i u
structure Mid (g:Gr) (x:Nat) (by_:Option Nat) (s:DS) (L:List Nat) (s':DS) (new:List Nat) (bs:List (List Nat)):Prop extends Com g x by_ s s' new bs where
 blackT:∀ u,Nw s s' u→u≠x→∀ i,g.inc i u→s'.num (g.oth i u)≠0
 blackx:∀ i∈L,s'.num (g.oth i x)≠0
 lowa:∀ u i,Nw s s' u→g.inc i u→(u≠x∨i∈L)→some i≠by_→¬ Nw s s' (g.oth i u)→s'.low x≤s'.num (g.oth i u)
 lowb:s'.low x=s'.num x∨∃ u i,Nw s s' u∧g.inc i u∧some i≠by_∧¬ Nw s s' (g.oth i u)∧s'.num (g.oth i u)=s'.low x
 part:∀ i,(i∈new∨∃ b∈bs,i∈b)↔some i≠by_∧((∃ u,Nw s s' u∧u≠x∧g.inc i u)∨(g.inc i x∧i∈L))
def Good (g:Gr) (vis:Nat→Option Nat→DS→DS) (f:Nat):Prop :=
 ∀ an x by_ s,Pre g an x by_ s→unm g s≤f→∃ new bs,Post g x by_ s (vis x by_ s) new bs
theorem Com.nx {x:Nat}{by_:Option Nat}{s s':DS}{new:List Nat}{bs:List (List Nat)} (c:Com g x by_ s s' new bs) (h0:s.num x=0):Nw s s' x:=⟨h0,by rw[c.numx]; omega⟩
theorem Com.met {x:Nat}{by_:Option Nat}{s s':DS}{new:List Nat}{bs:List (List Nat)} (c:Com g x by_ s s' new bs) {v:Nat} (h:s.num v≠0):s'.num v≠0:=by rw[c.keep v h]; exact h
theorem Com.old {x:Nat}{by_:Option Nat}{s s':DS}{new:List Nat}{bs:List (List Nat)} (c:Com g x by_ s s' new bs) {v:Nat} (h1:s'.num v≠0) (h2:¬ Nw s s' v):s.num v≠0:=λh=>h2 ⟨h,h1⟩
theorem mid0 {an:List Nat}{x:Nat}{by_:Option Nat}{s:DS} (p:Pre g an x by_ s):Mid g x by_ s [] (enter x s) [] []:=by
 have hnw:∀ v,Nw s (enter x s) v↔v=x:=λv=>by
  unfold Nw enter
  simp only
  constructor
  ·rintro⟨h1,h2⟩
   exact Decidable.byContradiction λhc=>h2 (by rw[upd_ne hc]; exact h1)
  ·rintro rfl
   exact⟨p.x0,by rw[upd_same]; omega⟩
 have keep:∀ v,v≠x→(enter x s).num v=s.num v:=λv hv=>upd_ne hv
 have nx:(enter x s).num x=s.cnt+1:=upd_same
 refine { keep:=λv hv=>keep v λe=>hv (e▸p.x0),numx:=nx,newn:=λv hv=>?_,cnt:=Nat.lt_succ_self _,le:=λv=>?_,inj:=λu v h1 h2=>?_,conn:=λu hu=>?_,lowk:=λv hv=>?_,lowle:=?_,lowpos:=?_,stk:=(cX _).symm,blk:=(cX _).symm,nd:=(by simp),cls:=λi hi=>(by cases hi),blks:=λb hb=>(by cases hb),blackT:=λu hu hne=>absurd ((hnw u).1 hu) hne,blackx:=λi hi=>(by cases hi),lowa:=λu i hu _ h=>?_,lowb:=.inl ?_,part:=λi=>?_}
 ·rw[(hnw v).1 hv,nx]; omega
 ·by_cases e:v=x
  ·subst e; rw[nx]; exact ab _
  ·rw[keep v e]; exact kI (p.le v)
 ·by_cases e:u=x
  ·subst e
   by_cases e2:v=u
   ·exact e2.symm
   ·rw[nx,keep v e2] at h1
    have:=p.le v
    omega
  ·by_cases e2:v=x
   ·subst e2
    rw[nx,keep u e] at h1
    have:=p.le u
    omega
   ·rw[keep u e,keep v e2] at h1
    rw[keep u e] at h2
    exact p.inj u v h1 h2
 ·rw[(hnw u).1 hu]
  exact .refl ((hnw x).2 rfl)
 ·exact upd_ne λe=>hv ((hnw v).2 e)
 ·show upd s.low x (s.cnt+1) x≤upd s.num x (s.cnt+1) x
  rw[upd_same,upd_same]; exact ab _
 ·show 0<upd s.low x (s.cnt+1) x
  rw[upd_same]; omega
 ·rcases h with h|h
  ·exact absurd ((hnw u).1 hu) h
  ·cases h
 ·show upd s.low x (s.cnt+1) x=upd s.num x (s.cnt+1) x
  rw[upd_same,upd_same]
 ·constructor
  ·rintro (h|⟨b,h,_⟩)<;>cases h
  ·rintro⟨_,⟨u,h1,h2,_⟩|⟨_,h⟩⟩
   ·exact absurd ((hnw u).1 h1) h2
   ·cases h
theorem Mid.post {x:Nat}{by_:Option Nat}{s s':DS}{L new:List Nat}{bs:List (List Nat)} (m:Mid g x by_ s L s' new bs) (h0:s.num x=0) (hL:∀ i,i∈L↔g.inc i x):Post g x by_ s s' new bs:=by
 refine { toCom:=m.toCom,black:=λu hu i hi=>?_,lowa:=λu i hu hi=>?_,lowb:=m.lowb,part:=λi=>?_}
 ·by_cases e:u=x
  ·subst e; exact m.blackx i ((hL i).2 hi)
  ·exact m.blackT u hu e i hi
 ·refine m.lowa u i hu hi ?_
  by_cases e:u=x
  ·subst e; exact .inr ((hL i).2 hi)
  ·exact .inl e
 ·rw[m.part i]
  constructor
  ·rintro⟨h1,⟨u,a,_,b⟩|⟨a,_⟩⟩
   ·exact⟨h1,u,a,b⟩
   ·exact⟨h1,x,m.toCom.nx h0,a⟩
  ·rintro⟨h1,u,a,b⟩
   by_cases e:u=x
   ·subst e; exact⟨h1,.inr ⟨b,(hL i).2 b⟩⟩
   ·exact⟨h1,.inl ⟨u,a,e,b⟩⟩
theorem oB {x:Nat}{by_:Option Nat}{s s':DS}{L new:List Nat}{bs:List (List Nat)}{i:Nat} (m:Mid g x by_ s L s' new bs) (hi:g.inc i x) (hv:s'.num (g.oth i x)≠0) (hc:by_=some i∨(Nw s s' (g.oth i x))):Mid g x by_ s (L++[i]) s' new bs:=by
 refine { toCom:=m.toCom,blackT:=m.blackT,blackx:=λk hk=>?_,lowa:=λu k hu hk h hb hn=>?_,lowb:=m.lowb,part:=λk=>?_}
 ·rcases ar.1 hk with hk|hk
  ·exact m.blackx k hk
  ·simp only[aw,bz,or_false] at hk
   subst hk; exact hv
 ·by_cases e:u=x
  ·subst e
   by_cases hkL:k∈L
   ·exact m.lowa u k hu hk (.inr hkL) hb hn
   ·rcases h with h|h
    ·exact absurd rfl h
    ·rcases ar.1 h with h|h
     ·exact absurd h hkL
     ·simp only[aw,bz,or_false] at h
      subst h
      rcases hc with hc|hc
      ·exact absurd hc.symm hb
      ·exact absurd hc hn
  ·exact m.lowa u k hu hk (.inl e) hb hn
 ·rw[m.part k]
  constructor
  ·rintro⟨h1,h|⟨a,b⟩⟩
   ·exact⟨h1,.inl h⟩
   ·exact⟨h1,.inr ⟨a,bD _ b⟩⟩
  ·rintro⟨h1,h|⟨a,b⟩⟩
   ·exact⟨h1,.inl h⟩
   ·rcases ar.1 b with b|b
    ·exact⟨h1,.inr ⟨a,b⟩⟩
    ·simp only[aw,bz,or_false] at b
     subst b
     rcases hc with hc|hc
     ·exact absurd hc.symm h1
     ·exact⟨h1,.inl ⟨_,hc,(inc_oth hi).2.1,(inc_oth hi).1⟩⟩
theorem xy {an:List Nat}{x:Nat}{by_:Option Nat}{s s':DS}{L new:List Nat}{bs:List (List Nat)}{i:Nat} (p:Pre g an x by_ s) (m:Mid g x by_ s L s' new bs) (hi:g.inc i x) (hiL:i∉L) (hb:by_≠some i) (hv:s'.num (g.oth i x)≠0) (hlt:s'.num (g.oth i x)<s'.num x) :
 Mid g x by_ s (L++[i]) { s' with stk:=s'.stk++[i],low:=upd s'.low x (min (s'.low x) (s'.num (g.oth i x)))} (new++[i]) bs:=by
 obtain⟨oi,one,oo⟩:=inc_oth hi
 have hnw:¬ Nw s s' (g.oth i x):=λh=>by
  have:=m.newn _ h
  rw[m.numx] at hlt
  omega
 have hold:=m.toCom.old hv hnw
 have han:g.oth i x∈an:=Decidable.byContradiction λhc=>by
  have:=p.black _ hold hc i oi
  rw[oo] at this
  exact this p.x0
 obtain⟨b,rfl⟩:∃ b,by_=some b:=by
  cases by_ with
  | none=>rw[p.by0 rfl] at han; cases han
  | some b=>exact⟨b,rfl⟩
 obtain⟨b1,b2⟩:=p.by1 b rfl
 have hxan:x∉an:=λh=>p.gray x h p.x0
 have hrel:Rel g i b:=⟨x,hi,b1,p.chain x hxan _ han _ b2⟩
 have hni:i∉new∧∀ b∈bs,i∉b:=by
  have:=m.part i
  have hno:¬ (some i≠some b∧((∃ u,Nw s s' u∧u≠x∧g.inc i u)∨(g.inc i x∧i∈L))):=by
   rintro⟨_,⟨u,a,c,d⟩|⟨_,d⟩⟩
   ·have:=fH hi d c
    subst this
    exact hnw a
   ·exact hiL d
  rw[← this] at hno
  exact⟨λh=>hno (.inl h),λb hb h=>hno (.inr ⟨b,hb,h⟩)⟩
 have hlow:∀ v,v≠x→(upd s'.low x (min (s'.low x) (s'.num (g.oth i x)))) v=s'.low v:=λv hv=>upd_ne hv
 have hlx:(upd s'.low x (min (s'.low x) (s'.num (g.oth i x)))) x=min (s'.low x) (s'.num (g.oth i x)):=upd_same
 have hxT:Nw s s' x:=m.toCom.nx p.x0
 refine { keep:=m.keep,numx:=m.numx,newn:=m.newn,cnt:=m.cnt,le:=m.le,inj:=m.inj,conn:=m.conn,lowk:=λv hv=>?_,lowle:=?_,lowpos:=?_,stk:=?_,blk:=m.blk,nd:=?_,cls:=λk hk=>?_,blks:=m.blks,blackT:=m.blackT,blackx:=λk hk=>?_,lowa:=λu k hu hk h hkb hn=>?_,lowb:=?_,part:=λk=>?_}
 ·exact (hlow v λe=>hv (e▸hxT)).trans (m.lowk v hv)
 ·have:=m.lowle
  simp only
  rw[hlx]; omega
 ·have:=m.lowpos
  simp only
  rw[hlx]; omega
 ·simp only; rw[m.stk,bQ]
 ·have h:=m.nd
  rw[bQ,aS] at *
  refine⟨h.1,?_,?_⟩
  ·rw[aI,bp,aZ,dJ]
   exact⟨λ⟨b,q1,q2⟩=>hni.2 b q1 q2,h.2.1⟩
  ·intro a ha c hc
   rw[aI,bp] at hc
   rcases aw.1 hc with rfl|hc
   ·exact λe=>hni.1 (e▸ha)
   ·exact h.2.2 a ha c hc
 ·rcases ar.1 hk with hk|hk
  ·exact m.cls k hk
  ·simp only[aw,bz,or_false] at hk
   subst hk
   exact⟨b,rfl,.one hrel⟩
 ·rcases ar.1 hk with hk|hk
  ·exact m.blackx k hk
  ·simp only[aw,bz,or_false] at hk
   subst hk; exact hv
 ·simp only
  rw[hlx]
  by_cases hq:u≠x∨k∈L
  ·have:=m.lowa u k hu hk hq hkb hn
   exact cM (Nat.min_le_left _ _) this
  ·have e:u=x:=Decidable.byContradiction λc=>hq (.inl c)
   subst e
   rcases h with h|h
   ·exact absurd rfl h
   ·rcases ar.1 h with h|h
    ·exact absurd (.inr h) hq
    ·simp only[aw,bz,or_false] at h
     subst h
     exact Nat.min_le_right _ _
 ·simp only
  rw[hlx]
  by_cases hq:s'.low x≤s'.num (g.oth i x)
  ·rw[eS hq]; exact m.lowb
  ·rw[Nat.min_eq_right om]
   exact .inr ⟨x,i,hxT,hi,hb.symm,hnw,rfl⟩
 ·have:=m.part k
  constructor
  ·rintro (h|h)
   ·rcases ar.1 h with h|h
    ·obtain⟨h1,h2⟩:=this.1 (.inl h)
     exact⟨h1,h2.imp id λq=>⟨q.1,bD _ q.2⟩⟩
    ·simp only[aw,bz,or_false] at h
     subst h
     exact⟨hb.symm,.inr ⟨hi,by simp⟩⟩
   ·obtain⟨h1,h2⟩:=this.1 (.inr h)
    exact⟨h1,h2.imp id λq=>⟨q.1,bD _ q.2⟩⟩
  ·rintro⟨h1,h2⟩
   rcases h2 with h2|⟨h2,h3⟩
   ·exact (this.2 ⟨h1,.inl h2⟩).imp (bD _) id
   ·rcases ar.1 h3 with h3|h3
    ·exact (this.2 ⟨h1,.inr ⟨h2,h3⟩⟩).imp (bD _) id
    ·simp only[aw,bz,or_false] at h3
     subst h3
     exact .inl (by simp)
end Go.Blk
