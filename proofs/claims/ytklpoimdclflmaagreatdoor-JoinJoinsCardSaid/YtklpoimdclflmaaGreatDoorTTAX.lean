/- Maps from numbers -/
import Derived.Test.YtklpoimdclflmaaGreatDoorTTAW
set_option linter.all false
namespace Go.Proofs.YtklpoimdclflmaaGreatDoor
open Go.Am
variable {b:List Nat}{c i lo m x:Nat}{es:List (AV×AV×Nat)}{h:AH}{k:AV}
def MT(ks:List Nat)(k:Nat):List Nat:=if k∈ks then ks else ks++[k]
def GH(es:List (AV×AV×Nat))(ks:List Nat):Prop:=es.map (·.1)=ks.map λk=>AV.int .i64 ((k:Nat):Int)
def CA:∀{es:List (AV×AV×Nat)}{ks:List Nat},GH es ks->∀k:Nat,(k∉ks/\jL .ki (.int .i64 (k:Nat)) es=some none) \/
 ∃i v n,jL .ki (.int .i64 (k:Nat)) es=some (some (i,v,n))/\es[i]?=some (.int .i64 (k:Nat),v,n)/\ks[i]?=some k/\∀j,j<i->ks[j]?≠some k
 |[],ks,h,k=>by
   have:ks=[]:=by
    have:=congrArg List.length h;simp at this;exact aW.1 this.symm
   subst this;exact .inl ⟨by simp,rfl⟩
 |e::r,[],h,k=>by simp[GH]at h
 |(a,b,n)::r,p::ks,h,k=>by
   have h':=h;simp only[GH,bO,cy]at h';obtain⟨rfl,h2⟩:=h';have hk:lc .ki (.int .i64 ((k:Nat):Int)) (.int .i64 ((p:Nat):Int))=some (((k:Nat):Int)==((p:Nat):Int)):=by simp[lc]
   by_cases q:p=k
   .subst q;refine .inr ⟨0,b,n,?_,rfl,rfl,λj hj=>absurd hj (gz _)⟩;simp only[jL,hk,beq_self_eq_true]
   .have hne:(((k:Nat):Int)==((p:Nat):Int))=false:=by rw[beq_eq_false_iff_ne];omega
    rcases CA (es:=r) (ks:=ks) h2 k with⟨h3,h4⟩|⟨i,v,m,h3,h4,h5,h6⟩
    .refine .inl ⟨?_,?_⟩
     .rw[aF];rintro (e|e)
      .exact q e.symm
      .exact h3 e
     .simp only[jL,hk,hne,h4];rfl
    .refine .inr ⟨i+1,v,m,?_,h4,h5,λj hj=>?_⟩
     .simp only[jL,hk,hne,h3];rfl
     .cases j with
      |zero=>simpa using q
      |succ j=>simpa using h6 j om
def lA{k:Int}:tH .ki (.int .i64 k)=true:=by simp[tH,lc]
def tp{v:AV}{n:Nat}{u:AV}(h:es[i]?=some (k,v,n)):(es.set i (k,u,n)).map (·.1)=es.map (·.1)/\(es.set i (k,u,n)).map (·.2.2)=es.map (·.2.2):=by
 rw[vV,vV];have h1:(es.map (·.1))[i]?=some k:=by rw[aV,h];rfl
 have h2:(es.map (·.2.2))[i]?=some n:=by rw[aV,h];rfl
 constructor
 .refine cV λj=>?_;rw[cU];split
  .rename_i e;subst e;rw[h1];split
   .rfl
   .rename_i hn;rw[bJ om]at h1;cases h1
  .rfl
 .refine cV λj=>?_;rw[cU];split
  .rename_i e;subst e;rw[h2];split
   .rfl
   .rename_i hn;rw[bJ om]at h2;cases h2
  .rfl
abbrev ML:=List (Nat×List Nat)
def lkL(ml:ML)(x:Nat):List Nat:=((ml.find? λp=>p.1==x).map (·.2)).getD []
def qU:ML->Nat->Nat->ML
 |[],x,i=>[(x,[i])]
 |p::r,x,i=>if p.1=x then(x,p.2++[i])::r else p::qU r x i
def jt(p:Nat×List Nat)(r:ML)(x:Nat):lkL (p::r) x=if p.1=x then p.2 else lkL r x:=by
 unfold lkL;rw[List.find?_cons];by_cases e:p.1=x
 .rw[if_pos e,show(p.1==x)=true from by simpa using e];rfl
 .rw[if_neg e,show(p.1==x)=false from by simpa using e]
def Il(ml:ML)(x i y:Nat):lkL (qU ml x i) y=if x=y then lkL ml y++[i]else lkL ml y:=by
 induction ml with
 |nil =>
   rw[qU,jt];by_cases e:x=y
   .rw[if_pos e,if_pos e];rfl
   .rw[if_neg e,if_neg e]
 |cons p r ih =>
   rw[qU];by_cases e:p.1=x
   .rw[if_pos e,jt,jt];simp only;by_cases e2:x=y
    .rw[if_pos e2,if_pos e2,if_pos (e.trans e2)]
    .rw[if_neg e2,if_neg e2,if_neg om]
   .rw[if_neg e,jt,jt,ih];by_cases e2:x=y
    .have h3:¬p.1=y:=om;simp only[if_pos e2,if_neg h3]
    .rw[if_neg e2,if_neg e2]
def wq(ml:ML)(x i:Nat):(qU ml x i).map (·.1)=MT (ml.map (·.1)) x:=by
 induction ml with
 |nil=>rfl
 |cons p r ih =>
   rw[qU,bO];unfold MT at ih |-;by_cases e:p.1=x
   .rw[if_pos e,if_pos (by rw[e];exact aM ..),bO,e]
   .rw[if_neg e,bO,ih];by_cases e2:x∈r.map (·.1)
    .rw[if_pos e2,if_pos (aN _ e2)]
    .rw[if_neg e2,if_neg]
     .rfl
     .rw[aF];rintro (q|q)
      .exact e q.symm
      .exact e2 q
variable {ml:ML}
def AC(h:x∉ml.map (·.1)):lkL ml x=[]:=by
 induction ml with
 |nil=>rfl
 |cons q r ih =>
   rw[bO,aF]at h;rw[jt,if_neg λe=>h (.inl e.symm)];exact ih λq=>h (.inr q)
def Kq{k:Nat}{p:Nat×List Nat}(hk:ml[k]?=some p)(hp:p.1=x)(hj:∀j,j<k->(ml.map (·.1))[j]?≠some x):qU ml x i=ml.set k (x,p.2++[i]):=by
 induction ml generalizing k with
 |nil=>simp at hk
 |cons q r ih =>
   cases k with
   |zero =>
     simp only[bD,aa]at hk;subst hk;rw[qU,if_pos hp];rfl
   |succ k =>
     have h0:=hj 0 om;simp only[bO,bD,ne_eq,aa]at h0;rw[qU,if_neg h0,List.set_cons_succ,ih (k:=k) (by simpa using hk) λj hj'=>by simpa using hj (j+1) om]
def GK(h:x∉ml.map (·.1)):qU ml x i=ml++[(x,[i])]:=by
 induction ml with
 |nil=>rfl
 |cons q r ih =>
   rw[bO,aF]at h;rw[qU,if_neg λe=>h (.inl e.symm),ih λq=>h (.inr q)];rfl
structure MapL(h:AH)(lo:Nat)(es:List (AV×AV×Nat))(c:Nat)(ml:ML):Prop where
 keys:GH es (ml.map (·.1))
 at_:∀(i:Nat) (e:AV×AV×Nat) (p:Nat×List Nat),es[i]?=some e->ml[i]?=some p->IsSl h 1 lo e.2.1 (nC p.2)
 sep:∀(i j:Nat) (e e':AV×AV×Nat),i≠j->es[i]?=some e->es[j]?=some e'->∀b n b' n',e.2.1=.sl b 0 n n->e'.2.1=.sl b' 0 n' n'->b≠b'
 st:(es.map (·.2.2)).Pairwise (·<·)/\∀e∈es,e.2.2<c
def MapL.nil{h:AH}{lo c:Nat}:MapL h lo [] c []:=⟨rfl,λi e p q=>by simp at q,λi j e e' _ q=>by simp at q,.nil,λe he=>by cases he⟩
def MapL.len(m:MapL h lo es c ml):es.length=ml.length:=by
 have:=congrArg List.length m.keys;simpa using this
def MapL.cong{h h':AH}{lo c:Nat}{es:List (AV×AV×Nat)}{ml:ML}(m:MapL h lo es c ml)(hk:∀c,lo<=c->c<h.next->h'.get c=h.get c):MapL h' lo es c ml :=
 ⟨m.keys,λi e p q1 q2=>(m.at_ i e p q1 q2).cong λb n e' hb=>hk b hb ((m.at_ i e p q1 q2).lt e'),m.sep,m.st⟩
def MapL.look{mb:Nat}(m:MapL h lo es c ml)(hg:h.get mb=some (.mapo es c))(x:Nat) :
 ∃v,oX h .ki false .nils (.mp mb) (.int .i64 (x:Nat))=some v/\IsSl h 1 lo v (nC (lkL ml x)):=by
 rcases CA m.keys x with⟨q1,q2⟩|⟨i,v,n,q1,q2,q3,q4⟩
 .exact⟨.nils,by simp only[oX,hg,lA,q2,if_true];rfl,.inl ⟨rfl,by rw[AC q1];rfl⟩⟩
 .refine⟨v,by simp only[oX,hg,lA,q1,if_true];rfl,?_⟩;rw[aV]at q3;obtain⟨p,hp,rfl⟩:=aG.1 q3;have h1:=m.at_ i _ p q2 hp;have:lkL ml p.1=p.2:=by
   have key:∀{ml:ML}{i:Nat}{p:Nat×List Nat},ml[i]?=some p->(∀j,j<i->(ml.map (·.1))[j]?≠some p.1)->lkL ml p.1=p.2:=by
    intro ml;induction ml with
    |nil=>intro i p h;simp at h
    |cons q r ih =>
      intro i p hp hj;cases i with
      |zero =>
        simp only[bD,aa]at hp;subst hp;rw[jt,if_pos rfl]
      |succ i =>
        have h0:=hj 0 om;simp only[bO,bD,ne_eq,aa]at h0;rw[jt,if_neg h0];exact ih (by simpa using hp) λj hj'=>by simpa using hj (j+1) om
   exact key hp q4
  rw[this];exact h1
def DV{h':AH}{mb:Nat}{e:RE}{ok:Bool}{z:AV}(hg:h'.get mb=h.get mb):oX h' e ok z (.mp mb) k=oX h e ok z (.mp mb) k:=by
 simp only[oX,hg]
def MapL.up{mb x0:Nat}(m:MapL h lo es c ml)(hg:h.get mb=some (.mapo es c))(hmb:mb<lo)(hlo:lo<=h.next)(x i:Nat)(hx0:h.get x0=some (.cells [.int .i64 (i:Nat)] 1 false))(hxl:lo<=x0)
 (hxn:∀(j:Nat) (e:AV×AV×Nat),es[j]?=some e->∀b n,e.2.1=.sl b 0 n n->b≠x0) (hl:(lkL ml x).length<2^30) :
 ∃v v' h1 h2 es' c',oX h .ki false .nils (.mp mb) (.int .i64 (x:Nat))=some v/\gh h 1 8 v (.sl x0 0 1 1)=some (v',h1)/\h1.get mb=some (.mapo es c)/\Ay h1 .ki (.mp mb) (.int .i64 (x:Nat)) v'=some (.un,h2)/\h2.get mb=some (.mapo es' c')/\MapL h2 lo es' c' (qU ml x i) /\
   Ext lo h h1/\Kp (λc=>c=mb\/lo<=c) h h2/\(∀c,c<h.next->(∀(j:Nat) (e:AV×AV×Nat),es[j]?=some e->∀n,e.2.1≠.sl c 0 n n)->h1.get c=h.get c/\(c≠mb->h2.get c=h.get c)) /\
   (∀(j:Nat) (e:AV×AV×Nat),es'[j]?=some e->∀b n,e.2.1=.sl b 0 n n->b=h.next\/∃(j:Nat) (e:AV×AV×Nat) (n:Nat),es[j]?=some e/\e.2.1=.sl b 0 n n)/\h2.next=h.next+1:=by
 have hmx:mb<h.next:=AH.lt_of_get hg;have nine:nC [i]=[AV.int .i64 ((i:Nat):Int)]:=rfl;rcases CA m.keys x with⟨q1,q2⟩|⟨k,v,n,q1,q2,q3,q4⟩
 ·
  have hz:lkL ml x=[]:=AC q1;have hn:IsSl h 1 lo .nils (nC []):=.inl ⟨rfl,rfl⟩;obtain⟨v',h1,a1,a2,a3,a4,a5,a6,a7⟩:=hn.app (bytes:=8) hlo om hx0 hxl (λb n e=>by cases e) rfl rfl (by unfold bf;simp[nC]) (by unfold bf;simp[nC]);have g1:h1.get mb=some (.mapo es c):=by rw[a3.gt _ hmb];exact hg
  have u:=Oi (o:=.mapo (es++[(.int .i64 (x:Nat),v',c)]) (c+1)) g1;have hel:es.length=ml.length:=m.len;refine⟨.nils,v',h1,_,es++[(.int .i64 (x:Nat),v',c)],c+1,by simp only[oX,hg,lA,q2,if_true];rfl,a1,g1,by simp only[Ay,g1,lA,q2,if_true],u.get,?_,a3,?_,λc hc hcn=>?_,λj e e1 b n e3=>?_,by rw[u.nx,a5]⟩
  .have keep:∀(j:Nat) (e:AV×AV×Nat) (p:Nat×List Nat),es[j]?=some e->ml[j]?=some p->IsSl (h1.put mb (.mapo (es++[(.int .i64 (x:Nat),v',c)]) (c+1))) 1 lo e.2.1 (nC p.2):=λj e p e1 e2=>by
    refine(m.at_ j e p e1 e2).cong λb n e3 hb=>?_;rw[u.ne om,a6 b ((m.at_ j e p e1 e2).lt e3) λb' n' e4=>by cases e4]
   have lt:∀(j:Nat) (e:AV×AV×Nat),es[j]?=some e->∀b n,e.2.1=.sl b 0 n n->b<h.next:=λj e e1 b n e3=>by
    have hj:=(au.1 e1).1;exact(m.at_ j e _ e1 (aj (show j<ml.length by omega))).lt e3
   refine⟨?_,λj e p e1 e2=>?_,λj j' e e' hne e1 e2 b n b' n' f1 f2=>?_,?_⟩
   .rw[wq];unfold MT GH;rw[if_neg q1,bS,bS,m.keys];rfl
   .rw[GK q1]at e2;by_cases hj:j<es.length
    .rw[bC hj]at e1;rw[bC om]at e2;exact keep j e p e1 e2
    .have hj':j<(es++[(AV.int .i64 ((x:Nat):Int),v',c)]).length:=(au.1 e1).1;rw[aJ,bd,bm]at hj';have:j=es.length:=om;subst this;rw[bw om,dV]at e1;rw[hel,bw om,dV]at e2;cases e1;cases e2;exact a2.cong λb n _ hb=>u.ne om
   .have one:∀(j:Nat) (e:AV×AV×Nat),(es++[(AV.int .i64 ((x:Nat):Int),v',c)])[j]?=some e->(j<es.length/\es[j]?=some e)\/(j=es.length/\e.2.1=v'):=λj e e1=>by
     by_cases hj:j<es.length
     .rw[bC hj]at e1;exact .inl ⟨hj,e1⟩
     .have hj':j<(es++[(AV.int .i64 ((x:Nat):Int),v',c)]).length:=(au.1 e1).1;rw[aJ,bd,bm]at hj';have:j=es.length:=om;subst this;rw[bw om,dV]at e1;cases e1;exact .inr ⟨rfl,rfl⟩
    rcases one j e e1 with⟨l1,o1⟩|⟨l1,o1⟩<;>rcases one j' e' e2 with⟨l2,o2⟩|⟨l2,o2⟩
    .exact m.sep j j' e e' hne o1 o2 b n b' n' f1 f2
    .have:=lt j e o1 b n f1;rw[o2,a4]at f2;cases f2;omega
    .have:=lt j' e' o2 b' n' f2;rw[o1,a4]at f1;cases f1;omega
    .omega
   .obtain⟨s1,s2⟩:=m.st;refine⟨?_,λe he=>?_⟩
    .rw[bS,zB];refine⟨s1,by simp,λa ha b hb=>?_⟩;simp only[bO,GF,eC]at hb;subst hb;obtain⟨e,he,rfl⟩:=bp.1 ha;exact s2 e he
    .rcases aZ.1 he with he|he
     .have:=s2 e he;omega
     .rw[eC]at he;subst he;simp
  .refine⟨by rw[u.nx,a5];omega,λc hc hn=>?_,λc hc=>by rw[u.ty,a7]⟩;have hc1:c≠mb:=λe=>hn (.inl e);have hc2:¬lo<=c:=λe=>hn (.inr e);rw[u.ne hc1,a3.gt _ om]
  .have q:h1.get c=h.get c:=a6 c hc λb' n e4=>by cases e4
   exact⟨q,λhm=>by rw[u.ne hm,q]⟩
  .by_cases hj:j<es.length
   .rw[bC hj]at e1;exact .inr ⟨j,e,n,e1,e3⟩
   .have hj':j<(es++[(AV.int .i64 ((x:Nat):Int),v',c)]).length:=(au.1 e1).1;rw[aJ,bd,bm]at hj';have:j=es.length:=om;subst this;rw[bw om,dV]at e1;cases e1;rw[a4]at e3;cases e3;exact .inl rfl
 ·
  rw[aV]at q3;obtain⟨p,hp,hpx⟩:=aG.1 q3;have hs:=m.at_ k _ p q2 hp;have hpl:lkL ml x=p.2:=by
   obtain⟨v2,b1,b2⟩:=m.look hg x;have key:∀{ml:ML}{i:Nat}{p:Nat×List Nat},ml[i]?=some p->(∀j,j<i->(ml.map (·.1))[j]?≠some p.1)->lkL ml p.1=p.2:=by
    intro ml;induction ml with
    |nil=>intro i p h;simp at h
    |cons q r ih =>
      intro i p hp hj;cases i with
      |zero =>
        simp only[bD,aa]at hp;subst hp;rw[jt,if_pos rfl]
      |succ i =>
        have h0:=hj 0 om;simp only[bO,bD,ne_eq,aa]at h0;rw[jt,if_neg h0];exact ih (by simpa using hp) λj hj'=>by simpa using hj (j+1) om
   rw[<-hpx]at q4 |-;exact key hp q4
  obtain⟨v',h1,a1,a2,a3,a4,a5,a6,a7⟩:=hs.app (bytes:=8) hlo om hx0 hxl (λb n e=>hxn k _ q2 b n e) rfl rfl (by rw[oW,<-hpl];unfold bf;omega) (by rw[oW,<-hpl];unfold bf;omega);have g1:h1.get mb=some (.mapo es c):=by rw[a3.gt _ hmb];exact hg
  have u:=Oi (o:=.mapo (es.set k (.int .i64 (x:Nat),v',n)) c) g1;have hel:es.length=ml.length:=m.len;have hkl:k<es.length:=(au.1 q2).1;refine⟨v,v',h1,_,es.set k (.int .i64 (x:Nat),v',n),c,by simp only[oX,hg,lA,q1,if_true];rfl,a1,g1,by simp only[Ay,g1,lA,q1,if_true],u.get,?_,a3,?_,λc hc hcn=>?_,λj e e1 b n e3=>?_,by rw[u.nx,a5]⟩
  .have hup:qU ml x i=ml.set k (x,p.2++[i]):=Kq hp hpx q4;have lt:∀(j:Nat) (e:AV×AV×Nat),es[j]?=some e->∀b n,e.2.1=.sl b 0 n n->b<h.next:=λj e e1 b n e3=>by
    have hj:=(au.1 e1).1;exact(m.at_ j e _ e1 (aj (show j<ml.length by omega))).lt e3
   have one:∀(j:Nat) (e:AV×AV×Nat),(es.set k (AV.int .i64 ((x:Nat):Int),v',n))[j]?=some e->(j≠k/\es[j]?=some e)\/(j=k/\e.2.1=v'):=λj e e1=>by
    rw[cU]at e1;split at e1
    .rename_i e0
     cases e1;exact .inr ⟨e0.symm,rfl⟩
    .rename_i e0
     exact .inl ⟨λq=>e0 q.symm,e1⟩
   refine⟨?_,λj e p' e1 e2=>?_,λj j' e e' hne e1 e2 b n1 b' n1' f1 f2=>?_,?_⟩
   .rw[wq];unfold MT GH;rw[if_pos (by rw[<-hpx];exact List.mem_map_of_mem (eP hp)),(tp q2).1];exact m.keys
   .rw[hup]at e2;rcases one j e e1 with⟨o1,o2⟩|⟨rfl,o2⟩
    .rw[dq (λq=>o1 q.symm)]at e2;refine(m.at_ j e p' o2 e2).cong λb n1 e3 hb=>?_;rw[u.ne om,a6 b ((m.at_ j e p' o2 e2).lt e3) λb' n' e4=>m.sep j k e _ o1 o2 q2 b n1 b' n' e3 e4]
    .rw[dP om]at e2;cases e2;rw[o2,yz];exact a2.cong λb n _ hb=>u.ne om
   .rcases one j e e1 with⟨l1,o1⟩|⟨l1,o1⟩<;>rcases one j' e' e2 with⟨l2,o2⟩|⟨l2,o2⟩
    .exact m.sep j j' e e' hne o1 o2 b n1 b' n1' f1 f2
    .have:=lt j e o1 b n1 f1;rw[o2,a4]at f2;cases f2;omega
    .have:=lt j' e' o2 b' n1' f2;rw[o1,a4]at f1;cases f1;omega
    .omega
   .obtain⟨s1,s2⟩:=m.st;refine⟨by rw[(tp q2).2];exact s1,λe he=>?_⟩;rcases List.mem_or_eq_of_mem_set he with he|rfl
    .exact s2 e he
    .have:=s2 _ (eP q2);exact this
  .refine⟨by rw[u.nx,a5];omega,λc hc hn=>?_,λc hc=>by rw[u.ty,a7]⟩;have hc1:c≠mb:=λe=>hn (.inl e);have hc2:¬lo<=c:=λe=>hn (.inr e);rw[u.ne hc1,a3.gt _ om]
  .have q:h1.get c=h.get c:=a6 c hc λb' n' e4=>by
    rintro rfl;have q3:=hcn k _ q2 n';exact q3 e4
   exact⟨q,λhm=>by rw[u.ne hm,q]⟩
  .rw[cU]at e1;split at e1
   .cases e1;rw[a4]at e3;cases e3;exact .inl rfl
   .exact .inr ⟨j,e,n,e1,e3⟩
open Go.Am
open Go.Blk (Gr Lst canon IsBlock)
def QR(h:AH)(a:AV)(L:List Pl2):Prop :=
 ∃xs:List (AV×AV),Sl h 2 a (xs.map f2)/\xs.length=L.length/\∀(i:Nat) (x:AV×AV) (p:Pl2),xs[i]?=some x->L[i]?=some p->SlI h x.1 p.1/\SlL h x.2 p.2
def QR.ext{h h':AH}{a:AV}{L:List Pl2}(q:QR h a L)(hx:Ext h.next h h'):QR h' a L:=by
 obtain⟨xs,h1,h2,h3⟩:=q;exact⟨xs,h1.ext hx (ab _),h2,λi x p e1 e2=>⟨(h3 i x p e1 e2).1.ext hx (ab _),(h3 i x p e1 e2).2.ext hx⟩⟩
def QR.len{h:AH}{a:AV}{L:List Pl2}(q:QR h a L):fP a=some (.int .i64 (L.length:Nat)):=by
 obtain⟨xs,h1,h2,h3⟩:=q;have:=h1.len;rwa [ah,h2]at this
def QR.cells{h:AH}{a:AV}{L:List Pl2}(q:QR h a L):a.cells=[a]/\a.one=true:=by
 obtain⟨xs,h1,h2,h3⟩:=q;exact h1.cells
def QR.at{h:AH}{a:AV}{L:List Pl2}(q:QR h a L){i:Nat}(hi:i<L.length):∃b o x y,jZ 2 a (.int .i64 (i:Nat))=some (.ptr b o)/\ai h b o 2=some [x,y]/\ai h b o 1=some [x]/\ai h b (o+1) 1=some [y]/\SlI h x L[i].1/\SlL h y L[i].2/\b<h.next:=by
 obtain⟨xs,h1,h2,h3⟩:=q;have hx:i<xs.length:=om;obtain⟨b,o,q1,q2,q3,q4⟩:=h1.at (cm (f:=f2) hx);obtain⟨k1,k2⟩:=h3 i _ _ (aj hx) (aj hi);exact⟨b,o,_,_,q1,q2,q3 0 _ rfl,q3 1 _ rfl,k1,k2,q4⟩
def fT{α:Type}{l:List α}{d:α}(h:i<l.length):l.getD i d=l[i]:=by
 rw[aA,aj h];rfl
set_option maxHeartbeats 1000000 in
def LP{pb o j:Nat}{ev nv:AV}{es:List (Int×Int)}{names:List Int}(r0:ai h pb o 2=some [.int .i64 (m:Nat),ev])(r2:ai h pb (o+2) 1=some [nv])(hpb:pb<h.next)(he:SlE h ev es)(hm:fC (m:Nat) es=true)(hn:SlI h nv names)(hs:gU m es=[((j:Nat):Int)])(hj:j<names.length) :
 C prg 17 [.ptr pb o] h λr h'=>r=.int .i64 names[j]/\Ext h.next h h':=by
 obtain⟨nc,no⟩:=hn.cells;have sn:=qZ hn;refine Oj rfl ?_;refine ae (ak (Mi0) ?_);refine ae (bM (ju 8 (Mi2 r0 r2) rfl (Zi2 r0 r2) (Mi2 r0 r2) (vh he hm) λr h2 hq=>?_));obtain⟨hv,x2⟩:=hq;have r22:ai h2 pb (o+2) 1=some [nv]:=by rw[bi (x2.gt _ hpb)];exact r2
 refine⟨Z2 r22 sn,?_⟩;refine ju 0 (M0) rfl (Z0) (M0) (qt hv) λr h3 hq=>?_;obtain⟨is,x3⟩:=hq;have n2:=x2.nx;have r23:ai h3 pb (o+2) 1=some [nv]:=by rw[bi (x3.gt _ om)];exact r22
 refine⟨Z2 r23 sn,?_⟩;have X3:Ext h.next h h3:=x2.trans (x3.mono om);rw[hs]at is;have ss:SlI h3 r [((j:Nat):Int)]:=Ob om (λ_=>rfl) is;obtain⟨b1,p1,a1,q1,_⟩:=ss.at1 (i:=0) (y:=.int .i64 ((j:Nat):Int)) rfl;obtain⟨b2,p2,a2,q2,_⟩:=(hn.ext X3 (ab _)).at1 (cm (f:=eI) hj);rw[bh]at a1;refine bI (M4 a1 q1 a2 q2) ?_;exact bu ⟨_,(by simp only[rs,rf17,am,aL,simprocAttr]<;>rfl),rfl,X3⟩
open Go.Am
open Go.Blk (Gr Lst canon IsBlock)
def HI{j:Nat}(hj:j<b.length):phI b ((j:Nat):Int)=(nI b)[j]'(by rw[fj];exact hj):=by
 unfold phI;rw[aO,pZ hj];unfold nI;rw[dz]
def DH{n:Nat}{E:List (Int×Int)}{p:Pl2}(hp:fR n E b p)(hE:InG (vsM n E (nI b)).length (fo n E (nI b))){t:Nat}(hi:i<(vsM n E (nI b)).length)(hi2:i<p.2.length)(ht:t<p.2[i].length):∃j:Nat,p.2[i][t]=((j:Nat):Int)/\j<b.length:=by
 have ho:=hp.1.2.2 i hi;rw[fT hi2]at ho;obtain⟨j,e,h1,_⟩:=(gV hE).1 (ho.mem.1 (ar ht));rw[jw]at h1;exact⟨j,e,h1⟩
set_option maxHeartbeats 4000000 in
def IC{hB:AH}{jb n:Nat}{pv qv mv ov uv0:AV}{E:List (Int×Int)}{B:List (List Nat)}{ps:List Pl2}(hxB:Ext hB.next hB h)(hjb:hB.next<=jb)(gj:h.get jb=some (.cells [pv,qv,mv,ov,uv0] 5 false))
 (pl:PL hB lo pv (B.map (lL n E))) (qr:QR hB qv ps) (ok:ji n E B ps) (hE:∀k (hk:k<B.length),InG (vsM n E (nI B[k])).length (fo n E (nI B[k]))) (hlr:∀p∈ps,∀l∈p.2,l.length<=200) (hn:n<=64) (hBl:B.length<=128) :
 C prg 18 [.ptr jb 0,.int .i64 (n:Nat)] h λ_ h'=>Kp (λc=>c=jb) h h'/\∃ob vs,h'.get jb=some (.cells [pv,qv,mv,ov,.sl ob 0 n n] 5 false)/\h.next<=ob/\h'.get ob=some (.cells vs 1 false)/\vs.length=n/\Rw h' h.next vs (oE n (jB n E B ps)):=by
 have hjl:=AH.lt_of_get gj;have nB:=hxB.nx;have plB:=pl.len;rw[ah]at plB;refine Oj rfl ?_;have mk:=oY (h:=h) (n:=n) om;have xm:Ext h.next h (h.new (.cells (cq [.nils] n) 1 false)):=Oe (ab _);have gm:(h.new (.cells (cq [.nils] n) 1 false)).get h.next=some (.cells (cq [.nils] n) 1 false):=by rw[AH.get_new,if_pos rfl]
 have nm:(h.new (.cells (cq [.nils] n) 1 false)).next=h.next+1:=rfl;have rl:(cq [AV.nils] n).length=n:=by rw[eQ,cA]
 have rnil:∀(i:Nat) (v:AV),(cq [AV.nils] n)[i]?=some v->v=.nils:=λi v hv=>by
  rw[eQ,cz]at hv;split at hv
  .cases hv;rfl
  .cases hv
 generalize cq [AV.nils] n=ws0 at *
 generalize h.new (.cells ws0 1 false)=hm at *
 have gjm:hm.get jb=some (.cells [pv,qv,mv,ov,uv0] 5 false):=by rw[xm.gt _ hjl];exact gj
 have w1:=ew (v:=.sl h.next 0 n n) gjm (i:=4) (by simp);change bP hm jb 4 [.sl h.next 0 n n]=some (hm.put jb (.cells [pv,qv,mv,ov,.sl h.next 0 n n] 5 false))at w1;have u1:=Oi (o:=.cells [pv,qv,mv,ov,.sl h.next 0 n n] 5 false) gjm;refine ae (ak (Mi2 mk w1) ?_);generalize hm.put jb (.cells [pv,qv,mv,ov,.sl h.next 0 n n] 5 false)=h1 at *
 have n1:=u1.nx;have gj1:=u1.get;have go1:h1.get h.next=some (.cells ws0 1 false):=by rw[u1.ne om];exact gm
 have xB1:Ext hB.next hB h1:=hxB.trans ((xm.mono om).trans (u1.ext hjb));have r0:ai h1 jb 0 1=some [pv]:=bq gj1 rfl;refine ae (ak (Mi2 r0 plB) ?_)
 refine fi (α:=List AV) (N:=B.length) (λ_ _=>[(0,.ptr jb 0),(19,pv)])
  (λk vs h'=>Kp (λc=>c=h.next) h1 h'/\h'.get h.next=some (.cells vs 1 false)/\vs.length=n/\Rw h' h1.next vs (jH n (jU n E B ps k))) ws0 (λ_ _=>rfl) om (Hi0)
  ⟨Kp.refl,go1,rl,⟨by unfold jH;rw[rl,ah,cw],λi v xs q1 q2=>by
   obtain rfl:=rnil i v q1;unfold jH at q2;rw[aV]at q2;obtain⟨x,_,rfl⟩:=aG.1 q2;exact .inl ⟨rfl,rfl⟩,λi j b m b' m' _ q=>by have:=rnil i _ q;cases this⟩⟩ ?_ ?_
 .rintro k vs ts h2 hk ⟨jk,jo,jl,jr⟩ ⟨ei,en,e0,e19,-⟩;simp only at ei en e0 e19 jo jl jr;have n2:=jk.nx;have keepB:∀{h':AH},Kp (λc=>c=h.next) h1 h'->Ext hB.next hB h':=fun {h'} q=>⟨by have:=q.nx;have:=xB1.nx;omega,λc hc=>(q.gt c om om).trans (xB1.gt c hc),λc hc=>(q.ty c om).trans (xB1.ty c hc)⟩
  have x2:=keepB jk;obtain⟨b1,o1,x,a1,q1,c1,lb1,_⟩:=pl.at (i:=k) (by rw[ah];exact hk);rw[dz]at c1;obtain⟨xV,xe,xn,xu⟩:=x;obtain⟨p1,p2,p3,p4,_⟩:=c1;simp only[lL]at p1 p2 p3 p4;obtain⟨hpo,hpr⟩:=ok.2 k hk;have hkp:k<ps.length:=by rw[ok.1];exact hk
  rw[fT hkp]at hpo hpr;have hpok:fR n E B[k] ps[k]:=⟨hpo,hpr⟩
  have hEk:=hE k hk;have hbn:=λz=>yb (n:=n) (E:=E) (B:=B) (ps:=ps) (z:=z) hk;rw[fT hkp]at hbn;have hbl:∀z,(jU n E B ps k z).length<=k*200:=λz=>BB hlr;have hrl:∀l∈ps[k].2,l.length<=200:=hlr _ (ar hkp);obtain⟨b2,o2,av,uv,a2,_,_,r2,_,s2,lb2⟩:=qr.at hkp;have lu2:=s2.len;generalize ps[k]=p at *
  have hul:p.2.length=(vsM n E (nI B[k])).length:=hpo.2.1;have hbn:=λz=>hbn z hul;generalize hbk:B[k]=bk at *
  subst p1;obtain⟨xec,xeo⟩:=p2.cells;obtain⟨xnc,xno⟩:=p3.cells;obtain⟨xuc,xuo⟩:=p4.cells;have sn:=qZ p3;obtain⟨h3,w3,x3,g3,n3⟩:=gD (h:=h2) (z:=[.int .i64 0,.nils,.nils,.nils]) (cs:=[.int .i64 ((vsM n E (nI bk)).length:Nat),xe,xn,xu]) (e:=4) rfl;have q12:ai h2 b1 o1 4=some (f4 (.int .i64 ((vsM n E (nI bk)).length:Nat),xe,xn,xu)):=by rw[bi (x2.gt _ lb1)];exact q1
  refine ae (ak (by simp only[am,aL,simprocAttr,ei,e0,e19,a1,q12,f4,xeo,xno,xuo,w3]<;>rfl) ?_);have jk3:Kp (λc=>c=h.next) h1 h3:=jk.trans (x3.kp (ab _)) λ_ _ q=>q;have gj3:h3.get jb=some (.cells [pv,qv,mv,ov,.sl h.next 0 n n] 5 false):=by rw[jk3.gt _ om om];exact gj1
  have rq:ai h3 jb 1 1=some [qv]:=bq gj3 rfl;have r23:ai h3 b2 (o2+1) 1=some [uv]:=by rw[bi ((keepB jk3).gt _ lb2)];exact r2
  refine ae (ak (M5 e0 rq a2 r23 lu2) ?_);have hvl:=oM n E (nI bk)
  refine fi (α:=List AV) (N:=p.2.length) (λ_ _=>[(0,.ptr jb 0),(5,.ptr h2.next 0),(19,pv),(20,.int .i64 (B.length:Nat)),(21,.int .i64 (k:Nat)),(33,uv)])
   (λi vs h'=>Kp (λc=>c=h.next) h1 h'/\h'.get h.next=some (.cells vs 1 false)/\vs.length=n/\Rw h' h1.next vs (jH n λz=>jU n E B ps k z++iP n E bk p.2 i 0 z)/\h2.next<h'.next /\
    h'.get h2.next=some (.cells [.int .i64 ((vsM n E (nI bk)).length:Nat),xe,xn,xu] 4 false)/\∀(j b m:Nat),vs[j]?=some (AV.sl b 0 m m)->b≠h2.next) vs (λ_ _=>rfl) om (H4 ei en e0 e19)
   ⟨jk3,by rw[x3.gt _ om];exact jo,jl,by rw[jG λz=>by rw[AR,bF]];exact jr.cong λc _ hc=>x3.gt _ hc,om,g3,λj b m q=>by have:=(jr.lt q).1;omega⟩ ?_ ?_
  .clear ei en e0 e19 jk jo jr jk3 gj3 rq r23;rintro i vs ts h4 hi ⟨jk,jo,jl,jr,jn,jp,jd⟩ ⟨ei,en,e0,e5,e19,e20,e21,e33,-⟩;simp only at ei en e0 e5 e19 e20 e21 e33 jo jl jr jp jd;have x4:=keepB jk;obtain⟨b3,o3,rv,a3,r3,s3,lb3⟩:=s2.at hi;have hi':i<(vsM n E (nI bk)).length:=om;obtain⟨row,hrow⟩:∃row,p.2[i]=row:=⟨_,rfl⟩
   have hnum:∀t (ht:t<row.length),∃j:Nat,row[t]=((j:Nat):Int)/\j<bk.length:=by
    subst hrow;exact λt ht=>DH hpok hEk hi' hi ht
   have hpu:∀t (x:Nat),(vsM n E (nI bk))[i]=((x:Nat):Int)->∀ht:t<row.length,iP n E bk p.2 i (t+1) x=iP n E bk p.2 i t x++[phI bk row[t]]/\∀y,y≠x->iP n E bk p.2 i (t+1) y=iP n E bk p.2 i t y:=by
    subst hrow;intro t x hx ht;have:=AS (n:=n) (E:=E) (b:=bk) (outs:=p.2) (t:=t) hi' hx (by rw[fT hi];exact ht);simpa only[fT hi]using this
   have hnx:∀z,iP n E bk p.2 i row.length z=iP n E bk p.2 (i+1) 0 z:=by
    subst hrow;intro z;have:=AU (n:=n) (E:=E) (b:=bk) (outs:=p.2) i z;rwa [fT hi]at this
   have hil:=λt z=>Ea (n:=n) (E:=E) (b:=bk) (outs:=p.2) (i:=i) (t:=t) (z:=z) hrl;have hrw:row.length<=200:=hrow▸hrl _ (ar hi);rw[hrow]at s3;have l3:=s3.len;rw[ah]at l3;obtain⟨b4,o4,a4,r4,lb4⟩:=p3.at1 (cm (f:=eI) hi');have hvm:=ar hi';obtain⟨v1,v2⟩:=su hvm;obtain⟨x,hx⟩:∃x:Nat,(vsM n E (nI bk))[i]=((x:Nat):Int):=⟨((vsM n E (nI bk))[i]).toNat,om⟩
   rw[hx]at r4 v1 v2;have hxn:x<n:=om;have r34:ai h4 b3 o3 1=some [rv]:=by rw[bi (x4.gt _ lb3)];exact r3
   refine ae (ak (M4 ei e33 a3 r34) ?_);refine ae (ak (M1 l3) ?_)
   refine fi (α:=List AV) (N:=row.length) (λ_ _=>[(0,.ptr jb 0),(5,.ptr h2.next 0),(6,.int .i64 (i:Nat)),(19,pv),(20,.int .i64 (B.length:Nat)),(21,.int .i64 (k:Nat)),(33,uv),(34,.int .i64 (p.2.length:Nat)),(35,.int .i64 (i:Nat)),(40,rv)])
    (λt vs h'=>Kp (λc=>c=h.next) h1 h'/\h'.get h.next=some (.cells vs 1 false)/\vs.length=n/\Rw h' h1.next vs (jH n λz=>jU n E B ps k z++iP n E bk p.2 i t z)/\h2.next<h'.next /\
     h'.get h2.next=some (.cells [.int .i64 ((vsM n E (nI bk)).length:Nat),xe,xn,xu] 4 false)/\∀(j b m:Nat),vs[j]?=some (AV.sl b 0 m m)->b≠h2.next) vs (λ_ _=>rfl) om (H8 ei en e0 e5 e19 e20 e21 e33)
    ⟨jk,jo,jl,jr,jn,jp,jd⟩ ?_ ?_
   .clear ei en e0 e5 e19 e20 e21 e33 jk jo jl jr jn jp jd;rintro t vs ts h5 ht ⟨jk,jo,jl,jr,jn,jp,jd⟩ ⟨ei,en,e0,e5,e6,e19,e20,e21,e33,e34,e35,e40,-⟩;simp only at ei en e0 e5 e6 e19 e20 e21 e33 e34 e35 e40 jo jl jr jp jd;have x5:=keepB jk;obtain⟨j,hj,hjb2⟩:=hnum t ht;obtain⟨q1,q2⟩:=hpu t x hx ht;rw[hj]at q1;rw[HI hjb2]at q1;obtain⟨b5,o5,a5,r5,lb5⟩:=s3.at1 (cm (f:=eI) ht);rw[hj]at r5;have r55:ai h5 b5 o5 1=some [.int .i64 (j:Nat)]:=by rw[bi (x5.gt _ lb5)];exact r5
    refine ae (ak (M4 ei e40 a5 r55) ?_);obtain⟨b6,o6,a6,r6,lb6⟩:=p4.at1 (cm (f:=eI) (show j<(nI bk).length by rw[fj];exact hjb2));generalize (nI bk)[j]'(by rw[fj];exact hjb2)=w at *
    have n5:=jk.nx;obtain⟨X7,p7,n7,y7⟩:=fO (h:=h5) (o:=.cells [.int .i64 w] 1 false);have kg:∀c,c<h5.next->(h5.keep 1).get c=h5.get c:=λc hc=>by rw[AH.keep_get,if_neg om]
    have q7:(h5.keep 1).get h5.next=some .resv:=ff;have gj5:h5.get jb=some (.cells [pv,qv,mv,ov,.sl h.next 0 n n] 5 false):=by rw[jk.gt _ om om];exact gj1
    have hR:Rw ((h5.keep 1).put h5.next (.cells [.int .i64 w] 1 false)) h1.next vs (jH n λz=>jU n E B ps k z++iP n E bk p.2 i t z):=jr.cong λc _ hc=>y7 _ hc;have hfl:=hbl x;have hfi:=hil t x;obtain⟨va,va',h8,s1,s2',s3',s4,s5,s6,s7,s8⟩:=hR.push (i:=x) (x:=h5.next) (k:=w) (zZ hxn) om p7 om (λj b n q=>by have:=(jr.lt q).1;omega) (by rw[aJ];omega);rw[wJ (g:=λz=>jU n E B ps k z++iP n E bk p.2 i (t+1) z) hxn (by simp only[q1,bL]) (λy hy=>by simp only[q2 y hy])]at s5;have ix:fe ((x:Nat):Int) n=some x:=cK hxn;have v1:ai (h5.keep 1) jb 4 1=some [.sl h.next 0 n n]:=bq (by rw[kg _ om];exact gj5) rfl;have v2:ai (h5.keep 1) h2.next 2 1=some [xn]:=bq (by rw[kg _ om];exact jp) rfl;have v3:ai (h5.keep 1) h2.next 3 1=some [xu]:=bq (by rw[kg _ om];exact jp) rfl;have v4:ai (h5.keep 1) b4 o4 1=some [.int .i64 (x:Nat)]:=by rw[bi (kg _ (by have:=x5.nx;omega)),bi (x5.gt _ lb4)];exact r4
    have v5:ai (h5.keep 1) h.next x 1=some [va]:=bq (by rw[kg _ om];exact jo) s1;have v6:ai (h5.keep 1) b6 o6 1=some [.int .i64 w]:=by rw[bi (kg _ (by have:=x5.nx;omega)),bi (x5.gt _ lb6)];exact r6
    have lw:∀c,c<h1.next->h8.get c=h5.get c:=λc hc=>by rw[s6.gt _ hc,y7 _ om]
    have gp8:=s8 h2.next om jd;have d1:h8.get jb=some (.cells [pv,qv,mv,ov,.sl h.next 0 n n] 5 false):=by rw[lw _ om];exact gj5
    have d2:h8.get h.next=some (.cells vs 1 false):=by rw[lw _ om];exact jo
    have d3:h8.get h2.next=some (.cells [.int .i64 ((vsM n E (nI bk)).length:Nat),xe,xn,xu] 4 false):=by rw[gp8.1,y7 _ jn];exact jp
    have f1:ai h8 jb 4 1=some [.sl h.next 0 n n]:=bq d1 rfl;have f2:ai h8 h2.next 2 1=some [xn]:=bq d3 rfl;have f3:ai h8 b4 o4 1=some [.int .i64 (x:Nat)]:=by rw[bi (lw _ (by have:=xB1.nx;omega)),bi (x5.gt _ lb4)];exact r4
    have f5:=ew (v:=va') d2 (show x<vs.length by omega);have u9:=Oi (o:=.cells (vs.set x va') 1 false) d2;refine lY (by simp only[am,aL,simprocAttr,e0,e5,e6,v1,v2,v3,v4,v5,v6,a4,a6,eA,dR q7,ix,aP,s2',s3',s4,f1,f2,f3,f5,sn,lf]<;>rfl) ?_;refine⟨vs.set x va',⟨?_,u9.get,by rw[cx];exact jl,s5.cong λc hc _=>u9.ne om,by rw[u9.nx,s7,n7];omega,by rw[u9.ne om];exact d3,gp8.2⟩,H12 ei en e0 e5 e6 e19 e20 e21 e33 e34 e35 e40⟩;refine⟨by rw[u9.nx,s7,n7];omega,λc hc hne=>?_,λc hc=>?_⟩
    .rw[u9.ne hne,lw _ hc];exact jk.gt c hc hne
    .rw[u9.ty,s6.ty _ om,X7.ty _ om];exact jk.ty c hc
   .clear ei en e0 e5 e19 e20 e21 e33 jk jo jl jr jn jp jd;rintro vs ts h5 ⟨jk,jo,jl,jr,jn,jp,jd⟩ ⟨e0,e5,e6,e19,e20,e21,e33,e34,e35,e40,-⟩;simp only at e0 e5 e6 e19 e20 e21 e33 e34 e35 e40 jo jl jr jp jd;rw[jG λz=>by rw[hnx]]at jr;exact⟨vs,⟨jk,jo,jl,jr,jn,jp,jd⟩,H8 e34 e35 e0 e5 e19 e20 e21 e33⟩
  .clear ei en e0 e19 jk jo jr jk3 gj3 rq r23;rintro vs ts h4 ⟨jk,jo,jl,jr,jn,jp,jd⟩ ⟨e0,e5,e19,e20,e21,e33,-⟩;simp only at e0 e5 e19 e20 e21 e33 jo jl jr jp jd;rw[hul,jG hbn]at jr;exact⟨vs,⟨jk,jo,jl,jr⟩,H4 e0 e19 e20 e21⟩
 .rintro vs ts h2 ⟨jk,jo,jl,jr⟩ _;rw[BC]at jr;have n2:=jk.nx;refine⟨_,rfl,⟨om,λc hc hne=>?_,λc hc=>?_⟩,h.next,vs,?_,ab _,jo,jl,?_⟩
  .rw[jk.gt c om om,u1.ne hne,xm.gt _ hc]
  .rw[jk.ty c om,u1.ty,xm.ty _ hc]
  .rw[jk.gt _ om om];exact gj1
  .exact⟨jr.1,λi v xs q1 q2=>(jr.2.1 i v xs q1 q2).mono om,jr.2.2⟩
open Go.Am
open Go.Blk (Gr Lst canon IsBlock)
def yS{α β:Type}(g:α->List β)(l:List α)(k:Nat):((l.take k).flatMap g).length<=(l.flatMap g).length:=by
 conv=>rhs;rw[<-cH k l,br,aJ]
 omega
def Ef{α β:Type}(g:α->List β){l:List α}{k:Nat}(hk:k<l.length):(l.take (k+1)).flatMap g=(l.take k).flatMap g++g l[k]:=by
 rw[aI hk,br,bH,eY,bF]
def mj(J:Go.Jn.Blks)(x:Nat):List Nat:=(List.range J.nB).filter λk=>J.src k==x
def Mo(J:Go.Jn.Blks)(x:Nat):J.ch x=(mj J x).flatMap J.ord:=by
 unfold Go.Jn.Blks.ch mj;generalize List.range J.nB=l;induction l with
 |nil=>rfl
 |cons k l ih =>
   rw[bH,fx,ih];by_cases e:J.src k=x
   .rw[if_pos e,if_pos (by simpa using e),bH]
   .rw[if_neg e,if_neg (by simpa using e),cr]
def Dp{J:Go.Jn.Blks}{hd rank:Nat->Nat}{M:Nat}(g:Go.Jn.Good J m hd rank M)(x:Nat):J.W (M+1) x=x::(mj J x).flatMap λk=>(J.ord k).flatMap (J.W (M+1)):=by
 rw[Go.Jn.W_eq g,Mo,Ds]
section
variable {n:Nat}{E:List (Int×Int)}{B:List (List Nat)}{ps:List (List Int×List (List Int))}{rank:Nat->Nat}{M:Nat}
def wOf(n:Nat)(E:List (Int×Int))(B:List (List Nat))(ps:List (List Int×List (List Int)))(M:Nat)(b:List Nat)(x y:Nat):List Nat:=if nmV n E b y=x then []else(jB n E B ps).W (M+1) (nmV n E b y)
def Dx(jk:JK n E B ps rank M){k x:Nat}(hk:k<B.length)(hx:(jB n E B ps).src k=x) :
 ∃y0 q,(ps.getD k ([],[])).1=(y0::q).map (λy=>((y:Nat):Int))/\nmV n E B[k] y0=x/\(jB n E B ps).ord k=q.map (nmV n E B[k])/\(∀y∈y0::q,y<(vsM n E (nI B[k])).length)/\(∀y∈q,nmV n E B[k] y≠x/\nmV n E B[k] y∈(jB n E B ps).ch x) /\
   (y0::q).flatMap (wOf n E B ps M B[k] x)=((jB n E B ps).ord k).flatMap ((jB n E B ps).W (M+1)):=by
 obtain⟨y0,q,e1,e2,e3,e4,_⟩:=jk.src k hk;have hq:∀y∈q,nmV n E B[k] y≠x/\nmV n E B[k] y∈(jB n E B ps).ch x:=λy hy=>by
  have hm:nmV n E B[k] y∈(jB n E B ps).ord k:=by rw[e3];exact List.mem_map_of_mem hy
  refine⟨λe=>?_,Go.Jn.mem_ch.2 ⟨k,hk,hx,hm⟩⟩;have:=(jk.good.rk k hk _ hm).1;rw[e,hx]at this;omega
 refine⟨y0,q,e1,by rw[<-hx,e2],e3,e4,hq,?_⟩;have h0:wOf n E B ps M B[k] x y0=[]:=if_pos (by rw[<-hx,e2]);rw[bH,h0,cr,e3,Ki];have:∀l:List Nat,(∀y∈l,nmV n E B[k] y≠x)->l.flatMap (wOf n E B ps M B[k] x)=l.flatMap λy=>(jB n E B ps).W (M+1) (nmV n E B[k] y):=λl=>by
  induction l with
  |nil=>intro _;rfl
  |cons y l ih =>
    intro hl;rw[bH,bH,ih λz hz=>hl z (aN _ hz)];congr 1;exact if_neg (hl y (aM ..))
 exact this q λy hy=>(hq y hy).1
end
structure JW(h0 h:AH)(jb mb:Nat)(pv qv uv:AV)(acc:List Nat):Prop where
 kp:Kp (λc=>c=jb) h0 h
 cell:∃ov,h.get jb=some (.cells [pv,qv,.mp mb,ov,uv] 5 false)/\IsSl h 1 h0.next ov (nC acc)
set_option maxHeartbeats 4000000 in
def Iz{hB h0:AH}{jb mb n lo lo2 c:Nat}{pv qv uv:AV}{E:List (Int×Int)}{B:List (List Nat)}{ps:List Pl2}{rank:Nat->Nat}{M:Nat}{es:List (AV×AV×Nat)}{ml:ML}(hxB:Ext hB.next hB h0)(hjb:hB.next<=jb)(hjl:jb<h0.next)(pl:PL hB lo pv (B.map (lL n E)))(qr:QR hB qv ps)
 (hmb:mb≠jb) (gm:h0.get mb=some (.mapo es c)) (mp:MapL h0 lo2 es c ml) (hlo:jb<lo2) (hml:∀x:Nat,lkL ml x=mj (jB n E B ps) x) (jk:JK n E B ps rank M) (hps:ps.length=B.length) (hol:∀p∈ps,p.1.length<=200) (hBl:B.length<=128) :
 ∀(x:Nat) {h:AH}{acc:List Nat},JW h0 h jb mb pv qv uv acc->acc.length+((jB n E B ps).W (M+1) x).length<=2^30->C prg 19 [.ptr jb 0,.int .i64 (x:Nat)] h λ_ h'=>JW h0 h' jb mb pv qv uv (acc++(jB n E B ps).W (M+1) x):=by
 intro x;refine Go.Jn.W_ind jk.good (P:=λx=>∀{h:AH}{acc:List Nat},JW h0 h jb mb pv qv uv acc->acc.length+((jB n E B ps).W (M+1) x).length<=2^30->C prg 19 [.ptr jb 0,.int .i64 (x:Nat)] h λ_ h'=>JW h0 h' jb mb pv qv uv (acc++(jB n E B ps).W (M+1) x)) ?_ x;clear x;intro x ih h acc hw hlen;have hmbl:=AH.lt_of_get gm;have hnB:=hxB.nx;have keepB:∀{h':AH},Kp (λc=>c=jb) h0 h'->Ext hB.next hB h':=fun {h'} q=>⟨by have:=q.nx;omega,λc hc=>(q.gt c om om).trans (hxB.gt c hc),λc hc=>(q.ty c om).trans (hxB.ty c hc)⟩
 obtain⟨kp,ov,gj,io⟩:=hw;rw[Dp jk.good]at hlen;rw[bd]at hlen;refine Oj rfl ?_;have hkn:=kp.nx;obtain⟨ov',h2,a2,i2,x2,n2⟩:=io.push (bytes:=8) [.int .i64 (x:Nat)] om om rfl rfl (by rw[oW,dN];unfold bf;omega) (by rw[oW,dN];unfold bf;omega);have r3:ai h jb 3 1=some [ov]:=bq gj rfl;have gj2:h2.get jb=some (.cells [pv,qv,.mp mb,ov,uv] 5 false):=by rw[x2.gt _ hjl];exact gj
 obtain⟨oc,oo⟩:=i2.cells;have w2:=ew (v:=ov') gj2 (i:=3) (by simp);change bP h2 jb 3 [ov']=some (h2.put jb (.cells [pv,qv,.mp mb,ov',uv] 5 false))at w2;have u2:=Oi (o:=.cells [pv,qv,.mp mb,ov',uv] 5 false) gj2;refine ae (ak (Mi5 r3 a2 oc oo w2) ?_);have W1:JW h0 (h2.put jb (.cells [pv,qv,.mp mb,ov',uv] 5 false)) jb mb pv qv uv (acc++[x]):=by
  refine⟨⟨by rw[u2.nx];omega,λc hc hne=>?_,λc hc=>?_⟩,ov',u2.get,?_⟩
  .rw[u2.ne hne,x2.gt _ hc];exact kp.gt c hc hne
  .rw[u2.ty,x2.ty _ hc];exact kp.ty c hc
  .rw[yz];exact i2.upd u2 hjl
 generalize h2.put jb (.cells [pv,qv,.mp mb,ov',uv] 5 false)=h3 at *
 clear u2 w2 gj2 r3 a2 i2 x2 n2 gj io kp;obtain⟨kp,ov3,gj3,io3⟩:=W1;have r2:ai h3 jb 2 1=some [.mp mb]:=bq gj3 rfl;obtain⟨v,lk,iv⟩:=mp.look gm x;have lk3:oX h3 .ki false .nils (.mp mb) (.int .i64 (x:Nat))=some v:=by rw[<-lk];exact DV (kp.gt _ hmbl hmb)
 rw[hml]at iv;have sv:∀{h':AH},Kp (λc=>c=jb) h0 h'->SlN h' v (mj (jB n E B ps) x):=fun {h'} q=>wZ (iv.cong λb m e hb=>q.gt b (iv.lt e) om);have lv:=(sv kp).len;rw[ah,ah]at lv;refine ae (ak (Mi3 r2 lk3 lv) ?_);rw[show acc++(jB n E B ps).W (M+1) x=(acc++[x])++(mj (jB n E B ps) x).flatMap λk=>((jB n E B ps).ord k).flatMap ((jB n E B ps).W (M+1)) by rw[Dp jk.good,bL];rfl];have hks:∀k∈mj (jB n E B ps) x,k<B.length/\(jB n E B ps).src k=x:=λk hk=>by
  unfold mj at hk;rw[bB,aX,beq_iff_eq]at hk;exact hk
 have hfl:(mj (jB n E B ps) x).length<=128:=by
  unfold mj;refine cu (cX _ _) ?_;rw[cw];exact hBl
 generalize mj (jB n E B ps) x=ks at *
 generalize hg:(λk=>((jB n E B ps).ord k).flatMap ((jB n E B ps).W (M+1)))=g at *
 refine fi (α:=Unit) (N:=ks.length) (λ_ _=>[(0,.ptr jb 0),(1,.int .i64 (x:Nat)),(25,v)]) (λa _ h'=>JW h0 h' jb mb pv qv uv ((acc++[x])++(ks.take a).flatMap g)) () (λ_ _=>rfl) om (Hi0)
  (by rw[eD,eY,bF];exact⟨kp,ov3,gj3,io3⟩) ?_ ?_
 .clear kp gj3 io3 r2 lk3;rintro a _ ts h4 ha w4 ⟨ei,en,e0,e1,e25,-⟩;simp only at ei en e0 e1 e25;have hk:=hks _ (ar ha);obtain⟨b1,o1,a1,q1,_⟩:=(sv w4.kp).at1 (cm (f:=eI) (show a<(ks.map λn=>((n:Nat):Int)).length by rw[ah];exact ha));rw[dz]at q1;refine ae (ak (M4 ei e25 a1 q1) ?_);have hsu:=Ef g ha;have hle:=yS g ks (a+1);rw[hsu,aJ]at hle;rw[hsu];generalize ks[a]=k at *
  obtain⟨hkB,hsrc⟩:=hk;obtain⟨y0,q,e1',e2',_,e4',e5',e6'⟩:=Dx (M:=M) jk hkB hsrc;have hgk:g k=(y0::q).flatMap (wOf n E B ps M B[k] x):=by rw[e6',<-hg]
  rw[hgk]at hle |-;have hkp:k<ps.length:=om;rw[fT hkp]at e1';obtain⟨b2,o2,av,_,a2,_,r2,_,s2,_,lb2⟩:=qr.at hkp;rw[e1']at s2;have hql:=hol _ (ar hkp);rw[e1',ah]at hql;have l2:=s2.len;rw[ah,ah]at l2;obtain⟨b3,o3,xs,a3,_,⟨_,_,p3,_⟩,lb3,ry⟩:=pl.at (i:=k) (by rw[ah];exact hkB);rw[dz]at p3;simp only[lL]at p3;have r3:=ry 2 _ rfl;have hin:∀y∈y0::q,nmV n E B[k] y≠x->nmV n E B[k] y∈(jB n E B ps).ch x:=λy hy hne=>(aF.1 hy).elim (λe=>absurd (e▸e2') hne) λh=>(e5' y h).2;clear e2' e5' e6' ry;generalize B[k]=bk at *
  generalize y0::q=os at *
  obtain⟨kp,ov,gj,io⟩:=w4;have r1:ai h4 jb 1 1=some [qv]:=bq gj rfl;have r24:ai h4 b2 o2 1=some [av]:=by rw[bi ((keepB kp).gt _ lb2)];exact r2
  refine ae (ak (M5 e0 r1 a2 r24 l2) ?_)
  refine fi (α:=Unit) (N:=os.length) (λ_ _=>[(0,.ptr jb 0),(1,.int .i64 (x:Nat)),(5,.int .i64 (k:Nat)),(25,v),(26,.int .i64 (ks.length:Nat)),(27,.int .i64 (a:Nat)),(38,av)])
   (λi _ h'=>JW h0 h' jb mb pv qv uv (((acc++[x])++(ks.take a).flatMap g)++(os.take i).flatMap (wOf n E B ps M bk x))) () (λ_ _=>rfl) om (H5 ei en e0 e1 e25)
   (by rw[eD,eY,bF];exact⟨kp,ov,gj,io⟩) ?_ ?_
  .clear ei en e0 e1 e25 kp gj io r1 r24;rintro i _ ts h5 hi w5 ⟨ei,en,e0,e1,e5,e25,e26,e27,e38,-⟩;simp only at ei en e0 e1 e5 e25 e26 e27 e38;have x5:=keepB w5.kp;have hil:i<(os.map λy=>((y:Nat):Int)).length:=by rw[ah];exact hi
   obtain⟨b4,o4,a4,q4,_⟩:=(s2.ext x5 (ab _)).at1 (cm (f:=eI) hil);rw[dz]at q4;refine ae (ak (M4 ei e38 a4 q4) ?_);have hmy:=ar hi;have hyl:=e4' _ hmy;have hyi:=hin _ hmy;have hsu2:=Ef (wOf n E B ps M bk x) hi;have hle2:=yS (wOf n E B ps M bk x) os (i+1);rw[hsu2,aJ]at hle2;rw[hsu2];generalize os[i]=y at *
   obtain⟨b5,o5,a5,q5,lb5⟩:=p3.at1 (cm (f:=eI) hyl);rw[<-wV hyl]at q5;have hgj:=w5.cell;obtain⟨ov5,gj5,_⟩:=hgj;have r05:ai h5 jb 0 1=some [pv]:=bq gj5 rfl;have r35:ai h5 b3 (o3+2) 1=some [xs.2.2.1]:=by rw[bi (x5.gt _ lb3)];exact r3
   have q55:ai h5 b5 o5 1=some [.int .i64 (nmV n E bk y:Nat)]:=by rw[bi (x5.gt _ lb5)];exact q5
   refine ae (ak (M7 e0 r05 e5 a3 r35 a5 q55) ?_);refine ae (ak (M1 e1) ?_);by_cases hx:nmV n E bk y=x
   .have hw0:wOf n E B ps M bk x y=[]:=if_pos hx;have c1:(((nmV n E bk y:Nat):Int) != ((x:Nat):Int))=false:=by rw[hx];simp
    have c2:decide (((nmV n E bk y:Nat):Int)=((x:Nat):Int))=true:=aH (by rw[hx]);refine dC (Z3 c1 c2 @dp) (bz ?_);refine⟨(),?_,H10 ei en e0 e1 e5 e25 e26 e27 e38 e38⟩;rw[hw0,bF];exact w5
   .have hw0:wOf n E B ps M bk x y=(jB n E B ps).W (M+1) (nmV n E bk y):=if_neg hx;have c1:(((nmV n E bk y:Nat):Int) != ((x:Nat):Int))=true:=by rw[bne_iff_ne];omega
    have c2:decide (((nmV n E bk y:Nat):Int)=((x:Nat):Int))=false:=aw om;refine cZ (by simp only[am,aL,simprocAttr,c1,c2,fI]) (bM ?_);have hyc:nmV n E bk y∈(jB n E B ps).ch x:=hyi hx;have:=ih _ hyc w5 (by rw[hw0]at hle2;simp only[aJ,bd,bm]at hle hle2 hlen |-;omega);refine bj 2 (M1 e0) rfl (Z1 e0) (M1 e0) (this) λr h6 w6=>?_;refine bI (M0) ?_;refine⟨(),?_,H10 ei en e0 e1 e5 e25 e26 e27 e38 e38⟩;rw[hw0,<-bL];exact w6
  .clear ei en e0 e1 e25 kp gj io r1 r24;rintro _ ts h5 w5 ⟨e0,e1,e5,e25,e26,e27,e38,-⟩;simp only at e0 e1 e5 e25 e26 e27 e38;refine⟨(),?_,H5 e26 e27 e0 e1 e25⟩;rw[bt]at w5;rw[<-bL];exact w5
 .rintro _ ts h5 w5 _;rw[bt]at w5;exact⟨_,rfl,w5⟩
end Go.Proofs.YtklpoimdclflmaaGreatDoor
