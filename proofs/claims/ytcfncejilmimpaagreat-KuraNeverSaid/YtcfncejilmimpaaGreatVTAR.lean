/- Edges of one of the two kinds have no dual; without any one -/
import Derived.Test.YtcfncejilmimpaaGreatVTAQ
set_option linter.all false
namespace Go.Pla
open Go.Blk (Gr)
open Go.Kur (atP smP finP finP_succ Srt Bel hds nb mem_hds mem_nb hds_nodup doc5 doc33 sideB)
variable {i x:Nat}{l' rest:List (Nat×Nat)}{p q:Nat×Nat}
def Pok(N:Nat)(l:List (Nat×Nat)):Prop:=∀p∈l,p.1<p.2/\p.2<N
theorem pok_at{N:Nat}{l:List (Nat×Nat)}(h:Pok N l)(hi:i<l.length):(l.getD i (0,0)).1<(l.getD i (0,0)).2/\(l.getD i (0,0)).2<N:=by
 rw[aj,ae hi];exact h _ (aR hi)
def gP(N:Nat)(l:List (Nat×Nat))(h:Pok N l):Gr where
 m:=l.length
 n:=N
 tl:=λi=>(l.getD i (0,0)).1
 hd:=λi=>(l.getD i (0,0)).2
 ok:=λi hi=>by
  have:=pok_at h hi;omega
def DP(N:Nat)(l:List (Nat×Nat)):Prop:=∃(h:Pok N l) (Φ:Type) (L R:Nat->Φ),Dual (gP N l h) (List.range l.length) L R
theorem Ll{l:List (Nat×Nat)}(h:l.Perm l'):∃f:Nat->Nat,(∀j,j<l'.length->f j<l.length/\l'.getD j (0,0)=l.getD (f j) (0,0))/\∀i j,i<l'.length->j<l'.length->f i=f j->i=j:=by
 induction h with
 |nil=>exact⟨λj=>j,λj hj=>absurd hj (eX _),λ_ _ _ _ h=>h⟩
 |cons x _ ih =>
   obtain⟨f,h1,h2⟩:=ih;refine⟨λj=>match j with|0=>0|j+1=>f j+1,λj hj=>?_,λi j hi hj e=>?_⟩
   .cases j with
    |zero=>exact⟨Nat.succ_pos _,rfl⟩
    |succ j =>
      have:=h1 j (by simpa using hj);exact⟨by simpa using this.1,by simpa using this.2⟩
   .cases i with
    |zero=>cases j with
      |zero=>rfl
      |succ j=>simp at e
    |succ i=>cases j with
      |zero=>simp at e
      |succ j=>rw[h2 i j (by simpa using hi) (by simpa using hj) (by simpa using e)]
 |swap x y l =>
   refine⟨λj=>match j with|0=>1|1=>0|j+2=>j+2,λj hj=>?_,λi j _ _ e=>?_⟩
   .match j with
    |0=>exact⟨by simp,rfl⟩
    |1=>exact⟨by simp,rfl⟩
    |j+2=>exact⟨by simpa using hj,rfl⟩
   .match i,j with
    |0,0=>rfl
    |0,1=>simp at e
    |0,j+2=>simp at e
    |1,0=>simp at e
    |1,1=>rfl
    |1,j+2=>simp at e
    |i+2,0=>simp at e
    |i+2,1=>simp at e
    |i+2,j+2=>simpa using e
 |trans _ _ ih1 ih2 =>
   obtain⟨f,f1,f2⟩:=ih1;obtain⟨k,k1,k2⟩:=ih2;refine⟨λj=>f (k j),λj hj=>?_,λi j hi hj e=>k2 i j hi hj (f2 _ _ (k1 i hi).1 (k1 j hj).1 e)⟩;obtain⟨a,b⟩:=k1 j hj;obtain⟨c,d⟩:=f1 _ a;exact⟨c,b.trans d⟩
theorem dp_perm{N:Nat}{l:List (Nat×Nat)}(hp:l.Perm l')(h:DP N l):DP N l':=by
 obtain⟨h0,h⟩:=h;have h1:Pok N l':=λp q=>h0 p (hp.mem_iff.2 q);obtain⟨f,f1,f2⟩:=Ll hp
 exact⟨h1,dual_pick (g:=gP N l h0) (g':=gP N l' h1) (f:=f) (ν:=λv=>v) (λj hj=>(f1 j hj).1) (λi j hi hj e=>f2 i j hi hj e) (λ_ _ _ _ e=>e)
  (λj hj=>⟨by show(l'.getD j (0,0)).1=_;rw[(f1 j hj).2];rfl,by show(l'.getD j (0,0)).2=_;rw[(f1 j hj).2];rfl⟩) h⟩
theorem gP_at{N:Nat}{l:List (Nat×Nat)}(h:Pok N l){v:Nat}:at_ (gP N l h) i v=(((l.getD i (0,0)).1==v)^^((l.getD i (0,0)).2==v)):=rfl
theorem tS{l:List (Nat×Nat)}{t:List (Nat×Nat)}(hi:i<l.length):(l++t).getD i (0,0)=l.getD i (0,0):=by
 rw[aj,bE hi,<-aj]
theorem xX{l:List (Nat×Nat)}{t:List (Nat×Nat)}{i:Nat}:(l++t).getD (l.length+i) (0,0)=t.getD i (0,0):=by
 rw[aj,bp om,Nat.add_sub_cancel_left,<-aj]
theorem sD(hr:∀p∈rest,atP x p=false)(hi:i<rest.length):((rest.getD i (0,0)).1==x)=false/\((rest.getD i (0,0)).2==x)=false:=by
 have:rest.getD i (0,0)∈rest:=by rw[aj,ae hi];exact aR _
 have:=hr _ this;unfold atP at this;rw[be]at this;rw[beq_eq_false_iff_ne,beq_eq_false_iff_ne];exact⟨λq=>this (.inl q),λq=>this (.inr q)⟩
theorem Cm(hp:p.1<p.2)(h:atP x p=true):p.1+p.2-x≠x/\(∀v,((p.1==v)^^(p.2==v))=((x==v)^^((p.1+p.2-x)==v)))/\(p.1+p.2-x=p.1\/p.1+p.2-x=p.2):=by
 unfold atP at h;rw[aN]at h;rcases h with h|h
 .have e:p.1+p.2-x=p.2:=om;rw[e];exact⟨om,λv=>by rw[h],.inr rfl⟩
 .have e:p.1+p.2-x=p.1:=om;rw[e];exact⟨om,λv=>by rw[h,kG],.inl rfl⟩
theorem II{N:Nat}(hr:∀r∈rest,atP x r=false)(hp:atP x p=true)(hq:atP x q=true)(hab:p.1+p.2-x≠q.1+q.2-x)(h:Pok N (rest++[p,q])) :
 Pok N (rest++[(min (p.1+p.2-x) (q.1+q.2-x),max (p.1+p.2-x) (q.1+q.2-x))])/\(DP N (rest++[p,q])↔DP N (rest++[(min (p.1+p.2-x) (q.1+q.2-x),max (p.1+p.2-x) (q.1+q.2-x))])):=by
 have hp0:=h p (by simp);have hq0:=h q (by simp);obtain⟨a1,a2,a3⟩:=Cm hp0.1 hp;obtain⟨b1,b2,b3⟩:=Cm hq0.1 hq;generalize p.1+p.2-x=a at *
 generalize q.1+q.2-x=b at *
 have h':Pok N (rest++[(min a b,max a b)]):=λr hm=>by
  rcases aC.1 hm with hm|hm
  .exact h r (aW _ hm)
  .rw[bI]at hm;subst hm;simp only;omega
 refine⟨h',?_⟩;have ee:∀v,(((min a b)==v)^^((max a b)==v))=((a==v)^^(b==v)):=λv=>by
  rcases Nat.le_total a b with z|z
  .rw[dK z,su z]
  .rw[jV z,uJ z,kG]
 have l1:(rest++[p,q]).length=(rest.length+1)+1:=by simp
 have l2:(rest++[(min a b,max a b)]).length=rest.length+1:=by simp
 have gp:(rest++[p,q]).getD rest.length (0,0)=p:=by have:=@xX rest [p,q] 0;simpa using this
 have gq:(rest++[p,q]).getD (rest.length+1) (0,0)=q:=by have:=@xX rest [p,q] 1;simpa using this
 have gc:(rest++[(min a b,max a b)]).getD rest.length (0,0)=(min a b,max a b):=by have:=@xX rest [(min a b,max a b)] 0;simpa using this
 have key:=Ct (g':=gP N _ h) (g:=gP N _ h') (m:=rest.length+1) (k:=rest.length) (x:=x) om (λe he hne v=>by
  rw[gP_at,gP_at,tS om,tS om]) (λv hv=>by
  have xv:(x==v)=false:=by rw[beq_eq_false_iff_ne];exact Ne.symm hv
  rw[gP_at,gP_at,gP_at,gp,gq,gc,a2,b2,xv,dv,dv];exact ee v) (λe he=>by
  rw[gP_at];by_cases z:e<rest.length
  .rw[tS z,(sD hr z).1,(sD hr z).2];rfl
  .obtain rfl:e=rest.length:=om;rw[gc];have e1:((min a b)==x)=false:=by rw[beq_eq_false_iff_ne];omega
   have e2:((max a b)==x)=false:=by rw[beq_eq_false_iff_ne];omega
   rw[e1,e2];rfl) (by
  rw[gP_at,gp,a2];have e1:(a==x)=false:=by rw[beq_eq_false_iff_ne];exact a1
  rw[e1];simp) (by
  rw[gP_at,gq,b2];have e1:(b==x)=false:=by rw[beq_eq_false_iff_ne];exact b1
  rw[e1];simp)
 constructor
 .rintro⟨_,d⟩;rw[l1]at d;have:=key.1 d;exact⟨h',by rw[l2];exact this⟩
 .rintro⟨_,d⟩;rw[l2]at d;have:=key.2 d;exact⟨h,by rw[l1];exact this⟩
theorem Dg{N:Nat}(hr:∀r∈rest,atP x r=false)(hq:atP x q=true)(h:Pok N (rest++[q]))(d:DP N rest):DP N (rest++[q]):=by
 obtain⟨h',d⟩:=d;obtain⟨b1,b2,_⟩:=Cm (h q (by simp)).1 hq;have l1:(rest++[q]).length=rest.length+1:=by simp
 have gq:(rest++[q]).getD rest.length (0,0)=q:=by have:=@xX rest [q] 0;simpa using this
 refine⟨h,?_⟩;rw[l1];refine(zP (m:=rest.length) (x:=x) (λe he=>?_) ?_).2 ?_
 .rw[gP_at,tS he,(sD hr he).1,(sD hr he).2];rfl
 .rw[gP_at,gq,b2];have e1:((q.1+q.2-x)==x)=false:=by rw[beq_eq_false_iff_ne];exact b1
  rw[e1];simp
 .obtain⟨Φ,L,R,d⟩:=d;exact⟨Φ,L,R,d.gr λe he v=>by rw[gP_at,gP_at,tS (aB.1 he)]⟩
def QP(N:Nat)(l:List (Nat×Nat)):Prop:=∀r∈l,DP N (l.erase r)
theorem KF{N:Nat}{l:List (Nat×Nat)}(hp:l.Perm l')(h:QP N l):QP N l':=λr hr=>dp_perm (hp.erase r) (h r (hp.mem_iff.2 hr))
theorem Ng{N:Nat}{c:Nat×Nat}(hr:∀r∈rest,atP x r=false)(hp:atP x p=true)(hq:atP x q=true)(hab:p.1+p.2-x≠q.1+q.2-x)(h:Pok N (rest++[p,q]))
 (hc:c=(min (p.1+p.2-x) (q.1+q.2-x),max (p.1+p.2-x) (q.1+q.2-x))) (H:QP N (rest++[c])):QP N (rest++[p,q]):=λr hm=>by
 by_cases hrr:r∈rest
 .rw[List.erase_append_left _ hrr];have h1:∀s∈rest.erase r,atP x s=false:=λs hs=>hr s (ju hs);have h2:Pok N (rest.erase r++[p,q]):=λs hs=>h s (by
   rcases aC.1 hs with hs|hs
   .exact aW _ (ju hs)
   .exact eR _ hs)
  refine(II h1 hp hq hab h2).2.2 ?_;have:=H r (aW _ hrr);rw[List.erase_append_left _ hrr,hc]at this;exact this
 .rw[List.erase_append_right _ hrr];have h0:DP N rest:=by
   have h1:=H c (by simp);have h2:(rest++[c]).Perm (c::rest):=jt;have h3:=h2.erase c;rw[nD]at h3;exact dp_perm h3 h1
  rcases aC.1 hm with hm|hm
  .exact absurd hm hrr
  by_cases e:r=p
  .subst e;rw[nD];exact Dg hr hq (λs hs=>h s (by
    rcases aC.1 hs with hs|hs
    .exact aW _ hs
    .exact eR _ (by simp at hs;simp[hs]))) h0
  .have e2:r=q:=by simpa[e]using hm
   subst e2;have:[p,r].erase r=[p]:=by rw[List.erase_cons_tail (by simpa using Ne.symm e),nD]
   rw[this];exact Dg hr hp (λs hs=>h s (by
    rcases aC.1 hs with hs|hs
    .exact aW _ hs
    .exact eR _ (by simp at hs;simp[hs]))) h0
theorem MO{N:Nat}{l:List (Nat×Nat)}(h:smP x l=some l')(hl:Pok N l):Pok N l'/\(DP N l↔DP N l')/\(QP N l'->QP N l):=by
 unfold smP at h;split at h
 .rename_i p q hf
  split at h
  .cases h
  .rename_i hab
   simp only[aa]at h;have hp:atP x p=true:=(aO.1 (show p∈l.filter (atP x) by rw[hf];simp)).2;have hq:atP x q=true:=(aO.1 (show q∈l.filter (atP x) by rw[hf];simp)).2;have hr:∀r∈l.filter (λp=>!atP x p),atP x r=false:=λr hr=>by
    have:=(aO.1 hr).2;simpa using this
   have hperm:(l.filter (λp=>!atP x p)++[p,q]).Perm l:=by
    rw[<-hf];exact List.perm_append_comm.trans (iC (atP x) l)
   have hk:Pok N (l.filter (λp=>!atP x p)++[p,q]):=λs hs=>hl s (hperm.mem_iff.1 hs);generalize l.filter (λp=>!atP x p)=rest at *
   obtain⟨k1,k2⟩:=II hr hp hq hab hk;subst h;exact⟨k1,⟨λd=>k2.1 (dp_perm hperm.symm d),λd=>dp_perm hperm (k2.2 d)⟩,λH=>KF hperm (Ng hr hp hq hab hk rfl H)⟩
 .simp only[aa]at h;subst h;exact⟨hl,Iff.rfl,λH=>H⟩
theorem finP_dp{N:Nat}{l:List (Nat×Nat)}(hl:Pok N l):∀{k:Nat}{l':List (Nat×Nat)},finP l k=some l'->Pok N l'/\(DP N l↔DP N l')/\(QP N l'->QP N l)
 |0,l',h=>by
   have:l'=l:=by
    unfold finP at h;simpa using h.symm
   subst this;exact⟨hl,Iff.rfl,λH=>H⟩
 |k+1,l',h=>by
   rw[finP_succ]at h;obtain⟨l1,h1,h2⟩:=fU.1 h;obtain⟨a1,a2,a3⟩:=finP_dp hl h1;obtain⟨b1,b2,b3⟩:=MO h2 a1;exact⟨b1,a2.trans b2,λH=>a3 (b3 H)⟩
open Go.Blk
section
variable {g:Gr}{B:List Nat}{Φ:Type}
theorem EC{c:Nat}{l r:Nat->Φ}(ev:∀X,Even g B X->∀e∈B,X e=true->c<=B.countP X)(d:Dual g B l r){k:Nat}{X:Nat->Nat->Bool}(hX:∀c,c<2^k->Even g B (X c))(hi:∀c c',c<2^k->c'<2^k->(∀e∈B,X c e=X c' e)->c=c')(hc:∀e∈B,∃c,c<2^k/\X c e=true)(hB:B≠[]):c*(k+1)<=2*B.length:=by
 classical
 have hlr:∀e∈B,l e≠r e:=λe he q=>by
  obtain⟨c,h1,h2⟩:=hc e he;obtain⟨S,hS⟩:=d.one _ (hX c h1);have:=hS e he;rw[h2,q]at this;simp at this
 obtain⟨D,nd,hD⟩:=tx (B.flatMap λe=>[l e,r e]);have hDm:∀x,x∈D↔∃e∈B,x=l e\/x=r e:=λx=>by rw[hD];simp
 have h3:∀x∈D,c<=B.countP λe=>(decide (l e=x)^^decide (r e=x)):=λx hx=>by
  obtain⟨e,he,hxe⟩:=(hDm x).1 hx;refine ev (λe=>(decide (l e=x)^^decide (r e=x))) (d.two λa=>decide (a=x)) e he ?_;have:=hlr e he;rcases hxe with rfl|rfl
  .simp[Ne.symm this]
  .simp[this]
 have hsum:=tG h3;rw[mc]at hsum;have hup:=sR (L:=B) (f:=λe=>D.countP λx=>(decide (l e=x)^^decide (r e=x))) (c:=2) λe he=>by
  have h1:=oE nd (x:=l e);have h2:=oE nd (x:=r e);have:∀(D:List Φ),D.countP (λx=>(decide (l e=x)^^decide (r e=x)))<=D.countP (λx=>decide (l e=x))+D.countP λx=>decide (r e=x):=by
   intro D;induction D with
   |nil=>simp
   |cons y D ih =>
     rw[dN,dN,dN];generalize decide (l e=y)=u;generalize decide (r e=y)=v;cases u<;>cases v<;>simp<;>omega
  have:=this D;omega
 obtain⟨e0,he0⟩:=ql B hB;obtain⟨x0,D',hDD⟩:∃x0 D',D=x0::D':=dF λq=>by
  have:=(hDm (l e0)).2 ⟨e0,he0,.inl rfl⟩;rw[q]at this;simp at this
 have hS:∀c,∃S:Φ->Bool,c<2^k->S x0=false/\∀e∈B,X c e=(S (l e)^^S (r e)):=λc=>by
  by_cases h:c<2^k
  .obtain⟨S,hS⟩:=d.one _ (hX c h);refine⟨λa=>S a^^S x0,λ_=>⟨by simp,λe he=>?_⟩⟩;rw[hS e he];dsimp only;cases S (l e)<;>cases S (r e)<;>cases S x0<;>rfl
  .exact⟨λ_=>false,λh'=>absurd h' h⟩
 obtain⟨S,hS⟩:∃S:Nat->Φ->Bool,∀c,c<2^k->S c x0=false/\∀e∈B,X c e=(S c (l e)^^S c (r e)):=⟨λc=>Classical.choose (hS c),λc=>Classical.choose_spec (hS c)⟩
 have ndc:((List.range (2^k)).map λc=>cod (S c) D').Nodup:=by
  rw[List.Nodup,dR];refine List.Pairwise.imp_of_mem ?_ (aY (n:=2^k));intro a b ha hb hab he;rw[aB]at ha hb;have heq:=qf he;refine hab (hi a b ha hb λe he=>?_);have hon:∀x∈D,S a x=S b x:=λx hx=>by
   rw[hDD]at hx;rcases aw.1 hx with rfl|hx
   .rw[(hS a ha).1,(hS b hb).1]
   .exact heq x hx
  rw[(hS a ha).2 e he,(hS b hb).2 e he,hon _ ((hDm _).2 ⟨e,he,.inl rfl⟩),hon _ ((hDm _).2 ⟨e,he,.inr rfl⟩)]
 have hle:=nd_lt ndc (n:=2^D'.length) λx hx=>by
  obtain⟨c,_,rfl⟩:=bh.1 hx;exact ut
 rw[ah,bH]at hle;have hkd:k<=D'.length:=(Nat.pow_le_pow_iff_right om).1 hle;have hDl:D.length=D'.length+1:=by rw[hDD];rfl
 have:c*(k+1)<=D.length*c:=by rw[Nat.mul_comm];exact fP c om
 omega
end
theorem Nu{g:Gr}{c:Nat}{Φ:Type}{l r:Nat->Φ}(hc:∀X,Even g (List.range g.m) X->∀e,e<g.m->X e=true->c<=(List.range g.m).countP X){k:Nat}(hk:k+(g.n-1)=g.m)(hk2:1<=k)(d:Dual g (List.range g.m) l r):c*(k+1)<=2*g.m:=by
 obtain⟨w,hw⟩:=MC (N:=2^g.m) (K:=2^(g.n-1)) (M:=2^k) (f:=λc=>cod (λv=>par (List.range g.m) λe=>c.testBit e&&at_ g e v) (List.range (g.n-1)))
  (λc _=>by have:=ut (S:=λv=>par (List.range g.m) λe=>c.testBit e&&at_ g e v) (D:=List.range (g.n-1));rwa [bH]at this)
  (by rw[<-Nat.pow_add,<-hk];exact Nat.le_of_eq (by congr 1;omega)) (uI _) (uI _)
 rw[cW]at hw;have hF:∀c,c∈(List.range (2^g.m)).filter (λc=>cod (λv=>par (List.range g.m) λe=>c.testBit e&&at_ g e v) (List.range (g.n-1))==w)->c<2^g.m/\cod (λv=>par (List.range g.m) λe=>c.testBit e&&at_ g e v) (List.range (g.n-1))=w:=λc hc=>by
  rw[aO,aB,beq_iff_eq]at hc;exact hc
 have ndF:((List.range (2^g.m)).filter (λc=>cod (λv=>par (List.range g.m) λe=>c.testBit e&&at_ g e v) (List.range (g.n-1))==w)).Nodup:=List.nodup_range.filter _;generalize (List.range (2^g.m)).filter (λc=>cod (λv=>par (List.range g.m) λe=>c.testBit e&&at_ g e v) (List.range (g.n-1))==w)=F at hw hF ndF;have two:2<=2^k:=by
  have:=nz (n:=2) om (show 1<=k by omega);simpa using this
 have inF:∀i,i<2^k->F.getD i 0∈F:=λi hi=>by
  rw[aj,ae om];exact aR _
 have ev:∀i,i<2^k->Even g (List.range g.m) λe=>(F.getD i 0).testBit e^^(F.getD 0 0).testBit e:=λi hi=>zZ λv hv=>by
  have e1:=(hF _ (inF i hi)).2;have e2:=(hF _ (inF 0 om)).2;have:=qf (e1.trans e2.symm) v (aB.2 hv);rw[bq (q:=λe=>((F.getD i 0).testBit e&&at_ g e v)^^((F.getD 0 0).testBit e&&at_ g e v)) (λe _=>by
   cases (F.getD i 0).testBit e<;>cases (F.getD 0 0).testBit e<;>cases at_ g e v<;>rfl),dY,this,kD]
 have inj:∀i j,i<2^k->j<2^k->(∀e,e<g.m->(F.getD i 0).testBit e=(F.getD j 0).testBit e)->i=j:=λi j hi hj he=>by
  have hlt:∀c,c<2^k->∀e,g.m<=e->(F.getD c 0).testBit e=false:=λc hc e hem=>Nat.testBit_lt_two_pow (bQ (hF _ (inF c hc)).1 (nz om hem));have:F.getD i 0=F.getD j 0:=Nat.eq_of_testBit_eq λe=>by
   by_cases q:e<g.m
   .exact he e q
   .rw[hlt i hi e om,hlt j hj e om]
  rw[aj,aj,ae om,ae om]at this;exact(ng ndF).1 this
 have hB:∀e,e∈(List.range g.m).filter (λe=>(List.range (2^k)).any λi=>(F.getD i 0).testBit e^^(F.getD 0 0).testBit e)↔e<g.m/\∃i,i<2^k/\((F.getD i 0).testBit e^^(F.getD 0 0).testBit e)=true:=λe=>by
  rw[aO,aB,jW];simp only[aB]
 have ndB:((List.range g.m).filter (λe=>(List.range (2^k)).any λi=>(F.getD i 0).testBit e^^(F.getD 0 0).testBit e)).Nodup:=List.nodup_range.filter _;have lB:=cS (λe=>(List.range (2^k)).any λi=>(F.getD i 0).testBit e^^(F.getD 0 0).testBit e) (List.range g.m);rw[bH]at lB;generalize (List.range g.m).filter (λe=>(List.range (2^k)).any λi=>(F.getD i 0).testBit e^^(F.getD 0 0).testBit e)=B at hB ndB lB;have sB:∀e∈B,e∈List.range g.m:=λe he=>aB.2 ((hB e).1 he).1;have out:∀i,i<2^k->∀e,e<g.m->e∉B->((F.getD i 0).testBit e^^(F.getD 0 0).testBit e)=false:=λi hi e he hn=>by
  cases q:((F.getD i 0).testBit e^^(F.getD 0 0).testBit e)with
  |false=>rfl
  |true=>exact absurd ((hB e).2 ⟨he,i,hi,q⟩) hn
 obtain⟨l',r',d'⟩:=sub_dual aY ndB sB d;have hcB:∀X,Even g B X->∀e∈B,X e=true->c<=B.countP X:=λX hX e he hXe=>by
  have h1:=hc (λe=>X e&&decide (e∈B)) ((jT aY ndB sB λe _ hn=>by simp[hn]).2 (hX.congr λe he=>by simp[he])) e ((hB e).1 he).1 (by simp[hXe,he]);refine bZ h1 ?_;rw[cW,cW];refine ou (List.nodup_range.filter _) λx hx=>?_;have:=(aO.1 hx).2;simp only[aK,aN]at this;exact aO.2 ⟨this.2,this.1⟩
 have same:∀i j,i<2^k->j<2^k->(∀e∈B,((F.getD i 0).testBit e^^(F.getD 0 0).testBit e)=((F.getD j 0).testBit e^^(F.getD 0 0).testBit e))->i=j:=λi j hi hj he=>inj i j hi hj λe hem=>by
  by_cases q:e∈B
  .have:=he e q;revert this;cases (F.getD i 0).testBit e<;>cases (F.getD j 0).testBit e<;>cases (F.getD 0 0).testBit e<;>simp
  .have a:=out i hi e hem q;have b:=out j hj e hem q;revert a b;cases (F.getD i 0).testBit e<;>cases (F.getD j 0).testBit e<;>cases (F.getD 0 0).testBit e<;>simp
 have fin:=EC hcB d' (k:=k) (X:=λi e=>(F.getD i 0).testBit e^^(F.getD 0 0).testBit e) (λi hi=>(jT aY ndB sB (λe he hn=>out i hi e (aB.1 he) hn)).1 (ev i hi)) same
  (λe he=>((hB e).1 he).2) (λhnil=>by
   have:=same 0 1 om om λe he=>by rw[hnil]at he;simp at he
   omega)
 exact bZ fin (Nat.mul_le_mul_left 2 lB)
open Go.Blk (Gr)
open Go.Kur (atP smP finP finP_succ Srt Bel hds nb mem_hds mem_nb hds_nodup doc5 doc33 sideB)
theorem jL{W:List Nat}{x y:Nat}(hx:x∈W)(hy:y∈W)(h:ixo W x=ixo W y):x=y:=by
 have h1:=(mL hx).2;have h2:=(mL hy).2;rw[h]at h1;omega
def gW'(W:List Nat)(l:List (Nat×Nat))(h:∀p∈l,p.1<p.2/\p.1∈W/\p.2∈W):Gr where
 m:=l.length
 n:=W.length
 tl:=λi=>ixo W (l.getD i (0,0)).1
 hd:=λi=>ixo W (l.getD i (0,0)).2
 ok:=λi hi=>by
  have hm:l.getD i (0,0)∈l:=by rw[aj,ae hi];exact aR _
  obtain⟨a,b,c⟩:=h _ hm;exact⟨(mL b).1,(mL c).1,λe=>by have:=jL b c e;omega⟩
theorem Ai{N:Nat}{l:List (Nat×Nat)}{W:List Nat}(h:∀p∈l,p.1<p.2/\p.1∈W/\p.2∈W)(d:DP N l):∃(Φ:Type) (L R:Nat->Φ),Dual (gW' W l h) (List.range l.length) L R:=by
 obtain⟨h0,d⟩:=d;have hm:∀{i},i<l.length->l.getD i (0,0)∈l:=λhi=>by rw[aj,ae hi];exact aR _
 exact dual_pick (g:=gP N l h0) (g':=gW' W l h) (f:=λj=>j) (ν:=λu=>if u∈W then ixo W u else W.length+u) (λj hj=>hj) (λ_ _ _ _ e=>e) (λu v _ _ e=>by
  by_cases hu:u∈W
  .by_cases hv:v∈W
   .rw[if_pos hu,if_pos hv]at e;exact jL hu hv e
   .rw[if_pos hu,if_neg hv]at e;have:=(mL hu).1;omega
  .by_cases hv:v∈W
   .rw[if_neg hu,if_pos hv]at e;have:=(mL hv).1;omega
   .rw[if_neg hu,if_neg hv]at e;omega) (λj hj=>⟨(if_pos (h _ (hm hj)).2.1).symm,(if_pos (h _ (hm hj)).2.2).symm⟩) d
theorem vw{l:List (Nat×Nat)}{W:List Nat}(h:∀p∈l,p.1<p.2/\p.1∈W/\p.2∈W)(nd:l.Nodup):Pln (gW' W l h) (List.range l.length) where
 nd:=aY
 lt:=λe he=>aB.1 he
 one:=λe he k hk x y h1 h2=>by
  have he:=aB.1 he;have hk:=aB.1 hk;have me:l.getD e (0,0)∈l:=by rw[aj,ae he];exact aR _
  have mk:l.getD k (0,0)∈l:=by rw[aj,ae hk];exact aR _
  obtain⟨a1,a2,a3⟩:=h _ me;obtain⟨b1,b2,b3⟩:=h _ mk;rw[jn_iff]at h1 h2;have h1:(ixo W (l.getD e (0,0)).1=x/\ixo W (l.getD e (0,0)).2=y)\/(ixo W (l.getD e (0,0)).1=y/\ixo W (l.getD e (0,0)).2=x):=h1;have h2:(ixo W (l.getD k (0,0)).1=x/\ixo W (l.getD k (0,0)).2=y)\/(ixo W (l.getD k (0,0)).1=y/\ixo W (l.getD k (0,0)).2=x):=h2;have key:l.getD e (0,0)=l.getD k (0,0):=by
   have:((l.getD e (0,0)).1=(l.getD k (0,0)).1/\(l.getD e (0,0)).2=(l.getD k (0,0)).2)\/((l.getD e (0,0)).1=(l.getD k (0,0)).2/\(l.getD e (0,0)).2=(l.getD k (0,0)).1):=by
    rcases h1 with⟨u1,u2⟩|⟨u1,u2⟩<;>rcases h2 with⟨w1,w2⟩|⟨w1,w2⟩
    .exact .inl ⟨jL a2 b2 (u1.trans w1.symm),jL a3 b3 (u2.trans w2.symm)⟩
    .exact .inr ⟨jL a2 b3 (u1.trans w2.symm),jL a3 b2 (u2.trans w1.symm)⟩
    .exact .inr ⟨jL a2 b3 (u1.trans w2.symm),jL a3 b2 (u2.trans w1.symm)⟩
    .exact .inl ⟨jL a2 b2 (u1.trans w1.symm),jL a3 b3 (u2.trans w2.symm)⟩
   rcases this with⟨q1,q2⟩|⟨q1,q2⟩
   .exact Prod.ext q1 q2
   .omega
  rw[aj,aj,ae he,ae hk]at key;exact(ng nd).1 key
theorem EZ{g:Gr}{B:List Nat}(p:Pln g B){s:Nat->Bool}(hs:∀e∈B,s (g.tl e)≠s (g.hd e)){X:Nat->Bool}(hX:Even g B X){e:Nat}(he:e∈B)(hXe:X e=true):4<=B.countP X:=by
 have oth:∀{k v},k∈B->at_ g k v=true->∃w,Ends g k v w/\s v≠s w:=fun {k v} hk h=>by
  have:=(at_inc (p.lt k hk)).1 h;rcases this.2 with q|q
  .exact⟨g.hd k,.inl ⟨q,rfl⟩,q▸hs k hk⟩
  .exact⟨g.tl k,.inr ⟨rfl,q⟩,q▸Ne.symm (hs k hk)⟩
 have one:∀{k j v w},k∈B->j∈B->Ends g k v w->Ends g j v w->k=j:=fun {k j v w} hk hj h h'=>p.one k hk j hj v w (jn_iff.2 h) (jn_iff.2 h');have swp:∀{k v w},Ends g k v w->Ends g k w v:=λh=>h.symm;have e0:Ends g e (g.tl e) (g.hd e):=.inl ⟨rfl,rfl⟩;obtain⟨a,ha⟩:∃a,a=g.tl e:=⟨_,rfl⟩
 obtain⟨b,hb⟩:∃b,b=g.hd e:=⟨_,rfl⟩
 have sab:=hs e he;rw[<-ha,<-hb]at e0 sab;have ata:at_ g e a=true:=by rw[e0.at];have:(b==a)=false:=by { rw[beq_eq_false_iff_ne];rintro rfl;exact sab rfl};rw[this];simp
 have atb:at_ g e b=true:=by rw[e0.at];have:(a==b)=false:=by { rw[beq_eq_false_iff_ne];rintro rfl;exact sab rfl};rw[this];simp
 obtain⟨k1,hk1,n1,x1⟩:=nM p.nd (hX a) he (by simp[hXe,ata]);obtain⟨k2,hk2,n2,x2⟩:=nM p.nd (hX b) he (by simp[hXe,atb]);simp only[aK]at x1 x2;obtain⟨b1,E1,s1⟩:=oth hk1 x1.2;obtain⟨a2,E2,s2⟩:=oth hk2 x2.2;have nb1:b1≠b:=λq=>n1 (one hk1 he (q▸E1) e0);have at1:at_ g k1 b1=true:=by rw[E1.at];have:(a==b1)=false:=by { rw[beq_eq_false_iff_ne];rintro rfl;exact s1 rfl};rw[this];simp
 obtain⟨k3,hk3,n3,x3⟩:=nM p.nd (hX b1) hk1 (by simp[x1.1,at1]);simp only[aK]at x3;have ends:∀{k v w u},Ends g k v w->at_ g k u=true->u=v\/u=w:=fun {k v w u} h h'=>by
  rw[h.at]at h';by_cases q1:v=u
  .exact .inl q1.symm
  .by_cases q2:w=u
   .exact .inr q2.symm
   .have z1:(v==u)=false:=by rw[beq_eq_false_iff_ne];exact q1
    have z2:(w==u)=false:=by rw[beq_eq_false_iff_ne];exact q2
    rw[z1,z2]at h';cases h'
 have h12:k1≠k2:=λq=>by
  subst q;rcases ends E1 x2.2 with z|z
  .exact sab (by rw[z])
  .exact nb1 z.symm
 have h3e:k3≠e:=λq=>by
  subst q;rcases ends e0 x3.2 with z|z
  .exact s1 (by rw[z])
  .exact nb1 z
 have h32:k3≠k2:=λq=>by
  subst q;rcases ends E2 x3.2 with z|z
  .exact nb1 z
  .subst z;revert sab s1 s2;cases s a<;>cases s b<;>cases s b1<;>simp
 rw[cW];refine ou (a:=[e,k1,k2,k3]) (by simp[Ne.symm n1,Ne.symm n2,h12,Ne.symm h3e,Ne.symm n3,Ne.symm h32]) λx hx=>?_;simp only[aw,aZ,or_false]at hx;rw[aO];rcases hx with rfl|rfl|rfl|rfl
 .exact⟨he,hXe⟩
 .exact⟨hk1,x1.1⟩
 .exact⟨hk2,x2.1⟩
 .exact⟨hk3,x3.1⟩
section
variable {N:Nat}{l:List (Nat×Nat)}
theorem CJ(hl:Pok N l):Bel N l:=λp hp=>by have:=hl p hp;omega
theorem Iq(hl:Pok N l):∀p∈l,p.1<p.2/\p.1∈hds N l/\p.2∈hds N l:=λp hp =>
 ⟨(hl p hp).1,(mem_hds (CJ hl)).2 ⟨p.2,mem_nb.2 (.inl hp)⟩,(mem_hds (CJ hl)).2 ⟨p.1,mem_nb.2 (.inr hp)⟩⟩
theorem vI(hl:Pok N l){r:Nat×Nat}:Pok N (l.erase r):=λp hp=>hl p (ju hp)
theorem five_dp(hl:Pok N l)(h:doc5 N l):¬DP N l/\QP N l:=by
 obtain⟨h1,h2,h3⟩:=h;have hin:=Iq hl;refine⟨λd=>?_,λr hr=>?_⟩
 .refine Lb (g:=gW' (hds N l) l hin) (vw hin h1) (by show 2<(hds N l).length;omega) (by show 3*(hds N l).length-6<l.length;omega) (Ai hin d)
 .have hk:=vI hl (r:=r);have hn:=h1.erase r;refine⟨hk,wF (g:=gP N (l.erase r) hk) (ab _) (by rw[gZ hr];omega) (λi j hi hj hv=>?_) (hds_nodup N l) h3 λe he=>?_⟩
  .have pi:=pok_at hk hi;have pj:=pok_at hk hj;have v1:=hv ((l.erase r).getD i (0,0)).1;have v2:=hv ((l.erase r).getD i (0,0)).2;rw[gP_at,gP_at]at v1 v2;have key:(l.erase r).getD i (0,0)=(l.erase r).getD j (0,0):=by
    generalize (l.erase r).getD i (0,0)=p at *
    generalize (l.erase r).getD j (0,0)=q at *
    have z1:(p.2==p.1)=false:=by rw[beq_eq_false_iff_ne];omega
    have z2:(p.1==p.2)=false:=by rw[beq_eq_false_iff_ne];omega
    rw[beq_self_eq_true,z1]at v1;rw[beq_self_eq_true,z2]at v2;have w1:q.1=p.1\/q.2=p.1:=by
     by_cases a:q.1=p.1
     .exact .inl a
     .by_cases b:q.2=p.1
      .exact .inr b
      .have y1:(q.1==p.1)=false:=by rw[beq_eq_false_iff_ne];exact a
       have y2:(q.2==p.1)=false:=by rw[beq_eq_false_iff_ne];exact b
       rw[y1,y2]at v1;cases v1
    have w2:q.1=p.2\/q.2=p.2:=by
     by_cases a:q.1=p.2
     .exact .inl a
     .by_cases b:q.2=p.2
      .exact .inr b
      .have y1:(q.1==p.2)=false:=by rw[beq_eq_false_iff_ne];exact a
       have y2:(q.2==p.2)=false:=by rw[beq_eq_false_iff_ne];exact b
       rw[y1,y2]at v2;cases v2
    exact Prod.ext om om
   rw[aj,aj,ae hi,ae hj]at key;exact(ng hn).1 key
  .have hm:(l.erase r).getD e (0,0)∈l.erase r:=by rw[aj,ae he];exact aR _
   exact(hin _ (ju hm)).2
theorem six_dp(hl:Pok N l)(h:doc33 N l):¬DP N l/\QP N l:=by
 obtain⟨h1,h2,h0,t,h3,h4,h5,h6⟩:=h;have hin:=Iq hl;have h7:(hds N l).length=6:=by rw[h3];simp[h4]
 refine⟨λd=>?_,λr hr=>?_⟩
 .obtain⟨Φ,L,R,d⟩:=Ai hin d;have hp:=vw hin h1;have:=Nu (g:=gW' (hds N l) l hin) (c:=4) (k:=4) (λX hX e he hXe=>EZ hp (s:=λi=>sideB l h0 ((hds N l).getD i 0)) (λe he=>?_) hX (aB.2 he) hXe) (by show 4+((hds N l).length-1)=l.length;omega) om d
  .have:4*(4+1)<=2*l.length:=this;omega
  .have he:=aB.1 he;have hm:l.getD e (0,0)∈l:=by rw[aj,ae he];exact aR _
   show sideB l h0 ((hds N l).getD (ixo (hds N l) (l.getD e (0,0)).1) 0)≠sideB l h0 ((hds N l).getD (ixo (hds N l) (l.getD e (0,0)).2) 0);rw[(mL (hin _ hm).2.1).2,(mL (hin _ hm).2.2).2];exact h5 _ hm
 .have hk:=vI hl (r:=r);exact⟨hk,pX _ (gP N (l.erase r) hk) rfl (by rw[gZ hr];omega)⟩
end
end Go.Pla
namespace Go.Proofs.YtcfncejilmimpaaGreat
open Go.Am
open Go.Am
open Go.Kur (Gr Wk)
open Go.Am
open Go.Kur (Gr Wk)
open Go.Am
open Go.Kur (Gr Wk)
open Go.Am
open Go.Kur (Gr Wk)
open Go.Am
open Go.Kur (Gr Wk)
variable {E:List (Int×Int)}{L:List Int}{h:AH}{h0 i k lo x:Nat}{n:Int}{p:Nat×Nat}{v:AV}
theorem mn2K{k:IntKind}{x y:Int}:jR mnA [.int k x,.int k y]=some (.int k (if y<x then y else x)):=by simp[jR,mnA]
def tlK(E:List (Int×Int))(i:Nat):Nat:=(E.getD i (0,0)).1.toNat
def hdK(E:List (Int×Int))(i:Nat):Nat:=(E.getD i (0,0)).2.toNat
def OkE(n:Int)(E:List (Int×Int))(i:Int):Prop:=0<=i/\i<(E.length:Nat)/\0<=(E.getD i.toNat (0,0)).1/\0<=(E.getD i.toNat (0,0)).2/\(E.getD i.toNat (0,0)).1<n/\(E.getD i.toNat (0,0)).2<n
def LayP(n:Int)(E:List (Int×Int))(L:List Int):Prop:=∀(k:Nat) (hk:k<L.length),OkE n E L[k]/\L[k]∉L.take k
def nLK(L:List Int):List Nat:=L.map Int.toNat
theorem LayP.nodup(h:LayP n E L):(nLK L).Nodup/\∀i∈L,OkE n E i:=by
 have h2:∀i∈L,OkE n E i:=λi hi=>by
  obtain⟨k,hk,rfl⟩:=ii hi;exact(h k hk).1
 refine⟨?_,h2⟩;unfold nLK;rw[List.Nodup,du];intro i j hi hj hij e;rw[ah]at hi hj;rw[iA,iA]at e;have a:=(h i hi).1.1;have b:=(h j hj).1.1;have e:L[i]=L[j]:=om;refine(h j hj).2 ?_;rw[<-e,jX];exact⟨i,om,rfl⟩
def grK(E:List (Int×Int))(L:List Int)(h:(nLK L).Nodup):Gr:=⟨tlK E,hdK E,nLK L,h⟩
open Go.Am
open Go.Kur
variable {g:Gr}{N:Nat}
def Ml(g:Gr)(N:Nat):Prop:=∀i∈g.E,g.tl i<N/\g.hd i<N
theorem Df(hb:Ml g N){e:Nat}(h:e∈g.ends x):x<N:=by
 obtain⟨h1,h2⟩:=zA.1 h;have:=hb e h1;omega
theorem wk_lt(hb:Ml g N){w:Kur.Way}(h:Wk g w.1 w.2.2 w.2.1):w.1<N/\w.2.1<N:=by
 obtain⟨e,_,h2⟩:=h.last;refine⟨?_,Df hb h2⟩;cases hq:w.2.2 with
 |nil=>exact absurd hq h.ne
 |cons a r =>
   rw[hq]at h;exact Df hb h.head
open Go.Am
open Go.Kur (Gr Wk)
theorem Jm(hp:LayP n E L):Ml (grK E L hp.nodup.1) n.toNat:=λi hi=>by
 obtain⟨z,hz,rfl⟩:=bh.1 hi;obtain⟨o1,o2,o3,o4,o5,o6⟩:=hp.nodup.2 z hz;exact⟨by show tlK E z.toNat<_;unfold tlK;omega,by show hdK E z.toNat<_;unfold hdK;omega⟩
open Go.Am
open Go.Kur
def pE(p:Nat×Nat):Int×Int:=(((p.1:Nat):Int),((p.2:Nat):Int))
def pC(l:List (Nat×Nat)):List AV:=(l.map pE).flatMap eE
def pr0(E:List (Int×Int))(i:Nat):Nat×Nat:=(min (tlK E i) (hdK E i),max (tlK E i) (hdK E i))
def l0(E:List (Int×Int))(L:List Int):List (Nat×Nat):=(nLK L).map (pr0 E)
def OkR(n:Int)(E:List (Int×Int))(i:Int):Prop:=OkE n E i/\(E.getD i.toNat (0,0)).1≠(E.getD i.toNat (0,0)).2
def LayR(n:Int)(E:List (Int×Int))(L:List Int):Prop:=∀(k:Nat) (hk:k<L.length),OkR n E L[k]/\L[k]∉L.take k
theorem LayR.lay(h:LayR n E L):LayP n E L:=λk hk=>⟨(h k hk).1.1,(h k hk).2⟩
theorem qE(l:List (Nat×Nat)):(pC l).length=l.length*2:=by
 unfold pC;rw[fJ (f:=eE) (e:=2) (λ_=>rfl),ah]
theorem Bp(a b:List (Nat×Nat)):pC (a++b)=pC a++pC b:=by
 unfold pC;rw[dm,da]
theorem tu{l:List (Nat×Nat)}(hv:IsSl h 2 lo v (pC l)):SlE h v (l.map pE):=IsSl.sl om (λ_=>rfl) hv
theorem Li(hk:k<L.length)(hi:L[k]=((i:Nat):Int)):l0 E (L.take (k+1))=l0 E (L.take k)++[pr0 E i]:=by
 unfold l0 nLK;rw[cj hk,dm,dm,hi];rfl
theorem JR{l l':List (Nat×Nat)}(h:smP x l=some l'):l'.length<=l.length:=by
 unfold smP at h;split at h
 .rename_i p q hf
  split at h
  .cases h
  .cases h;have:=zU l (atP x);rw[hf]at this;simp only[aA,aQ]at this;rw[aG,aA,aQ];omega
 .cases h;exact ab _
theorem zX{l l':List (Nat×Nat)}:∀{k:Nat},finP l k=some l'->l'.length<=l.length
 |0,h=>by
   cases h;exact ab _
 |k+1,h=>by
   rw[finP_succ]at h;obtain⟨m,h1,h2⟩:=fU.1 h;exact bZ (JR h2) (zX h1)
theorem BH{g:Gr}{N:Nat}(hb:Ml g N)(h0:NC (sh g)){l:List (Nat×Nat)}(h:finP ((sh g).map prW) k=some l):l=(ya g k).map prW/\NC (ya g k)/\Srt l/\Bel N l:=by
 rcases Ly h0 k with⟨q1,q2⟩|⟨q1,q2⟩
 .rw[q1]at h;cases h;have v:=zW (g:=g) k;refine⟨rfl,q2,λp hp=>?_,λp hp=>?_⟩
  .obtain⟨w,hw,rfl⟩:=bh.1 hp;have h1:=(v.wk w hw).2;have h2:=q2 w hw;unfold fK at h2;unfold prW;simp only;omega
  .obtain⟨w,hw,rfl⟩:=bh.1 hp;exact wk_lt hb (v.wk w hw).1
 .rw[q1]at h;cases h
def atI(l:List (Nat×Nat))(x k:Nat):List Nat:=(List.range k).filter λi=>atP x (l.getD i (0,0))
theorem rP(l:List (Nat×Nat)):(List.range l.length).map (λi=>l.getD i (0,0))=l:=by
 refine cY λi=>?_;rw[aF];by_cases hi:i<l.length
 .rw[ew hi,ae hi];simp[aj,ae hi]
 .rw[bA (by simp;omega),bA om];rfl
theorem Mh(l:List (Nat×Nat))(x:Nat):l.filter (atP x)=(atI l x l.length).map λi=>l.getD i (0,0):=by
 conv=>lhs;rw[<-rP l]
 rw[uK];rfl
theorem Jp(l:List (Nat×Nat))(x:Nat)(hk:k<l.length):atI l x (k+1)=if atP x l[k]then atI l x k++[k]else atI l x k:=by
 unfold atI;rw[dl,iM];have:l.getD k (0,0)=l[k]:=by simp[aj,ae hk]
 rw[iB,this];cases hq:atP x l[k]with
 |true=>rfl
 |false=>rw[if_neg (by simp),if_neg (by simp),List.filter_nil,cH]
def mg(l:List (Nat×Nat))(i j k:Nat):List (Nat×Nat):=((List.range k).filter λm=>decide (m≠i)&&decide (m≠j)).map λm=>l.getD m (0,0)
theorem Em{l:List (Nat×Nat)}{j:Nat}(h:atI l x l.length=[i,j]):mg l i j l.length=l.filter λp=>!atP x p:=by
 conv=>rhs;rw[<-rP l]
 rw[uK];unfold mg;congr 1;refine FN λm hm=>?_;have hm':m∈atI l x l.length↔atP x (l.getD m (0,0))=true:=by
  unfold atI;rw[aO];exact⟨λq=>q.2,λq=>⟨hm,q⟩⟩
 rw[h]at hm';simp only[aw,aZ,or_false]at hm';rw[dp];simp only[aK,aN,Function.comp,dT];cases hq:atP x (l.getD m (0,0))with
 |true =>
   have:=hm'.2 hq;constructor
   .rintro⟨a,b⟩;rcases this with e|e
    .exact absurd e a
    .exact absurd e b
   .intro e;cases e
 |false =>
   refine⟨λ_=>rfl,λ_=>⟨λe=>?_,λe=>?_⟩⟩
   .have:=hm'.1 (.inl e);rw[hq]at this;cases this
   .have:=hm'.1 (.inr e);rw[hq]at this;cases this
theorem AZ(l:List (Nat×Nat))(i j:Nat)(hk:k<l.length):mg l i j (k+1)=if k≠i/\k≠j then mg l i j k++[l[k]]else mg l i j k:=by
 unfold mg;rw[dl,iM,dm];have:l.getD k (0,0)=l[k]:=by simp[aj,ae hk]
 by_cases h1:k=i<;>by_cases h2:k=j<;>simp[h1,h2]<;>(try simp_all)
theorem Jq{l:List (Nat×Nat)}(h:i∈atI l x k):i<k/\atP x (l.getD i (0,0))=true:=by
 unfold atI at h;obtain⟨a,b⟩:=aO.1 h;exact⟨aB.1 a,b⟩
theorem ET{l:List (Nat×Nat)}(h:finP l k=none):∀{m:Nat},k<=m->finP l m=none:=by
 intro m hm;induction m with
 |zero =>
   have:k=0:=om;subst this;exact h
 |succ m ih =>
   by_cases e:k=m+1
   .rw[<-e];exact h
   .rw[finP_succ,ih om];rfl
theorem NE(hR:LayR n E L):NC (sh (grK E L hR.lay.nodup.1)):=λw hw=>by
 obtain⟨i,hi,rfl⟩:=bh.1 hw;obtain⟨z,hz,rfl⟩:=bh.1 hi;obtain⟨k,hk,rfl⟩:=ii hz;obtain⟨⟨o1,o2⟩,_⟩:=hR k hk;obtain⟨_,_,o3,o4,_,_⟩:=o1;unfold fK;show ¬min (tlK E L[k].toNat) (hdK E L[k].toNat)=max (tlK E L[k].toNat) (hdK E L[k].toNat);unfold tlK hdK;omega
theorem NF{h:(nLK L).Nodup}:(sh (grK E L h)).map prW=l0 E L:=by
 unfold sh l0;rw[lZ];rfl
theorem push2{esz bytes:Nat}{cs:List AV}(new:List AV)(hv:IsSl h esz lo v cs)(hlo:lo<=h.next)(he:0<esz)(hn:new.length=esz)(ho:new.all AV.one=true)
 (hb:(cs.length/esz+1)*bytes<bd) (hc:cs.length/esz+1<bd):∃v' h',gI (h.new (.cells new esz false)) esz bytes v (.sl h.next 0 1 1)=some (v',h')/\IsSl h' esz lo v' (cs++new)/\Ext lo h h'/\h.next<=h'.next/\(∀c,c<h.next->(∀n,v≠.sl c 0 n n)->h'.get c=h.get c)/\∀c n,v'=.sl c 0 n n->h.next<c:=by
 obtain⟨v',h',h1,h2,h3,h4,h5,h6,_⟩:=(hv.ext (Og (o:=.cells new esz false) (ab _)) (ab _)).app (x:=h.next) (new:=new) (bytes:=bytes) (by simp;omega) he (by rw[AH.get_new];simp) hlo
  (λb n hbn=>by have:=hv.lt hbn;omega) hn ho hb hc
 refine⟨v',h',h1,h2,(Og hlo).trans h3,by simp at h5;omega,λc hcl hne=>?_,λc n e=>?_⟩
 .rw[h6 c (by simp;omega) λb n e e'=>hne n (by rw[e,e']),AH.get_new,if_neg om]
 .rw[h4]at e;cases e;simp
def lU(N:Nat)(l:List (Nat×Nat)):List AV:=(List.range N).map λv=>AV.int .i64 (((nb l v).length:Nat):Int)
theorem mz(N:Nat)(l:List (Nat×Nat)):(lU N l).length=N:=by simp[lU]
theorem oG{N:Nat}{l:List (Nat×Nat)}{v:Nat}(h:v<N):(lU N l)[v]?=some (AV.int .i64 (((nb l v).length:Nat):Int)):=by
 unfold lU;rw[aF,ew h];rfl
theorem sF(l:List (Nat×Nat))(p:Nat×Nat)(v:Nat):nb (l++[p]) v=nb l v++((if p.1=v then [p.2]else [])++(if p.2=v then [p.1]else [])):=by
 unfold nb;rw[da,cm,gf,cH]
theorem Fs{N:Nat}{l:List (Nat×Nat)}(hp:p.1<p.2)(h2:p.2<N) :
 ((lU N l).set p.1 (AV.int .i64 (((nb l p.1).length+1:Nat):Int))).set p.2 (AV.int .i64 (((nb l p.2).length+1:Nat):Int))=lU N (l++[p]):=by
 refine cY λv=>?_;by_cases hv:v<N
 .rw[oG hv,dA,dA,cB,mz,sF];by_cases e2:p.2=v
  .subst e2;rw[if_pos rfl,if_pos h2,if_neg om,if_pos rfl,aG];simp
  .rw[if_neg e2];by_cases e1:p.1=v
   .subst e1;rw[if_pos rfl,if_pos hv,if_pos rfl,if_neg e2,aG];simp
   .rw[if_neg e1,if_neg e1,if_neg e2,aG,oG hv];simp
 .rw[bA (by rw[cB,cB,mz];omega),bA (by rw[mz];omega)]
theorem Fq(N:Nat):List.replicate N (AV.int .i64 0)=lU N []:=by
 refine cY λv=>?_;by_cases hv:v<N
 .rw[oG hv,eF,if_pos hv];rfl
 .rw[bA (by simp;omega),bA (by rw[mz];omega)]
def lE(N:Nat)(l:List (Nat×Nat))(h0:Nat):List AV:=(List.range N).map λv=>AV.bool (sideB l h0 v)
theorem md(N:Nat)(l:List (Nat×Nat))(h0:Nat):(lE N l h0).length=N:=by simp[lE]
theorem pN{N:Nat}{l:List (Nat×Nat)}{v:Nat}(h:v<N):(lE N l h0)[v]?=some (AV.bool (sideB l h0 v)):=by
 unfold lE;rw[aF,ew h];rfl
theorem Ed{N:Nat}{l:List (Nat×Nat)}(h1:p.1≠h0)(h2:p.2≠h0):lE N (l++[p]) h0=lE N l h0/\(nb (l++[p]) h0).length=(nb l h0).length:=by
 unfold lE sideB;rw[sF,if_neg h1,if_neg h2];simp
theorem vA{N:Nat}{l:List (Nat×Nat)}{y:Nat}(hy:nb (l++[p]) h0=nb l h0++[y])(hN:y<N):(lE N l h0).set y (AV.bool true)=lE N (l++[p]) h0:=by
 refine cY λv=>?_;by_cases hv:v<N
 .rw[pN hv,dA,md];unfold sideB;rw[hy];by_cases e:y=v
  .subst e;simp[hv]
  .rw[if_neg e,pN hv];unfold sideB;have:¬v=y:=λq=>e q.symm;simp[this]
 .rw[bA (by rw[cB,md];omega),bA (by rw[md];omega)]
theorem Ec(N h0:Nat):List.replicate N (AV.bool false)=lE N [] h0:=by
 refine cY λv=>?_;by_cases hv:v<N
 .rw[pN hv,eF,if_pos hv];simp[sideB,nb]
 .rw[bA (by simp;omega),bA (by rw[md];omega)]
theorem Hf(p q:Nat×Nat):(pE p==pE q)=decide (p=q):=by
 rw[dp,beq_iff_eq,aN];unfold pE;constructor
 .intro e;simp only[aq]at e;exact Prod.ext om om
 .rintro rfl;rfl
end Go.Proofs.YtcfncejilmimpaaGreat
