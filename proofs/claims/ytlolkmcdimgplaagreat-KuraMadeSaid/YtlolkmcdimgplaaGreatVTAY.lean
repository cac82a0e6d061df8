/- Many edges -/
import Derived.Test.YtlolkmcdimgplaaGreatVTAX
set_option linter.all false
namespace Go.Pla
open Go.Blk
variable {i x:Nat}{l' rest:List (Nat×Nat)}{p q:Nat×Nat}
theorem Jd{g:Gr}{e:Nat}(he:e<g.m):par (List.range g.n) (λv=>at_ g e v)=false:=by
 have ho:=g.ok e he;have h1:=dG (k:=g.tl e) (p:=λ_=>true) (be (n:=g.n)) (aq.2 ho.1);have h2:=dG (k:=g.hd e) (p:=λ_=>true) (be (n:=g.n)) (aq.2 ho.2.1);unfold at_;rw[ew,bD (p:=λv=>g.tl e==v) (q:=λv=>(v==g.tl e)&&true) (λv _=>by rw[fW,fV]),bD (p:=λv=>g.hd e==v) (q:=λv=>(v==g.hd e)&&true) (λv _=>by rw[fW,fV]),h1,h2];rfl
theorem Ah{g:Gr}{X:Nat->Bool}(h:∀v,v<g.n-1->par (List.range g.m) (λe=>X e&&at_ g e v)=false):Even g (List.range g.m) X:=by
 have hall:par (List.range g.n) (λv=>par (List.range g.m) λe=>X e&&at_ g e v)=false:=by
  rw[jV];refine eH λe he=>?_;rw[iu,Jd (aq.1 he),jR]
 intro v;by_cases hv:v<g.n
 .by_cases hl:v<g.n-1
  .exact h v hl
  .obtain⟨n,hn⟩:∃n,g.n=n+1:=⟨g.n-1,om⟩
   obtain rfl:v=n:=om;rw[hn,cJ,sW,eH λw hw=>h w (by have:=aq.1 hw;omega)]at hall;simpa[par]using hall
 .refine eH λe he=>?_;have ho:=g.ok e (aq.1 he);have a1:(g.tl e==v)=false:=by rw[beq_eq_false_iff_ne];omega
  have a2:(g.hd e==v)=false:=by rw[beq_eq_false_iff_ne];omega
  unfold at_;rw[a1,a2];simp
theorem Mc{N K M:Nat}{f:Nat->Nat}(hf:∀c,c<N->f c<K)(h:K*M<=N)(h1:0<M)(hK:0<K):∃w,M<=(List.range N).countP λc=>f c==w:=by
 refine Classical.byContradiction λhne=>?_;have hlt:∀w,(List.range N).countP (λc=>f c==w)<=M-1:=λw=>by
  have:¬M<=(List.range N).countP λc=>f c==w:=λq=>hne ⟨w,q⟩;omega
 have s1:=tB (L:=List.range K) (f:=λw=>(List.range N).countP λc=>f c==w) (c:=M-1) λw _=>hlt w;rw[mq (p:=λw c=>f c==w)]at s1;have s2:=uc (L:=List.range N) (f:=λc=>(List.range K).countP λw=>f c==w) (c:=1) λc hc=>by
  rw[List.one_le_countP_iff];exact⟨f c,aq.2 (hf c (aq.1 hc)),beq_self_eq_true _⟩
 rw[br]at s1 s2;have:K*(M-1)+K=K*M:=by rw[<-Nat.mul_succ];congr 1;omega
 omega
theorem KM{g:Gr}(p:Pln g (List.range g.m))(hn:2<g.n)(hm:3*g.n-6<g.m):¬ ∃(Φ:Type) (l r:Nat->Φ),Dual g (List.range g.m) l r:=by
 rintro⟨Φ,l,r,d⟩;have hkk:∃k,k+(g.n-1)=g.m/\2<=k:=⟨g.m-(g.n-1),om,om⟩
 obtain⟨k,hk,hk2⟩:=hkk
 obtain⟨w,hw⟩:=Mc (N:=2^g.m) (K:=2^(g.n-1)) (M:=2^k) (f:=λc=>cod (λv=>par (List.range g.m) λe=>c.testBit e&&at_ g e v) (List.range (g.n-1)))
  (λc _=>by have:=uL (S:=λv=>par (List.range g.m) λe=>c.testBit e&&at_ g e v) (D:=List.range (g.n-1));rwa [br]at this)
  (by rw[<-Nat.pow_add,<-hk];exact Nat.le_of_eq (by congr 1;omega)) (vf _) (vf _)
 rw[di]at hw;have hF:∀c,c∈(List.range (2^g.m)).filter (λc=>cod (λv=>par (List.range g.m) λe=>c.testBit e&&at_ g e v) (List.range (g.n-1))==w)->c<2^g.m/\cod (λv=>par (List.range g.m) λe=>c.testBit e&&at_ g e v) (List.range (g.n-1))=w:=λc hc=>by
  rw[aJ,aq,beq_iff_eq]at hc;exact hc
 have ndF:((List.range (2^g.m)).filter (λc=>cod (λv=>par (List.range g.m) λe=>c.testBit e&&at_ g e v) (List.range (g.n-1))==w)).Nodup:=List.nodup_range.filter _;generalize (List.range (2^g.m)).filter (λc=>cod (λv=>par (List.range g.m) λe=>c.testBit e&&at_ g e v) (List.range (g.n-1))==w)=F at hw hF ndF;have two:2<=2^k:=by
  have:=nP (n:=2) om (show 1<=k by omega);simpa using this
 have inF:∀i,i<2^k->F.getD i 0∈F:=λi hi=>by
  rw[aj,ae om];exact aO _
 have ev:∀i,i<2^k->Even g (List.range g.m) λe=>(F.getD i 0).testBit e^^(F.getD 0 0).testBit e:=λi hi=>Ah λv hv=>by
  have e1:=(hF _ (inF i hi)).2;have e2:=(hF _ (inF 0 om)).2;have:=qK (e1.trans e2.symm) v (aq.2 hv);rw[bD (q:=λe=>((F.getD i 0).testBit e&&at_ g e v)^^((F.getD 0 0).testBit e&&at_ g e v)) (λe _=>by
   cases (F.getD i 0).testBit e<;>cases (F.getD 0 0).testBit e<;>cases at_ g e v<;>rfl),ew,this,kM]
 have inj:∀i j,i<2^k->j<2^k->(∀e,e<g.m->(F.getD i 0).testBit e=(F.getD j 0).testBit e)->i=j:=λi j hi hj he=>by
  have hlt:∀c,c<2^k->∀e,g.m<=e->(F.getD c 0).testBit e=false:=λc hc e hem=>Nat.testBit_lt_two_pow (cB (hF _ (inF c hc)).1 (nP om hem));have:F.getD i 0=F.getD j 0:=Nat.eq_of_testBit_eq λe=>by
   by_cases q:e<g.m
   .exact he e q
   .rw[hlt i hi e om,hlt j hj e om]
  rw[aj,aj,ae om,ae om]at this;exact(nF ndF).1 this
 have hB:∀e,e∈(List.range g.m).filter (λe=>(List.range (2^k)).any λi=>(F.getD i 0).testBit e^^(F.getD 0 0).testBit e)↔e<g.m/\∃i,i<2^k/\((F.getD i 0).testBit e^^(F.getD 0 0).testBit e)=true:=λe=>by
  rw[aJ,aq,fU];simp only[aq]
 have ndB:((List.range g.m).filter (λe=>(List.range (2^k)).any λi=>(F.getD i 0).testBit e^^(F.getD 0 0).testBit e)).Nodup:=List.nodup_range.filter _;have lB:=cF (λe=>(List.range (2^k)).any λi=>(F.getD i 0).testBit e^^(F.getD 0 0).testBit e) (List.range g.m);rw[br]at lB;generalize (List.range g.m).filter (λe=>(List.range (2^k)).any λi=>(F.getD i 0).testBit e^^(F.getD 0 0).testBit e)=B at hB ndB lB;have sB:∀e∈B,e∈List.range g.m:=λe he=>aq.2 ((hB e).1 he).1;have out:∀i,i<2^k->∀e,e<g.m->e∉B->((F.getD i 0).testBit e^^(F.getD 0 0).testBit e)=false:=λi hi e he hn=>by
  cases q:((F.getD i 0).testBit e^^(F.getD 0 0).testBit e)with
  |false=>rfl
  |true=>exact absurd ((hB e).2 ⟨he,i,hi,q⟩) hn
 obtain⟨l',r',d'⟩:=sub_dual be ndB sB d;have pB:Pln g B:=⟨ndB,λe he=>((hB e).1 he).1,λe he j hj=>p.one e (sB e he) j (sB j hj)⟩
 have same:∀i j,i<2^k->j<2^k->(∀e∈B,((F.getD i 0).testBit e^^(F.getD 0 0).testBit e)=((F.getD j 0).testBit e^^(F.getD 0 0).testBit e))->i=j:=λi j hi hj he=>inj i j hi hj λe hem=>by
  by_cases q:e∈B
  .have:=he e q;revert this;cases (F.getD i 0).testBit e<;>cases (F.getD j 0).testBit e<;>cases (F.getD 0 0).testBit e<;>simp
  .have a:=out i hi e hem q;have b:=out j hj e hem q;revert a b;cases (F.getD i 0).testBit e<;>cases (F.getD j 0).testBit e<;>cases (F.getD 0 0).testBit e<;>simp
 have fin:=BB pB d' (k:=k) (X:=λi e=>(F.getD i 0).testBit e^^(F.getD 0 0).testBit e) (λi hi=>(jZ be ndB sB (λe he hn=>out i hi e (aq.1 he) hn)).1 (ev i hi)) same
  (λe he=>((hB e).1 he).2) (λhnil=>by
   have:=same 0 1 om om λe he=>by rw[hnil]at he;simp at he
   omega)
 omega
open Go.Blk (Gr)
open Go.Kur (atP smP finP finP_succ Srt Bel hds nb mem_hds mem_nb hds_nodup doc5 doc33 sideB)
def Pok(N:Nat)(l:List (Nat×Nat)):Prop:=∀p∈l,p.1<p.2/\p.2<N
theorem pok_at{N:Nat}{l:List (Nat×Nat)}(h:Pok N l)(hi:i<l.length):(l.getD i (0,0)).1<(l.getD i (0,0)).2/\(l.getD i (0,0)).2<N:=by
 rw[aj,ae hi];exact h _ (aO hi)
def gP(N:Nat)(l:List (Nat×Nat))(h:Pok N l):Gr where
 m:=l.length
 n:=N
 tl:=λi=>(l.getD i (0,0)).1
 hd:=λi=>(l.getD i (0,0)).2
 ok:=λi hi=>by
  have:=pok_at h hi;omega
def DP(N:Nat)(l:List (Nat×Nat)):Prop:=∃(h:Pok N l) (Φ:Type) (L R:Nat->Φ),Dual (gP N l h) (List.range l.length) L R
theorem KW{l:List (Nat×Nat)}(h:l.Perm l'):∃f:Nat->Nat,(∀j,j<l'.length->f j<l.length/\l'.getD j (0,0)=l.getD (f j) (0,0))/\∀i j,i<l'.length->j<l'.length->f i=f j->i=j:=by
 induction h with
 |nil=>exact⟨λj=>j,λj hj=>absurd hj (gY _),λ_ _ _ _ h=>h⟩
 |cons x _ ih =>
   obtain⟨f,h1,h2⟩:=ih;refine⟨λj=>match j with|0=>0|j+1=>f j+1,λj hj=>?_,λi j hi hj e=>?_⟩
   .cases j with
    |zero=>exact⟨Nat.succ_pos _,rfl⟩
    |succ j =>
      have:=h1 j (by simpa using hj);exact⟨by simpa using this.1,by simpa using this.2⟩
   .cases i with
    |zero=>cases j with
      |zero=>rfl
      |succ j=>simp at e
    |succ i=>cases j with
      |zero=>simp at e
      |succ j=>rw[h2 i j (by simpa using hi) (by simpa using hj) (by simpa using e)]
 |swap x y l =>
   refine⟨λj=>match j with|0=>1|1=>0|j+2=>j+2,λj hj=>?_,λi j _ _ e=>?_⟩
   .match j with
    |0=>exact⟨by simp,rfl⟩
    |1=>exact⟨by simp,rfl⟩
    |j+2=>exact⟨by simpa using hj,rfl⟩
   .match i,j with
    |0,0=>rfl
    |0,1=>simp at e
    |0,j+2=>simp at e
    |1,0=>simp at e
    |1,1=>rfl
    |1,j+2=>simp at e
    |i+2,0=>simp at e
    |i+2,1=>simp at e
    |i+2,j+2=>simpa using e
 |trans _ _ ih1 ih2 =>
   obtain⟨f,f1,f2⟩:=ih1;obtain⟨k,k1,k2⟩:=ih2;refine⟨λj=>f (k j),λj hj=>?_,λi j hi hj e=>k2 i j hi hj (f2 _ _ (k1 i hi).1 (k1 j hj).1 e)⟩;obtain⟨a,b⟩:=k1 j hj;obtain⟨c,d⟩:=f1 _ a;exact⟨c,b.trans d⟩
theorem dp_perm{N:Nat}{l:List (Nat×Nat)}(hp:l.Perm l')(h:DP N l):DP N l':=by
 obtain⟨h0,h⟩:=h;have h1:Pok N l':=λp q=>h0 p (hp.mem_iff.2 q);obtain⟨f,f1,f2⟩:=KW hp
 exact⟨h1,dual_pick (g:=gP N l h0) (g':=gP N l' h1) (f:=f) (ν:=λv=>v) (λj hj=>(f1 j hj).1) (λi j hi hj e=>f2 i j hi hj e) (λ_ _ _ _ e=>e)
  (λj hj=>⟨by show(l'.getD j (0,0)).1=_;rw[(f1 j hj).2];rfl,by show(l'.getD j (0,0)).2=_;rw[(f1 j hj).2];rfl⟩) h⟩
theorem gP_at{N:Nat}{l:List (Nat×Nat)}(h:Pok N l){v:Nat}:at_ (gP N l h) i v=(((l.getD i (0,0)).1==v)^^((l.getD i (0,0)).2==v)):=rfl
theorem uo{l:List (Nat×Nat)}{t:List (Nat×Nat)}(hi:i<l.length):(l++t).getD i (0,0)=l.getD i (0,0):=by
 rw[aj,bA hi,<-aj]
theorem ya{l:List (Nat×Nat)}{t:List (Nat×Nat)}{i:Nat}:(l++t).getD (l.length+i) (0,0)=t.getD i (0,0):=by
 rw[aj,aV om,Nat.add_sub_cancel_left,<-aj]
theorem sV(hr:∀p∈rest,atP x p=false)(hi:i<rest.length):((rest.getD i (0,0)).1==x)=false/\((rest.getD i (0,0)).2==x)=false:=by
 have:rest.getD i (0,0)∈rest:=by rw[aj,ae hi];exact aO _
 have:=hr _ this;unfold atP at this;rw[aZ]at this;rw[beq_eq_false_iff_ne,beq_eq_false_iff_ne];exact⟨λq=>this (.inl q),λq=>this (.inr q)⟩
theorem Cp(hp:p.1<p.2)(h:atP x p=true):p.1+p.2-x≠x/\(∀v,((p.1==v)^^(p.2==v))=((x==v)^^((p.1+p.2-x)==v)))/\(p.1+p.2-x=p.1\/p.1+p.2-x=p.2):=by
 unfold atP at h;rw[aK]at h;rcases h with h|h
 .have e:p.1+p.2-x=p.2:=om;rw[e];exact⟨om,λv=>by rw[h],.inr rfl⟩
 .have e:p.1+p.2-x=p.1:=om;rw[e];exact⟨om,λv=>by rw[h,kN],.inl rfl⟩
theorem Iq{N:Nat}(hr:∀r∈rest,atP x r=false)(hp:atP x p=true)(hq:atP x q=true)(hab:p.1+p.2-x≠q.1+q.2-x)(h:Pok N (rest++[p,q])) :
 Pok N (rest++[(min (p.1+p.2-x) (q.1+q.2-x),max (p.1+p.2-x) (q.1+q.2-x))])/\(DP N (rest++[p,q])↔DP N (rest++[(min (p.1+p.2-x) (q.1+q.2-x),max (p.1+p.2-x) (q.1+q.2-x))])):=by
 have hp0:=h p (by simp);have hq0:=h q (by simp);obtain⟨a1,a2,a3⟩:=Cp hp0.1 hp;obtain⟨b1,b2,b3⟩:=Cp hq0.1 hq;generalize p.1+p.2-x=a at *
 generalize q.1+q.2-x=b at *
 have h':Pok N (rest++[(min a b,max a b)]):=λr hm=>by
  rcases aw.1 hm with hm|hm
  .exact h r (bg _ hm)
  .rw[aP]at hm;subst hm;simp only;omega
 refine⟨h',?_⟩;have ee:∀v,(((min a b)==v)^^((max a b)==v))=((a==v)^^(b==v)):=λv=>by
  rcases Nat.le_total a b with z|z
  .rw[dU z,sQ z]
  .rw[kh z,vg z,kN]
 have l1:(rest++[p,q]).length=(rest.length+1)+1:=by simp
 have l2:(rest++[(min a b,max a b)]).length=rest.length+1:=by simp
 have gp:(rest++[p,q]).getD rest.length (0,0)=p:=by have:=@ya rest [p,q] 0;simpa using this
 have gq:(rest++[p,q]).getD (rest.length+1) (0,0)=q:=by have:=@ya rest [p,q] 1;simpa using this
 have gc:(rest++[(min a b,max a b)]).getD rest.length (0,0)=(min a b,max a b):=by have:=@ya rest [(min a b,max a b)] 0;simpa using this
 have key:=Cx (g':=gP N _ h) (g:=gP N _ h') (m:=rest.length+1) (k:=rest.length) (x:=x) om (λe he hne v=>by
  rw[gP_at,gP_at,uo om,uo om]) (λv hv=>by
  have xv:(x==v)=false:=by rw[beq_eq_false_iff_ne];exact Ne.symm hv
  rw[gP_at,gP_at,gP_at,gp,gq,gc,a2,b2,xv,dF,dF];exact ee v) (λe he=>by
  rw[gP_at];by_cases z:e<rest.length
  .rw[uo z,(sV hr z).1,(sV hr z).2];rfl
  .obtain rfl:e=rest.length:=om;rw[gc];have e1:((min a b)==x)=false:=by rw[beq_eq_false_iff_ne];omega
   have e2:((max a b)==x)=false:=by rw[beq_eq_false_iff_ne];omega
   rw[e1,e2];rfl) (by
  rw[gP_at,gp,a2];have e1:(a==x)=false:=by rw[beq_eq_false_iff_ne];exact a1
  rw[e1];simp) (by
  rw[gP_at,gq,b2];have e1:(b==x)=false:=by rw[beq_eq_false_iff_ne];exact b1
  rw[e1];simp)
 constructor
 .rintro⟨_,d⟩;rw[l1]at d;have:=key.1 d;exact⟨h',by rw[l2];exact this⟩
 .rintro⟨_,d⟩;rw[l2]at d;have:=key.2 d;exact⟨h,by rw[l1];exact this⟩
theorem Dr{N:Nat}(hr:∀r∈rest,atP x r=false)(hq:atP x q=true)(h:Pok N (rest++[q]))(d:DP N rest):DP N (rest++[q]):=by
 obtain⟨h',d⟩:=d;obtain⟨b1,b2,_⟩:=Cp (h q (by simp)).1 hq;have l1:(rest++[q]).length=rest.length+1:=by simp
 have gq:(rest++[q]).getD rest.length (0,0)=q:=by have:=@ya rest [q] 0;simpa using this
 refine⟨h,?_⟩;rw[l1];refine(zY (m:=rest.length) (x:=x) (λe he=>?_) ?_).2 ?_
 .rw[gP_at,uo he,(sV hr he).1,(sV hr he).2];rfl
 .rw[gP_at,gq,b2];have e1:((q.1+q.2-x)==x)=false:=by rw[beq_eq_false_iff_ne];exact b1
  rw[e1];simp
 .obtain⟨Φ,L,R,d⟩:=d;exact⟨Φ,L,R,d.gr λe he v=>by rw[gP_at,gP_at,uo (aq.1 he)]⟩
def QP(N:Nat)(l:List (Nat×Nat)):Prop:=∀r∈l,DP N (l.erase r)
theorem Ks{N:Nat}{l:List (Nat×Nat)}(hp:l.Perm l')(h:QP N l):QP N l':=λr hr=>dp_perm (hp.erase r) (h r (hp.mem_iff.2 hr))
theorem Mw{N:Nat}{c:Nat×Nat}(hr:∀r∈rest,atP x r=false)(hp:atP x p=true)(hq:atP x q=true)(hab:p.1+p.2-x≠q.1+q.2-x)(h:Pok N (rest++[p,q]))
 (hc:c=(min (p.1+p.2-x) (q.1+q.2-x),max (p.1+p.2-x) (q.1+q.2-x))) (H:QP N (rest++[c])):QP N (rest++[p,q]):=λr hm=>by
 by_cases hrr:r∈rest
 .rw[List.erase_append_left _ hrr];have h1:∀s∈rest.erase r,atP x s=false:=λs hs=>hr s (jD hs);have h2:Pok N (rest.erase r++[p,q]):=λs hs=>h s (by
   rcases aw.1 hs with hs|hs
   .exact bg _ (jD hs)
   .exact ep _ hs)
  refine(Iq h1 hp hq hab h2).2.2 ?_;have:=H r (bg _ hrr);rw[List.erase_append_left _ hrr,hc]at this;exact this
 .rw[List.erase_append_right _ hrr];have h0:DP N rest:=by
   have h1:=H c (by simp);have h2:(rest++[c]).Perm (c::rest):=jC;have h3:=h2.erase c;rw[nS]at h3;exact dp_perm h3 h1
  rcases aw.1 hm with hm|hm
  .exact absurd hm hrr
  by_cases e:r=p
  .subst e;rw[nS];exact Dr hr hq (λs hs=>h s (by
    rcases aw.1 hs with hs|hs
    .exact bg _ hs
    .exact ep _ (by simp at hs;simp[hs]))) h0
  .have e2:r=q:=by simpa[e]using hm
   subst e2;have:[p,r].erase r=[p]:=by rw[List.erase_cons_tail (by simpa using Ne.symm e),nS]
   rw[this];exact Dr hr hp (λs hs=>h s (by
    rcases aw.1 hs with hs|hs
    .exact bg _ hs
    .exact ep _ (by simp at hs;simp[hs]))) h0
theorem Mo{N:Nat}{l:List (Nat×Nat)}(h:smP x l=some l')(hl:Pok N l):Pok N l'/\(DP N l↔DP N l')/\(QP N l'->QP N l):=by
 unfold smP at h;split at h
 .rename_i p q hf
  split at h
  .cases h
  .rename_i hab
   simp only[aa]at h;have hp:atP x p=true:=(aJ.1 (show p∈l.filter (atP x) by rw[hf];simp)).2;have hq:atP x q=true:=(aJ.1 (show q∈l.filter (atP x) by rw[hf];simp)).2;have hr:∀r∈l.filter (λp=>!atP x p),atP x r=false:=λr hr=>by
    have:=(aJ.1 hr).2;simpa using this
   have hperm:(l.filter (λp=>!atP x p)++[p,q]).Perm l:=by
    rw[<-hf];exact List.perm_append_comm.trans (iO (atP x) l)
   have hk:Pok N (l.filter (λp=>!atP x p)++[p,q]):=λs hs=>hl s (hperm.mem_iff.1 hs);generalize l.filter (λp=>!atP x p)=rest at *
   obtain⟨k1,k2⟩:=Iq hr hp hq hab hk;subst h;exact⟨k1,⟨λd=>k2.1 (dp_perm hperm.symm d),λd=>dp_perm hperm (k2.2 d)⟩,λH=>Ks hperm (Mw hr hp hq hab hk rfl H)⟩
 .simp only[aa]at h;subst h;exact⟨hl,Iff.rfl,λH=>H⟩
theorem finP_dp{N:Nat}{l:List (Nat×Nat)}(hl:Pok N l):∀{k:Nat}{l':List (Nat×Nat)},finP l k=some l'->Pok N l'/\(DP N l↔DP N l')/\(QP N l'->QP N l)
 |0,l',h=>by
   have:l'=l:=by
    unfold finP at h;simpa using h.symm
   subst this;exact⟨hl,Iff.rfl,λH=>H⟩
 |k+1,l',h=>by
   rw[finP_succ]at h;obtain⟨l1,h1,h2⟩:=iM.1 h;obtain⟨a1,a2,a3⟩:=finP_dp hl h1;obtain⟨b1,b2,b3⟩:=Mo h2 a1;exact⟨b1,a2.trans b2,λH=>a3 (b3 H)⟩
open Go.Blk
section
variable {g:Gr}{B:List Nat}{Φ:Type}
theorem EE{c:Nat}{l r:Nat->Φ}(ev:∀X,Even g B X->∀e∈B,X e=true->c<=B.countP X)(d:Dual g B l r){k:Nat}{X:Nat->Nat->Bool}(hX:∀c,c<2^k->Even g B (X c))(hi:∀c c',c<2^k->c'<2^k->(∀e∈B,X c e=X c' e)->c=c')(hc:∀e∈B,∃c,c<2^k/\X c e=true)(hB:B≠[]):c*(k+1)<=2*B.length:=by
 classical
 have hlr:∀e∈B,l e≠r e:=λe he q=>by
  obtain⟨c,h1,h2⟩:=hc e he;obtain⟨S,hS⟩:=d.one _ (hX c h1);have:=hS e he;rw[h2,q]at this;simp at this
 obtain⟨D,nd,hD⟩:=tR (B.flatMap λe=>[l e,r e]);have hDm:∀x,x∈D↔∃e∈B,x=l e\/x=r e:=λx=>by rw[hD];simp
 have h3:∀x∈D,c<=B.countP λe=>(decide (l e=x)^^decide (r e=x)):=λx hx=>by
  obtain⟨e,he,hxe⟩:=(hDm x).1 hx;refine ev (λe=>(decide (l e=x)^^decide (r e=x))) (d.two λa=>decide (a=x)) e he ?_;have:=hlr e he;rcases hxe with rfl|rfl
  .simp[Ne.symm this]
  .simp[this]
 have hsum:=uc h3;rw[mq]at hsum;have hup:=tB (L:=B) (f:=λe=>D.countP λx=>(decide (l e=x)^^decide (r e=x))) (c:=2) λe he=>by
  have h1:=oV nd (x:=l e);have h2:=oV nd (x:=r e);have:∀(D:List Φ),D.countP (λx=>(decide (l e=x)^^decide (r e=x)))<=D.countP (λx=>decide (l e=x))+D.countP λx=>decide (r e=x):=by
   intro D;induction D with
   |nil=>simp
   |cons y D ih =>
     rw[dV,dV,dV];generalize decide (l e=y)=u;generalize decide (r e=y)=v;cases u<;>cases v<;>simp<;>omega
  have:=this D;omega
 obtain⟨e0,he0⟩:=dE B hB;obtain⟨x0,D',hDD⟩:∃x0 D',D=x0::D':=dL λq=>by
  have:=(hDm (l e0)).2 ⟨e0,he0,.inl rfl⟩;rw[q]at this;simp at this
 have hS:∀c,∃S:Φ->Bool,c<2^k->S x0=false/\∀e∈B,X c e=(S (l e)^^S (r e)):=λc=>by
  by_cases h:c<2^k
  .obtain⟨S,hS⟩:=d.one _ (hX c h);refine⟨λa=>S a^^S x0,λ_=>⟨by simp,λe he=>?_⟩⟩;rw[hS e he];dsimp only;cases S (l e)<;>cases S (r e)<;>cases S x0<;>rfl
  .exact⟨λ_=>false,λh'=>absurd h' h⟩
 obtain⟨S,hS⟩:∃S:Nat->Φ->Bool,∀c,c<2^k->S c x0=false/\∀e∈B,X c e=(S c (l e)^^S c (r e)):=⟨λc=>Classical.choose (hS c),λc=>Classical.choose_spec (hS c)⟩
 have ndc:((List.range (2^k)).map λc=>cod (S c) D').Nodup:=by
  rw[List.Nodup,dH];refine List.Pairwise.imp_of_mem ?_ (be (n:=2^k));intro a b ha hb hab he;rw[aq]at ha hb;have heq:=qK he;refine hab (hi a b ha hb λe he=>?_);have hon:∀x∈D,S a x=S b x:=λx hx=>by
   rw[hDD]at hx;rcases ao.1 hx with rfl|hx
   .rw[(hS a ha).1,(hS b hb).1]
   .exact heq x hx
  rw[(hS a ha).2 e he,(hS b hb).2 e he,hon _ ((hDm _).2 ⟨e,he,.inl rfl⟩),hon _ ((hDm _).2 ⟨e,he,.inr rfl⟩)]
 have hle:=nd_lt ndc (n:=2^D'.length) λx hx=>by
  obtain⟨c,_,rfl⟩:=bG.1 hx;exact uL
 rw[ah,br]at hle;have hkd:k<=D'.length:=(Nat.pow_le_pow_iff_right om).1 hle;have hDl:D.length=D'.length+1:=by rw[hDD];rfl
 have:c*(k+1)<=D.length*c:=by rw[Nat.mul_comm];exact fX c om
 omega
end
theorem MJ{g:Gr}{c:Nat}{Φ:Type}{l r:Nat->Φ}(hc:∀X,Even g (List.range g.m) X->∀e,e<g.m->X e=true->c<=(List.range g.m).countP X){k:Nat}(hk:k+(g.n-1)=g.m)(hk2:1<=k)(d:Dual g (List.range g.m) l r):c*(k+1)<=2*g.m:=by
 obtain⟨w,hw⟩:=Mc (N:=2^g.m) (K:=2^(g.n-1)) (M:=2^k) (f:=λc=>cod (λv=>par (List.range g.m) λe=>c.testBit e&&at_ g e v) (List.range (g.n-1)))
  (λc _=>by have:=uL (S:=λv=>par (List.range g.m) λe=>c.testBit e&&at_ g e v) (D:=List.range (g.n-1));rwa [br]at this)
  (by rw[<-Nat.pow_add,<-hk];exact Nat.le_of_eq (by congr 1;omega)) (vf _) (vf _)
 rw[di]at hw;have hF:∀c,c∈(List.range (2^g.m)).filter (λc=>cod (λv=>par (List.range g.m) λe=>c.testBit e&&at_ g e v) (List.range (g.n-1))==w)->c<2^g.m/\cod (λv=>par (List.range g.m) λe=>c.testBit e&&at_ g e v) (List.range (g.n-1))=w:=λc hc=>by
  rw[aJ,aq,beq_iff_eq]at hc;exact hc
 have ndF:((List.range (2^g.m)).filter (λc=>cod (λv=>par (List.range g.m) λe=>c.testBit e&&at_ g e v) (List.range (g.n-1))==w)).Nodup:=List.nodup_range.filter _;generalize (List.range (2^g.m)).filter (λc=>cod (λv=>par (List.range g.m) λe=>c.testBit e&&at_ g e v) (List.range (g.n-1))==w)=F at hw hF ndF;have two:2<=2^k:=by
  have:=nP (n:=2) om (show 1<=k by omega);simpa using this
 have inF:∀i,i<2^k->F.getD i 0∈F:=λi hi=>by
  rw[aj,ae om];exact aO _
 have ev:∀i,i<2^k->Even g (List.range g.m) λe=>(F.getD i 0).testBit e^^(F.getD 0 0).testBit e:=λi hi=>Ah λv hv=>by
  have e1:=(hF _ (inF i hi)).2;have e2:=(hF _ (inF 0 om)).2;have:=qK (e1.trans e2.symm) v (aq.2 hv);rw[bD (q:=λe=>((F.getD i 0).testBit e&&at_ g e v)^^((F.getD 0 0).testBit e&&at_ g e v)) (λe _=>by
   cases (F.getD i 0).testBit e<;>cases (F.getD 0 0).testBit e<;>cases at_ g e v<;>rfl),ew,this,kM]
 have inj:∀i j,i<2^k->j<2^k->(∀e,e<g.m->(F.getD i 0).testBit e=(F.getD j 0).testBit e)->i=j:=λi j hi hj he=>by
  have hlt:∀c,c<2^k->∀e,g.m<=e->(F.getD c 0).testBit e=false:=λc hc e hem=>Nat.testBit_lt_two_pow (cB (hF _ (inF c hc)).1 (nP om hem));have:F.getD i 0=F.getD j 0:=Nat.eq_of_testBit_eq λe=>by
   by_cases q:e<g.m
   .exact he e q
   .rw[hlt i hi e om,hlt j hj e om]
  rw[aj,aj,ae om,ae om]at this;exact(nF ndF).1 this
 have hB:∀e,e∈(List.range g.m).filter (λe=>(List.range (2^k)).any λi=>(F.getD i 0).testBit e^^(F.getD 0 0).testBit e)↔e<g.m/\∃i,i<2^k/\((F.getD i 0).testBit e^^(F.getD 0 0).testBit e)=true:=λe=>by
  rw[aJ,aq,fU];simp only[aq]
 have ndB:((List.range g.m).filter (λe=>(List.range (2^k)).any λi=>(F.getD i 0).testBit e^^(F.getD 0 0).testBit e)).Nodup:=List.nodup_range.filter _;have lB:=cF (λe=>(List.range (2^k)).any λi=>(F.getD i 0).testBit e^^(F.getD 0 0).testBit e) (List.range g.m);rw[br]at lB;generalize (List.range g.m).filter (λe=>(List.range (2^k)).any λi=>(F.getD i 0).testBit e^^(F.getD 0 0).testBit e)=B at hB ndB lB;have sB:∀e∈B,e∈List.range g.m:=λe he=>aq.2 ((hB e).1 he).1;have out:∀i,i<2^k->∀e,e<g.m->e∉B->((F.getD i 0).testBit e^^(F.getD 0 0).testBit e)=false:=λi hi e he hn=>by
  cases q:((F.getD i 0).testBit e^^(F.getD 0 0).testBit e)with
  |false=>rfl
  |true=>exact absurd ((hB e).2 ⟨he,i,hi,q⟩) hn
 obtain⟨l',r',d'⟩:=sub_dual be ndB sB d;have hcB:∀X,Even g B X->∀e∈B,X e=true->c<=B.countP X:=λX hX e he hXe=>by
  have h1:=hc (λe=>X e&&decide (e∈B)) ((jZ be ndB sB λe _ hn=>by simp[hn]).2 (hX.congr λe he=>by simp[he])) e ((hB e).1 he).1 (by simp[hXe,he]);refine cI h1 ?_;rw[di,di];refine oN (List.nodup_range.filter _) λx hx=>?_;have:=(aJ.1 hx).2;simp only[aL,aK]at this;exact aJ.2 ⟨this.2,this.1⟩
 have same:∀i j,i<2^k->j<2^k->(∀e∈B,((F.getD i 0).testBit e^^(F.getD 0 0).testBit e)=((F.getD j 0).testBit e^^(F.getD 0 0).testBit e))->i=j:=λi j hi hj he=>inj i j hi hj λe hem=>by
  by_cases q:e∈B
  .have:=he e q;revert this;cases (F.getD i 0).testBit e<;>cases (F.getD j 0).testBit e<;>cases (F.getD 0 0).testBit e<;>simp
  .have a:=out i hi e hem q;have b:=out j hj e hem q;revert a b;cases (F.getD i 0).testBit e<;>cases (F.getD j 0).testBit e<;>cases (F.getD 0 0).testBit e<;>simp
 have fin:=EE hcB d' (k:=k) (X:=λi e=>(F.getD i 0).testBit e^^(F.getD 0 0).testBit e) (λi hi=>(jZ be ndB sB (λe he hn=>out i hi e (aq.1 he) hn)).1 (ev i hi)) same
  (λe he=>((hB e).1 he).2) (λhnil=>by
   have:=same 0 1 om om λe he=>by rw[hnil]at he;simp at he
   omega)
 exact cI fin (Nat.mul_le_mul_left 2 lB)
open Go.Blk (Gr)
open Go.Kur (atP smP finP finP_succ Srt Bel hds nb mem_hds mem_nb hds_nodup doc5 doc33 sideB)
theorem jT{W:List Nat}{x y:Nat}(hx:x∈W)(hy:y∈W)(h:ixo W x=ixo W y):x=y:=by
 have h1:=(mV hx).2;have h2:=(mV hy).2;rw[h]at h1;omega
def gW'(W:List Nat)(l:List (Nat×Nat))(h:∀p∈l,p.1<p.2/\p.1∈W/\p.2∈W):Gr where
 m:=l.length
 n:=W.length
 tl:=λi=>ixo W (l.getD i (0,0)).1
 hd:=λi=>ixo W (l.getD i (0,0)).2
 ok:=λi hi=>by
  have hm:l.getD i (0,0)∈l:=by rw[aj,ae hi];exact aO _
  obtain⟨a,b,c⟩:=h _ hm;exact⟨(mV b).1,(mV c).1,λe=>by have:=jT b c e;omega⟩
theorem Aq{N:Nat}{l:List (Nat×Nat)}{W:List Nat}(h:∀p∈l,p.1<p.2/\p.1∈W/\p.2∈W)(d:DP N l):∃(Φ:Type) (L R:Nat->Φ),Dual (gW' W l h) (List.range l.length) L R:=by
 obtain⟨h0,d⟩:=d;have hm:∀{i},i<l.length->l.getD i (0,0)∈l:=λhi=>by rw[aj,ae hi];exact aO _
 exact dual_pick (g:=gP N l h0) (g':=gW' W l h) (f:=λj=>j) (ν:=λu=>if u∈W then ixo W u else W.length+u) (λj hj=>hj) (λ_ _ _ _ e=>e) (λu v _ _ e=>by
  by_cases hu:u∈W
  .by_cases hv:v∈W
   .rw[if_pos hu,if_pos hv]at e;exact jT hu hv e
   .rw[if_pos hu,if_neg hv]at e;have:=(mV hu).1;omega
  .by_cases hv:v∈W
   .rw[if_neg hu,if_pos hv]at e;have:=(mV hv).1;omega
   .rw[if_neg hu,if_neg hv]at e;omega) (λj hj=>⟨(if_pos (h _ (hm hj)).2.1).symm,(if_pos (h _ (hm hj)).2.2).symm⟩) d
theorem vI{l:List (Nat×Nat)}{W:List Nat}(h:∀p∈l,p.1<p.2/\p.1∈W/\p.2∈W)(nd:l.Nodup):Pln (gW' W l h) (List.range l.length) where
 nd:=be
 lt:=λe he=>aq.1 he
 one:=λe he k hk x y h1 h2=>by
  have he:=aq.1 he;have hk:=aq.1 hk;have me:l.getD e (0,0)∈l:=by rw[aj,ae he];exact aO _
  have mk:l.getD k (0,0)∈l:=by rw[aj,ae hk];exact aO _
  obtain⟨a1,a2,a3⟩:=h _ me;obtain⟨b1,b2,b3⟩:=h _ mk;rw[jn_iff]at h1 h2;have h1:(ixo W (l.getD e (0,0)).1=x/\ixo W (l.getD e (0,0)).2=y)\/(ixo W (l.getD e (0,0)).1=y/\ixo W (l.getD e (0,0)).2=x):=h1;have h2:(ixo W (l.getD k (0,0)).1=x/\ixo W (l.getD k (0,0)).2=y)\/(ixo W (l.getD k (0,0)).1=y/\ixo W (l.getD k (0,0)).2=x):=h2;have key:l.getD e (0,0)=l.getD k (0,0):=by
   have:((l.getD e (0,0)).1=(l.getD k (0,0)).1/\(l.getD e (0,0)).2=(l.getD k (0,0)).2)\/((l.getD e (0,0)).1=(l.getD k (0,0)).2/\(l.getD e (0,0)).2=(l.getD k (0,0)).1):=by
    rcases h1 with⟨u1,u2⟩|⟨u1,u2⟩<;>rcases h2 with⟨w1,w2⟩|⟨w1,w2⟩
    .exact .inl ⟨jT a2 b2 (u1.trans w1.symm),jT a3 b3 (u2.trans w2.symm)⟩
    .exact .inr ⟨jT a2 b3 (u1.trans w2.symm),jT a3 b2 (u2.trans w1.symm)⟩
    .exact .inr ⟨jT a2 b3 (u1.trans w2.symm),jT a3 b2 (u2.trans w1.symm)⟩
    .exact .inl ⟨jT a2 b2 (u1.trans w1.symm),jT a3 b3 (u2.trans w2.symm)⟩
   rcases this with⟨q1,q2⟩|⟨q1,q2⟩
   .exact Prod.ext q1 q2
   .omega
  rw[aj,aj,ae he,ae hk]at key;exact(nF nd).1 key
theorem Fj{g:Gr}{B:List Nat}(p:Pln g B){s:Nat->Bool}(hs:∀e∈B,s (g.tl e)≠s (g.hd e)){X:Nat->Bool}(hX:Even g B X){e:Nat}(he:e∈B)(hXe:X e=true):4<=B.countP X:=by
 have oth:∀{k v},k∈B->at_ g k v=true->∃w,Ends g k v w/\s v≠s w:=fun {k v} hk h=>by
  have:=(at_inc (p.lt k hk)).1 h;rcases this.2 with q|q
  .exact⟨g.hd k,.inl ⟨q,rfl⟩,q▸hs k hk⟩
  .exact⟨g.tl k,.inr ⟨rfl,q⟩,q▸Ne.symm (hs k hk)⟩
 have one:∀{k j v w},k∈B->j∈B->Ends g k v w->Ends g j v w->k=j:=fun {k j v w} hk hj h h'=>p.one k hk j hj v w (jn_iff.2 h) (jn_iff.2 h');have swp:∀{k v w},Ends g k v w->Ends g k w v:=λh=>h.symm;have e0:Ends g e (g.tl e) (g.hd e):=.inl ⟨rfl,rfl⟩;obtain⟨a,ha⟩:∃a,a=g.tl e:=⟨_,rfl⟩
 obtain⟨b,hb⟩:∃b,b=g.hd e:=⟨_,rfl⟩
 have sab:=hs e he;rw[<-ha,<-hb]at e0 sab;have ata:at_ g e a=true:=by rw[e0.at];have:(b==a)=false:=by { rw[beq_eq_false_iff_ne];rintro rfl;exact sab rfl};rw[this];simp
 have atb:at_ g e b=true:=by rw[e0.at];have:(a==b)=false:=by { rw[beq_eq_false_iff_ne];rintro rfl;exact sab rfl};rw[this];simp
 obtain⟨k1,hk1,n1,x1⟩:=oa p.nd (hX a) he (by simp[hXe,ata]);obtain⟨k2,hk2,n2,x2⟩:=oa p.nd (hX b) he (by simp[hXe,atb]);simp only[aL]at x1 x2;obtain⟨b1,E1,s1⟩:=oth hk1 x1.2;obtain⟨a2,E2,s2⟩:=oth hk2 x2.2;have nb1:b1≠b:=λq=>n1 (one hk1 he (q▸E1) e0);have at1:at_ g k1 b1=true:=by rw[E1.at];have:(a==b1)=false:=by { rw[beq_eq_false_iff_ne];rintro rfl;exact s1 rfl};rw[this];simp
 obtain⟨k3,hk3,n3,x3⟩:=oa p.nd (hX b1) hk1 (by simp[x1.1,at1]);simp only[aL]at x3;have ends:∀{k v w u},Ends g k v w->at_ g k u=true->u=v\/u=w:=fun {k v w u} h h'=>by
  rw[h.at]at h';by_cases q1:v=u
  .exact .inl q1.symm
  .by_cases q2:w=u
   .exact .inr q2.symm
   .have z1:(v==u)=false:=by rw[beq_eq_false_iff_ne];exact q1
    have z2:(w==u)=false:=by rw[beq_eq_false_iff_ne];exact q2
    rw[z1,z2]at h';cases h'
 have h12:k1≠k2:=λq=>by
  subst q;rcases ends E1 x2.2 with z|z
  .exact sab (by rw[z])
  .exact nb1 z.symm
 have h3e:k3≠e:=λq=>by
  subst q;rcases ends e0 x3.2 with z|z
  .exact s1 (by rw[z])
  .exact nb1 z
 have h32:k3≠k2:=λq=>by
  subst q;rcases ends E2 x3.2 with z|z
  .exact nb1 z
  .subst z;revert sab s1 s2;cases s a<;>cases s b<;>cases s b1<;>simp
 rw[di];refine oN (a:=[e,k1,k2,k3]) (by simp[Ne.symm n1,Ne.symm n2,h12,Ne.symm h3e,Ne.symm n3,Ne.symm h32]) λx hx=>?_;simp only[ao,bd,or_false]at hx;rw[aJ];rcases hx with rfl|rfl|rfl|rfl
 .exact⟨he,hXe⟩
 .exact⟨hk1,x1.1⟩
 .exact⟨hk2,x2.1⟩
 .exact⟨hk3,x3.1⟩
section
variable {N:Nat}{l:List (Nat×Nat)}
theorem CQ(hl:Pok N l):Bel N l:=λp hp=>by have:=hl p hp;omega
theorem Ia(hl:Pok N l):∀p∈l,p.1<p.2/\p.1∈hds N l/\p.2∈hds N l:=λp hp =>
 ⟨(hl p hp).1,(mem_hds (CQ hl)).2 ⟨p.2,mem_nb.2 (.inl hp)⟩,(mem_hds (CQ hl)).2 ⟨p.1,mem_nb.2 (.inr hp)⟩⟩
theorem vO(hl:Pok N l){r:Nat×Nat}:Pok N (l.erase r):=λp hp=>hl p (jD hp)
theorem five_dp(hl:Pok N l)(h:doc5 N l):¬DP N l/\QP N l:=by
 obtain⟨h1,h2,h3⟩:=h;have hin:=Ia hl;refine⟨λd=>?_,λr hr=>?_⟩
 .refine KM (g:=gW' (hds N l) l hin) (vI hin h1) (by show 2<(hds N l).length;omega) (by show 3*(hds N l).length-6<l.length;omega) (Aq hin d)
 .have hk:=vO hl (r:=r);have hn:=h1.erase r;refine⟨hk,wL (g:=gP N (l.erase r) hk) (ab _) (by rw[ff hr];omega) (λi j hi hj hv=>?_) (hds_nodup N l) h3 λe he=>?_⟩
  .have pi:=pok_at hk hi;have pj:=pok_at hk hj;have v1:=hv ((l.erase r).getD i (0,0)).1;have v2:=hv ((l.erase r).getD i (0,0)).2;rw[gP_at,gP_at]at v1 v2;have key:(l.erase r).getD i (0,0)=(l.erase r).getD j (0,0):=by
    generalize (l.erase r).getD i (0,0)=p at *
    generalize (l.erase r).getD j (0,0)=q at *
    have z1:(p.2==p.1)=false:=by rw[beq_eq_false_iff_ne];omega
    have z2:(p.1==p.2)=false:=by rw[beq_eq_false_iff_ne];omega
    rw[beq_self_eq_true,z1]at v1;rw[beq_self_eq_true,z2]at v2;have w1:q.1=p.1\/q.2=p.1:=by
     by_cases a:q.1=p.1
     .exact .inl a
     .by_cases b:q.2=p.1
      .exact .inr b
      .have y1:(q.1==p.1)=false:=by rw[beq_eq_false_iff_ne];exact a
       have y2:(q.2==p.1)=false:=by rw[beq_eq_false_iff_ne];exact b
       rw[y1,y2]at v1;cases v1
    have w2:q.1=p.2\/q.2=p.2:=by
     by_cases a:q.1=p.2
     .exact .inl a
     .by_cases b:q.2=p.2
      .exact .inr b
      .have y1:(q.1==p.2)=false:=by rw[beq_eq_false_iff_ne];exact a
       have y2:(q.2==p.2)=false:=by rw[beq_eq_false_iff_ne];exact b
       rw[y1,y2]at v2;cases v2
    exact Prod.ext om om
   rw[aj,aj,ae hi,ae hj]at key;exact(nF hn).1 key
  .have hm:(l.erase r).getD e (0,0)∈l.erase r:=by rw[aj,ae he];exact aO _
   exact(hin _ (jD hm)).2
theorem six_dp(hl:Pok N l)(h:doc33 N l):¬DP N l/\QP N l:=by
 obtain⟨h1,h2,h0,t,h3,h4,h5,h6⟩:=h;have hin:=Ia hl;have h7:(hds N l).length=6:=by rw[h3];simp[h4]
 refine⟨λd=>?_,λr hr=>?_⟩
 .obtain⟨Φ,L,R,d⟩:=Aq hin d;have hp:=vI hin h1;have:=MJ (g:=gW' (hds N l) l hin) (c:=4) (k:=4) (λX hX e he hXe=>Fj hp (s:=λi=>sideB l h0 ((hds N l).getD i 0)) (λe he=>?_) hX (aq.2 he) hXe) (by show 4+((hds N l).length-1)=l.length;omega) om d
  .have:4*(4+1)<=2*l.length:=this;omega
  .have he:=aq.1 he;have hm:l.getD e (0,0)∈l:=by rw[aj,ae he];exact aO _
   show sideB l h0 ((hds N l).getD (ixo (hds N l) (l.getD e (0,0)).1) 0)≠sideB l h0 ((hds N l).getD (ixo (hds N l) (l.getD e (0,0)).2) 0);rw[(mV (hin _ hm).2.1).2,(mV (hin _ hm).2.2).2];exact h5 _ hm
 .have hk:=vO hl (r:=r);exact⟨hk,qE _ (gP N (l.erase r) hk) rfl (by rw[ff hr];omega)⟩
end
end Go.Pla
namespace Go.Proofs.YtlolkmcdimgplaaGreat
open Go.Am
open Go.Kur (finP doc5 doc33)
open Go.Pla (Dual at_ DP QP Pok gP gP_at pok_at)
variable {E:List (Int×Int)}{L:List Int}{n:Nat}
def pC(E:List (Int×Int))(L:List Int):List (Int×Int):=L.map λi=>E.getD i.toNat (0,0)
theorem ww(hE:InG n E)(hL:∀i∈L,0<=i/\i<((E.length:Nat):Int)):pC E L=gG E (λv=>v) (nLK L):=by
 unfold pC gG nLK;rw[gC];refine da λi hi=>?_;have:=hL i hi;have hlt:i.toNat<E.length:=om;simp only[Function.comp];rw[aj,ae hlt];exact(hE _ hlt).1
theorem CP(hE:InG n E)(hL:∀i,i<E.length->tlE E i≠hdE E i){K:List Nat}(hK:∀i∈K,i<E.length):Pok n (K.map (pr0 E)):=λp hp=>by
 obtain⟨i,hi,rfl⟩:=bG.1 hp;have h1:=hE i (hK i hi);have h2:=hL i (hK i hi);have e1:tlK E i=tlE E i:=rfl;have e2:hdK E i=hdE E i:=rfl;unfold pr0;rw[e1,e2];simp only;omega
theorem xX{n:Nat}(hP:ip (n:Nat) E){K:List Nat}(nd:K.Nodup)(hK:∀i∈K,i<E.length):IsP (n:Nat) (gG E (λv=>v) K)↔DP n (K.map (pr0 E)):=by
 obtain⟨hP',hE',hL'⟩:=tN hP nd hK (ν:=λv=>v) (λv hv=>hv) (λu v _ _ e=>e);have hE:InG n E:=by simpa using mX hP.1
 have hL:=vW hP.1 hP.2.1;have pk:=CP hE hL hK;rw[xY hP' hE' hL'];have hat:∀e,e<K.length->∀v,at_ (grE n (gG E (λv=>v) K) hE' hL') e v=at_ (gP n (K.map (pr0 E)) pk) e v:=λe he v=>by
  rw[gP_at];show((tlE (gG E (λv=>v) K) e==v)^^(hdE (gG E (λv=>v) K) e==v))=_;rw[(jm he).1,(jm he).2,aj,aG,ae he];simp only[aC,er];show _=(((min (tlE E K[e]) (hdE E K[e]))==v)^^((max (tlE E K[e]) (hdE E K[e]))==v))
  rcases Nat.le_total (tlE E K[e]) (hdE E K[e])with z|z
  .rw[dU z,sQ z]
  .rw[kh z,vg z,kN]
 rw[jh];constructor
 .rintro⟨Φ,l,r,d⟩;refine⟨pk,Φ,l,r,?_⟩;rw[ah];exact d.gr λe he v=>hat e (aq.1 he) v
 .rintro⟨_,Φ,l,r,d⟩;rw[ah]at d;exact⟨Φ,l,r,d.gr λe he v=>(hat e (aq.1 he) v).symm⟩
theorem Il{K:List Nat}{i:Nat}(hi:i<K.length):((K.map (pr0 E)).erase (pr0 E K[i])).Perm ((K.take i++K.drop (i+1)).map (pr0 E)):=by
 have h0:K.Perm (K[i]::(K.take i++K.drop (i+1))):=by
  have e:K=K.take i++K[i]::K.drop (i+1):=by rw[<-cn hi,cm]
  conv=>lhs;rw[e]
  exact List.perm_middle
 have h1:(K.map (pr0 E)).Perm (pr0 E K[i]::(K.take i++K.drop (i+1)).map (pr0 E)):=h0.map (pr0 E);have h2:=h1.erase (pr0 E K[i]);rwa [nS]at h2
theorem Nl{n:Nat}(hP:ip (n:Nat) E){r:AV}(ha:AnsR (n:Nat) E L r):r=.int .i64 0 \/
 ((r=.int .i64 5\/r=.int .i64 33)/\(∀i∈L,0<=i/\i<((E.length:Nat):Int))/\¬IsP (n:Nat) E/\¬IsP (n:Nat) (pC E L)/\∀i,i<L.length->IsP (n:Nat) (pC E (L.take i++L.drop (i+1)))):=by
 have hE:InG n E:=by simpa using mX hP.1
 have hL:=vW hP.1 hP.2.1;rcases ha with⟨_,h⟩|⟨hR,⟨_,h⟩|⟨l,hl,ht⟩⟩
 .exact .inl h
 .exact .inl h
 obtain⟨nd,hok⟩:=hR.lay.nodup;have hin:∀i∈L,0<=i/\i<((E.length:Nat):Int):=λi hi=>⟨(hok i hi).1,(hok i hi).2.1⟩
 have hK:∀i∈nLK L,i<E.length:=λi hi=>by
  obtain⟨z,hz,rfl⟩:=bG.1 hi;have:=hin z hz;omega
 have pk:=CP hE hL hK;have hnn:((n:Nat):Int).toNat=n:=dn n;rw[hnn]at hl ht;obtain⟨k1,k2,k3⟩:=Go.Pla.finP_dp (N:=n) (l:=l0 E L) pk hl;have fin:(¬DP n l/\QP n l)->(∀i∈L,0<=i/\i<((E.length:Nat):Int))/\¬IsP (n:Nat) E/\¬IsP (n:Nat) (pC E L)/\∀i,i<L.length->IsP (n:Nat) (pC E (L.take i++L.drop (i+1))):=λ⟨f1,f2⟩=>by
  have g1:¬DP n ((nLK L).map (pr0 E)):=λd=>f1 (k2.1 d);have g2:QP n ((nLK L).map (pr0 E)):=k3 f2;refine⟨hin,λh=>?_,λh=>?_,λi hi=>?_⟩
  .exact g1 ((xX hP nd hK).1 (HJ h nd hK (ν:=λv=>v) (λv hv=>hv) (λu v _ _ e=>e)))
  .rw[ww hE hin]at h;exact g1 ((xX hP nd hK).1 h)
  .have hi':i<(nLK L).length:=by unfold nLK;rw[ah];exact hi
   have e1:nLK (L.take i++L.drop (i+1))=(nLK L).take i++(nLK L).drop (i+1):=by unfold nLK;rw[bR,eM,fE]
   have e2:((nLK L).take i++(nLK L).drop (i+1)).Nodup:=by rw[<-fP];exact nd.eraseIdx i
   rw[ww hE (λz hz=>hin z (by rw[<-fP]at hz;exact List.mem_of_mem_eraseIdx hz)),e1,xX hP e2 (λz hz=>hK z (by rw[<-fP]at hz;exact List.mem_of_mem_eraseIdx hz))];exact Go.Pla.dp_perm (Il hi') (g2 _ (bG.2 ⟨_,aO hi',rfl⟩))
 rcases ht with⟨h5,h⟩|⟨_,h33,h⟩|⟨_,_,h⟩
 .exact .inr ⟨.inl h,fin (Go.Pla.five_dp k1 h5)⟩
 .exact .inr ⟨.inr h,fin (Go.Pla.six_dp k1 h33)⟩
 .exact .inl h
open Go.Kur
def toI(p:Nat×Nat):Int×Int:=(((p.1:Nat):Int),((p.2:Nat):Int))
def gM(m:Nat):List Int:=(List.range m).map λi=>((i:Nat):Int)
theorem mR(m:Nat):nLK (gM m)=List.range m:=by
 unfold nLK gM;rw[gC]
 conv=>rhs;rw[<-yK (List.range m)]
 exact da λi _=>dn i
theorem CC{l:List (Nat×Nat)}(i:Nat):tlK (l.map toI) i=(l.getD i (0,0)).1/\hdK (l.map toI) i=(l.getD i (0,0)).2:=by
 have:(l.map toI).getD i (0,0)=toI (l.getD i (0,0)):=by
  rw[aj,aj,aG];cases l[i]?<;>rfl
 unfold tlK hdK;rw[this];exact⟨dn _,dn _⟩
theorem An(x:Nat):∀(l pre:List (Nat×Nat)),(List.range' pre.length l.length).flatMap (λk=>(if ((pre++l).getD k (0,0)).1=x then [k]else [])++(if ((pre++l).getD k (0,0)).2=x then [k]else []))=enL l pre.length x
 |[],pre=>rfl
 |p::l,pre=>by
   have ih:=An x l (pre++[p]);rw[bO,List.singleton_append,aB]at ih;rw[ar,km,bm,enL];have e:(pre++p::l).getD pre.length (0,0)=p:=by rw[aj,aV (ab _),dP];rfl
   rw[e];congr 1
section
variable {B K:Nat}{a b ks:Nat->Nat}
theorem HC(lt:∀j,j<K->a j<B/\b j<B/\a j≠b j)(h:(nLK (gM (mkE B a b ks K).length)).Nodup):Mde B K a b ks (grK ((mkE B a b ks K).map toI) (gM (mkE B a b ks K).length) h) where
 lt:=lt
 en:=λx=>by
  rw[qD];unfold pO;rw[mR,List.range_eq_range'];have:=An x (mkE B a b ks K) [];rw[bt,aU]at this;rw[<-this];exact ut λk _=>by rw[(CC k).1,(CC k).2]
 E:=by
  show nLK _=_;rw[mR,oO]
theorem Fa{β:Type}{l:List β}{p:β->Bool}{f:β->List β}(h:∀x∈l,∀y∈f x,y=x):(l.filter p).flatMap f=(l.flatMap f).filter p:=by
 induction l with
 |nil=>rfl
 |cons x l ih =>
   have ih:=ih λx hx=>h x (aQ _ hx);have h0:=h x (aM ..);rw[bm,eL,<-ih,eQ];split
   .rename_i hp
    have e:(f x).filter p=f x:=pn.2 λy hy=>by rw[h0 y hy];exact hp
    rw[bm,e]
   .rename_i hp
    have e:(f x).filter p=[]:=List.filter_eq_nil_iff.2 λy hy=>by rw[h0 y hy];exact hp
    rw[e,bt]
def pU(m i0:Nat):List Int:=((List.range m).filter λi=>decide (i≠i0)).map λi=>((i:Nat):Int)
theorem CY(m i0:Nat):nLK (pU m i0)=(List.range m).filter λi=>decide (i≠i0):=by
 unfold nLK pU;rw[gC]
 conv=>rhs;rw[<-yK ((List.range m).filter _)]
 exact da λi _=>dn i
theorem wi{E:List (Int×Int)}{i0:Nat}(h:(nLK (gM E.length)).Nodup)(h':(nLK (pU E.length i0)).Nodup):Less (grK E (gM E.length) h) (grK E (pU E.length i0) h') i0 where
 en:=λx=>by
  rw[qD,qD];unfold pO;rw[mR,CY];exact Fa λk _ y hy=>by
   rw[aw]at hy;rcases hy with hy|hy
   .split at hy
    .exact aP.1 hy
    .cases hy
   .split at hy
    .exact aP.1 hy
    .cases hy
variable {g:Gr}
theorem Mde.simple(M:Mde B K a b ks g)(hs:∀j j',j<K->j'<K->a j=a j'/\b j=b j'\/a j=b j'/\b j=a j'->j=j'){i i':Nat}(hi:i∈g.E)(hi':i'∈g.E){u v:Nat}(hne:u≠v)(h1:i∈g.ends u)(h2:i∈g.ends v)(h3:i'∈g.ends u)(h4:i'∈g.ends v):i=i':=by
 have inner:∀u v,u≠v->B<=u->i∈g.ends u->i∈g.ends v->i'∈g.ends u->i'∈g.ends v->i=i':=λu v hne hu h1 h2 h3 h4=>by
  refine Classical.byContradiction λhn=>?_;have hv:u<B+sK ks K:=kj λh=>by rw[M.out h]at h1;cases h1
  obtain⟨j,t,k1,k2,k3⟩:=CH (ks:=ks) (show u-B<sK ks K by omega);obtain rfl:u=B+sK ks j+t:=om;have lt:=M.lt j k1;have e:=M.inn k1 k2;have m1:sK ks j+j+t∈g.ends v/\sK ks j+j+t+1∈g.ends v:=by
   rw[e]at h1 h3;simp only[ao,bd,or_false]at h1 h3;rcases h1 with rfl|rfl<;>rcases h3 with rfl|rfl
   .exact absurd rfl hn
   .exact⟨h2,h4⟩
   .exact⟨h4,h2⟩
   .exact absurd rfl hn
  have three:∀{i x y z:Nat},i∈g.ends x->i∈g.ends y->i∈g.ends z->x≠y->z≠y->x=z:=fun {i x y z} h1 h2 h3 n1 n2=>by
   have a1:=(mem_ends.1 h1).2;have a2:=(mem_ends.1 h2).2;have a3:=(mem_ends.1 h3).2;have hl:=M.ne i (mem_ends.1 h1).1;omega
  have w1:=M.vtx k1 (show t<=ks j by omega);have w2:sK ks j+j+t∈g.ends (B+sK ks j+t):=by rw[e];simp
  have w3:sK ks j+j+t+1∈g.ends (B+sK ks j+t):=by rw[e];simp
  have n1:Go.Proofs.YtlolkmcdimgplaaGreat.vtx B a ks j t≠B+sK ks j+t:=by
   unfold Go.Proofs.YtlolkmcdimgplaaGreat.vtx;split<;>omega
  have v1:=three w1 w2 m1.1 n1 (Ne.symm hne);by_cases q:t+1=ks j
  .have w4:=M.lst k1;rw[show sK ks j+j+ks j=sK ks j+j+t+1 by omega]at w4;have v2:=three w4 w3 m1.2 om (Ne.symm hne);rw[<-v2]at v1;unfold Go.Proofs.YtlolkmcdimgplaaGreat.vtx at v1;split at v1
   .exact lt.2.2 v1
   .omega
  .have w4:sK ks j+j+t+1∈g.ends (B+sK ks j+(t+1)):=by rw[M.inn k1 (show t+1<ks j by omega)];simp;omega
   have v2:=three w4 w3 m1.2 om (Ne.symm hne);rw[<-v2]at v1;unfold Go.Proofs.YtlolkmcdimgplaaGreat.vtx at v1;split at v1<;>omega
 by_cases hu:B<=u
 .exact inner u v hne hu h1 h2 h3 h4
 by_cases hv:B<=v
 .exact inner v u (Ne.symm hne) hv h2 h1 h4 h3
 have whole:∀{i},i∈g.E->i∈g.ends u->i∈g.ends v->∃j,j<K/\i=sK ks j+j/\ks j=0/\(a j=u/\b j=v\/a j=v/\b j=u):=fun {i} hi h1 h2=>by
  obtain⟨j,k1,k2⟩:=M.at_old om h1;obtain⟨j',k3,k4⟩:=M.at_old om h2;have e:j=j':=by
   rcases k2 with⟨_,p⟩|⟨_,p⟩<;>rcases k4 with⟨_,q⟩|⟨_,q⟩
   .exact(oG (ks:=ks) (t:=0) (t':=0) (dx _) (dx _) om).1
   .exact(oG (ks:=ks) (t:=0) (t':=ks j') (dx _) (ab _) om).1
   .exact(oG (ks:=ks) (t:=ks j) (t':=0) (ab _) (dx _) om).1
   .exact(oG (ks:=ks) (t:=ks j) (t':=ks j') (ab _) (ab _) om).1
  subst e;refine⟨j,k1,?_⟩;rcases k2 with⟨p,p2⟩|⟨p,p2⟩<;>rcases k4 with⟨q,q2⟩|⟨q,q2⟩
  .exact absurd (p.symm.trans q) hne
  .exact⟨p2,om,.inl ⟨p,q⟩⟩
  .exact⟨q2,om,.inr ⟨q,p⟩⟩
  .exact absurd (p.symm.trans q) hne
 obtain⟨j,k1,k2,k3,k4⟩:=whole hi h1 h2;obtain⟨j',k1',k2',k3',k4'⟩:=whole hi' h3 h4;obtain rfl:=hs j j' k1 k1' om;omega
end
end Go.Proofs.YtlolkmcdimgplaaGreat
