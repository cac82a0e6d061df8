/- The two kinds, by the pairs that are left -/
import Derived.Test.YtlolkmcdimgplaaGreatVTAD
set_option linter.all false
namespace Go.Kur
variable {l:List (Nat×Nat)}{n v:Nat}
variable {g:Gr}
def nb(l:List (Nat×Nat))(x:Nat):List Nat:=l.flatMap λp=>(if p.1=x then [p.2]else [])++(if p.2=x then [p.1]else [])
theorem Hr(l:List (Nat×Nat))(x y:Nat)(hne:∀p∈l,p.1≠p.2):(nb l x).count y=(l.filter λp=>decide (p.1=x/\p.2=y\/p.1=y/\p.2=x)).length:=by
 unfold nb;induction l with
 |nil=>rfl
 |cons p r ih =>
   rw[bm,eG,ih λq hq=>hne q (aQ _ hq),eQ];have hp:=hne p (aM ..);by_cases h1:p.1=x<;>by_cases h2:p.2=x
   .exact absurd (h1.trans h2.symm) hp
   .by_cases h3:p.2=y
    .have hyx:¬y=x:=om;have hxy:¬x=y:=om;simp[h1,h2,h3,hyx,hxy];omega
    .have:¬(p.1=x/\p.2=y\/p.1=y/\p.2=x):=om;simp[h1,h2,h3,this]
   .by_cases h3:p.1=y
    .have hyx:¬y=x:=om;have hxy:¬x=y:=om;simp[h1,h2,h3,hyx,hxy];omega
    .have:¬(p.1=x/\p.2=y\/p.1=y/\p.2=x):=om;simp[h1,h2,h3,this]
   .have:¬(p.1=x/\p.2=y\/p.1=y/\p.2=x):=om;simp[h1,h2,this]
theorem mem_nb{x y:Nat}:y∈nb l x↔(x,y)∈l\/(y,x)∈l:=by
 unfold nb;rw[bH];constructor
 .rintro⟨⟨a,b⟩,h1,h2⟩;simp only[aw]at h2;rcases h2 with h2|h2
  .split at h2
   .rename_i e
    rw[aP]at h2;subst e h2;exact .inl h1
   .cases h2
  .split at h2
   .rename_i e
    rw[aP]at h2;subst e h2;exact .inr h1
   .cases h2
 .rintro (h|h)
  .exact⟨_,h,by simp⟩
  .exact⟨_,h,by simp⟩
theorem BD(l:List (Nat×Nat))(x:Nat):(nb l x).length=(l.flatMap λp=>[p.1,p.2]).count x:=by
 unfold nb;induction l with
 |nil=>rfl
 |cons p r ih =>
   rw[bm,bm,aB,eG,ih];congr 1;by_cases h1:p.1=x<;>by_cases h2:p.2=x<;>simp[h1,h2]
def Srt(l:List (Nat×Nat)):Prop:=∀p∈l,p.1<p.2
theorem qu(hs:Srt l):l.Nodup↔∀x,(nb l x).Nodup:=by
 have hne:∀p∈l,p.1≠p.2:=λp hp=>FT (hs p hp);have key:∀x y,x<y->(l.filter λp=>decide (p.1=x/\p.2=y\/p.1=y/\p.2=x)).length=l.count (x,y):=by
  intro x y hxy;rw[List.count_eq_length_filter];congr 1;refine hU λp hp=>?_;have:=hs p hp;rw[eq,aK,beq_iff_eq];constructor
  .rintro (⟨h1,h2⟩|⟨h1,h2⟩)
   .exact Prod.ext h1 h2
   .omega
  .rintro rfl;exact .inl ⟨rfl,rfl⟩
 have sym:∀x y,(l.filter λp=>decide (p.1=x/\p.2=y\/p.1=y/\p.2=x))=l.filter λp=>decide (p.1=y/\p.2=x\/p.1=x/\p.2=y):=λx y=>by
  refine hU λp _=>?_;rw[decide_eq_decide];exact Or.comm
 rw[yH];constructor
 .intro h x;rw[yH];intro y;rw[Hr l x y hne];rcases jF x y with q|q|q
  .rw[key x y q];exact h _
  .subst q;rw[bF.2]
   .exact dx _
   .rw[List.filter_eq_nil_iff];intro p hp;have:=hs p hp;simp only[aK];omega
  .rw[sym,key y x q];exact h _
 .rintro h ⟨x,y⟩;by_cases hm:(x,y)∈l
  .have q:=hs _ hm;simp only at q;rw[<-key x y q,<-Hr l x y hne];exact yH.1 (h x) y
  .rw[List.count_eq_zero_of_not_mem hm];exact dx _
def hds(n:Nat)(l:List (Nat×Nat)):List Nat:=(List.range n).filter λv=>decide (0<(nb l v).length)
def Bel(n:Nat)(l:List (Nat×Nat)):Prop:=∀p∈l,p.1<n/\p.2<n
theorem HZ(n:Nat)(l:List (Nat×Nat)):(hds n l).Pairwise (·<·):=List.pairwise_lt_range.filter _
theorem hds_nodup(n:Nat)(l:List (Nat×Nat)):(hds n l).Nodup:=List.nodup_range.filter _
theorem mem_hds(hb:Bel n l):v∈hds n l↔∃y,y∈nb l v:=by
 unfold hds;rw[aJ,aq,aK];constructor
 .rintro⟨_,h⟩;exact List.exists_mem_of_length_pos h
 .rintro⟨y,hy⟩;refine⟨?_,uZ hy⟩;rcases mem_nb.1 hy with h|h
  .exact(hb _ h).1
  .exact(hb _ h).2
theorem tU(hb:Bel n l){y:Nat}(h:y∈nb l v):v∈hds n l/\y∈hds n l:=⟨(mem_hds hb).2 ⟨y,h⟩,(mem_hds hb).2 ⟨v,mem_nb.2 (mem_nb.1 h).symm⟩⟩
theorem AU(hb:Bel n l):((hds n l).map λv=>(nb l v).length).sum=2*l.length:=by
 have h1:((hds n l).map λv=>(nb l v).length).sum=((List.range n).map λv=>(nb l v).length).sum:=by
  unfold hds;generalize List.range n=r;induction r with
  |nil=>rfl
  |cons v r ih =>
    rw[eQ];split
    .rw[aS,eA,ih,aS,eA]
    .rename_i h
     rw[aS,eA,ih];simp only[aK]at h;omega
 rw[h1];have one:∀a,a<n->((List.range n).map λv=>if a=v then 1 else 0).sum=1:=by
  intro a ha;clear hb h1;induction n with
  |zero=>omega
  |succ n ih =>
    rw[cJ,bR,List.sum_append];by_cases e:a=n
    .subst e;have:((List.range a).map λv=>if a=v then 1 else 0).sum=0:=by
      have:((List.range a).map λv=>if a=v then 1 else 0)=(List.range a).map λ_=>0:=by
       refine da λv hv=>if_neg ?_;have:=aq.1 hv;omega
      rw[this,vi];simp
     rw[this];simp
    .rw[ih om];simp[e]
 have key:∀(l:List (Nat×Nat)),Bel n l->((List.range n).map λv=>(nb l v).length).sum=2*l.length:=by
  intro l;induction l with
  |nil =>
    intro _;rw[show(List.range n).map (λv=>(nb [] v).length)=(List.range n).map λ_=>0 from rfl,vi];simp
  |cons p r ih =>
    intro hb;have e:∀v,(nb (p::r) v).length=((if p.1=v then 1 else 0)+(if p.2=v then 1 else 0))+(nb r v).length:=λv=>by
     rw[BD,BD,bm,eG];congr 1;by_cases h1:p.1=v<;>by_cases h2:p.2=v<;>simp[h1,h2]
    have add:∀(f h:Nat->Nat) (r:List Nat),(r.map λv=>f v+h v).sum=(r.map f).sum+(r.map h).sum:=by
     intro f h r;induction r with
     |nil=>rfl
     |cons v r ih=>simp only[aS,eA,ih];omega
    simp only[e];rw[add,add,one _ (hb p (aM ..)).1,one _ (hb p (aM ..)).2,ih λq hq=>hb q (aQ _ hq)];simp only[ar];omega
 exact key l hb
theorem Jg(hb:Bel n l)(hnd:∀x,(nb l x).Nodup)(R:Nat->List Nat)(hR:∀x∈hds n l,(∀y∈nb l x,y∈R x))
 (hc:((hds n l).map λv=>(R v).length).sum=2*l.length):∀x∈hds n l,(nb l x).Perm (R x):=by
 have hle:∀x∈hds n l,(nb l x).length<=(R x).length:=λx hx=>len_le_of_sub (hnd x) (hR x hx);have heq:∀(h:List Nat),(∀x∈h,(nb l x).length<=(R x).length)->(h.map λv=>(R v).length).sum=(h.map λv=>(nb l v).length).sum->∀x∈h,(R x).length=(nb l x).length:=by
  intro h;induction h with
  |nil=>intro _ _ x hx;cases hx
  |cons v r ih =>
    intro h1 h2 x hx;rw[aS,eA,aS,eA]at h2;have hs:∀(r:List Nat),(∀x∈r,(nb l x).length<=(R x).length)->(r.map λv=>(nb l v).length).sum<=(r.map λv=>(R v).length).sum:=by
     intro r;induction r with
     |nil=>intro _;exact ab _
     |cons v r ih =>
       intro h;simp only[aS,eA];have a:=h v (aM ..);have b:=ih λx hx=>h x (aQ _ hx);omega
    have q1:=h1 v (aM ..);have q2:=hs r λx hx=>h1 x (aQ _ hx);rcases ao.1 hx with rfl|hx
    .omega
    .exact ih (λx hx=>h1 x (aQ _ hx)) om x hx
 intro x hx;exact perm_of_sub (hnd x) (hR x hx) (by rw[heq _ hle (by rw[hc,AU hb]) x hx];exact ab _)
def doc5(n:Nat)(l:List (Nat×Nat)):Prop:=l.Nodup/\l.length=10/\(hds n l).length=5
def CO(n:Nat)(l:List (Nat×Nat)):Prop:=(∀v∈hds n l,(nb l v).length=4)/\(hds n l).length=5/\∀x∈hds n l,(nb l x).Perm ((hds n l).filter λy=>!decide (y=x))
theorem oM(h:List Nat)(f:Nat->Nat)(c:Nat)(hf:∀x∈h,f x=c):(h.map f).sum=h.length*c:=by
 induction h with
 |nil=>simp
 |cons v r ih =>
   rw[aS,eA,ih λx hx=>hf x (aQ _ hx),hf v (aM ..),ar,cT];omega
theorem uv{h:List Nat}(hn:h.Nodup){x:Nat}(hx:x∈h):(h.filter λy=>!decide (y=x)).length+1=h.length:=by
 induction h with
 |nil=>cases hx
 |cons v r ih =>
   obtain⟨h1,h2⟩:=aY.1 hn;rw[eQ];by_cases e:v=x
   .subst e;simp only[decide_true,cD,bC,if_false];rw[pn.2 (λy hy=>by
     simp only[dJ,aZ];exact λe=>h1 (by rw[<-e];exact hy))]
    rfl
   .simp only[e,decide_false,cr,if_true,ar];rcases ao.1 hx with rfl|hx
    .exact absurd rfl e
    .rw[ih h2 hx]
theorem Lh(hs:Srt l)(hb:Bel n l):doc5 n l↔CO n l:=by
 have hH:=hds_nodup n l;constructor
 .rintro⟨h1,h2,h3⟩;have hp:=Jg hb ((qu hs).1 h1) (λx=>(hds n l).filter λy=>!decide (y=x)) (λx hx y hy=>by
   rw[aJ];refine⟨(tU hb hy).2,?_⟩;simp only[dJ,aZ];rintro rfl;rcases mem_nb.1 hy with h|h<;>exact absurd (hs _ h) (Nat.lt_irrefl _)) (by
   rw[oM (c:=4) _ _ λx hx=>by have:=uv hH hx;omega];omega)
  refine⟨λv hv=>?_,h3,hp⟩;rw[(hp v hv).length_eq];have:=uv hH hv;omega
 .rintro⟨h1,h2,h3⟩;refine⟨(qu hs).2 λx=>?_,?_,h2⟩
  .by_cases hx:x∈hds n l
   .exact((h3 x hx).nodup_iff).2 (hH.filter _)
   .have:nb l x=[]:=by
     rw[List.eq_nil_iff_forall_not_mem];exact λy hy=>hx ((mem_hds hb).2 ⟨y,hy⟩)
    rw[this];exact fI
  .have:=AU hb;rw[oM (c:=4) _ _ h1]at this;omega
def sideB(l:List (Nat×Nat))(h0 v:Nat):Bool:=decide (v∈nb l h0)
def doc33(n:Nat)(l:List (Nat×Nat)):Prop:=l.Nodup/\l.length=9/\∃h0 r,hds n l=h0::r/\r.length=5/\(∀p∈l,sideB l h0 p.1≠sideB l h0 p.2)/\(nb l h0).length=3
def xC(n:Nat)(l:List (Nat×Nat)):Prop:=(∀v∈hds n l,(nb l v).length=3)/\∃h0 r,hds n l=h0::r/\r.length=5 /\
 ∀x∈hds n l,if sideB l h0 x then(nb l x).Perm ((hds n l).filter λy=>!sideB l h0 y)/\((hds n l).filter λy=>!sideB l h0 y).length=3 else(nb l x).Perm (nb l h0)/\(nb l h0).length=3
theorem oA{α:Type}(h:List α)(p:α->Bool):(h.filter p).length+(h.filter λy=>!p y).length=h.length:=by
 have:=(iO p h).length_eq;rw[aB]at this;exact this
theorem Mp(hs:Srt l)(hb:Bel n l):doc33 n l↔xC n l:=by
 have hH:=hds_nodup n l;constructor
 .rintro⟨h1,h2,h0,r,h3,h4,h5,h6⟩;have hnd:=(qu hs).1 h1;have hT:((hds n l).filter (sideB l h0)).length=3:=by
   have:((hds n l).filter (sideB l h0)).Perm (nb l h0):=by
    refine(perm_of_sub (hnd h0) (λy hy=>aJ.2 ⟨(tU hb hy).2,bp hy⟩) ?_).symm;exact len_le_of_sub (hH.filter _) λy hy=>cE (aJ.1 hy).2
   rw[this.length_eq,h6]
  have hS:((hds n l).filter λy=>!sideB l h0 y).length=3:=by
   have:=oA (hds n l) (sideB l h0);rw[h3]at this hT |-;simp only[ar]at this;omega
  have Dw:∀{x y},y∈nb l x->sideB l h0 x≠sideB l h0 y:=fun {x y} hy=>by
   rcases mem_nb.1 hy with h|h
   .exact h5 _ h
   .exact(h5 _ h).symm
  have hlen:∀x∈hds n l,(if sideB l h0 x then(hds n l).filter (λy=>!sideB l h0 y)else nb l h0).length=3:=λx _=>by split<;>assumption
  have hp:=Jg hb hnd (λx=>if sideB l h0 x then(hds n l).filter (λy=>!sideB l h0 y)else nb l h0) (λx hx y hy=>by
   have hc:=Dw hy;split
   .rename_i e
    rw[e]at hc;exact aJ.2 ⟨(tU hb hy).2,by cases hq:sideB l h0 y<;>simp_all⟩
   .rename_i e
    have:sideB l h0 y=true:=by cases hq:sideB l h0 y<;>simp_all
    exact cE this) (by
   rw[oM (c:=3) _ _ hlen,h3];simp only[ar];omega)
  refine⟨λv hv=>by rw[(hp v hv).length_eq];exact hlen v hv,h0,r,h3,h4,λx hx=>?_⟩;have:=hp x hx;split
  .rename_i e
   rw[if_pos e]at this;exact⟨this,hS⟩
  .rename_i e
   rw[if_neg e]at this;exact⟨this,h6⟩
 .rintro⟨h1,h0,r,h3,h4,h5⟩;have m0:h0∈hds n l:=by rw[h3];exact aM ..
  have h6:=h1 h0 m0;obtain⟨t,ht⟩:=List.exists_mem_of_length_pos (l:=nb l h0) om;have hS:((hds n l).filter λy=>!sideB l h0 y).length=3:=by
   have:=h5 t (tU hb ht).2;rw[if_pos (show sideB l h0 t=true from bp ht)]at this;exact this.2
  have hT:((hds n l).filter (sideB l h0)).length=3:=by
   have:=oA (hds n l) (sideB l h0);rw[h3]at this hS |-;simp only[ar]at this;omega
  have hTp:((hds n l).filter (sideB l h0)).Perm (nb l h0):=perm_of_sub (hH.filter _) (λy hy=>cE (aJ.1 hy).2) om;refine⟨(qu hs).2 λx=>?_,?_,h0,r,h3,h4,λp hp=>?_,h6⟩
  .by_cases hx:x∈hds n l
   .have:=h5 x hx;split at this
    .exact(this.1.nodup_iff).2 (hH.filter _)
    .exact((this.1.trans hTp.symm).nodup_iff).2 (hH.filter _)
   .have:nb l x=[]:=by
     rw[List.eq_nil_iff_forall_not_mem];exact λy hy=>hx ((mem_hds hb).2 ⟨y,hy⟩)
    rw[this];exact fI
  .have:=AU hb;rw[oM (c:=3) _ _ h1,h3]at this;simp only[ar]at this;omega
  .have hy:p.2∈nb l p.1:=mem_nb.2 (.inl hp);have:=h5 p.1 (tU hb hy).1;split at this
   .rename_i e
    have:=(aJ.1 (this.1.mem_iff.1 hy)).2;rw[e];intro q;rw[<-q]at this;cases this
   .rename_i e
    have:sideB l h0 p.2=true:=bp (this.1.mem_iff.1 hy);rw[this];exact e
end Go.Kur
namespace Go.Proofs.YtlolkmcdimgplaaGreat
open Go.Am
variable {E:List (Int×Int)}{c db e i k lo wb x:Nat}{es:List (AV×AV×Nat)}{h h' h0:AH}{l:List Nat}{n:Int}{p:Nat×List Nat}{v:AV}
def po(ks:List Nat)(k:Nat):List Nat:=if k∈ks then ks else ks++[k]
def fk(ks l:List Nat):List Nat:=l.foldl po ks
theorem Ji{ks:List Nat}:x∈po ks k↔x∈ks\/x=k:=by
 unfold po;split
 .rename_i h
  constructor
  .exact .inl
  .rintro (h'|rfl)
   .exact h'
   .exact h
 .simp
theorem pX{ks:List Nat}(h:ks.Nodup):(po ks k).Nodup:=by
 unfold po;split
 .exact h
 .rename_i hk
  rw[aN];refine⟨h,by simp,λa ha b hb=>?_⟩;rw[aP]at hb;subst hb;rintro rfl;exact hk ha
theorem nA:∀{ks:List Nat}{x:Nat},x∈fk ks l↔x∈ks\/x∈l:=by
 induction l with
 |nil=>intro ks x;simp[fk]
 |cons a r ih =>
   intro ks x;show x∈fk (po ks a) r↔_;rw[ih,Ji,ao,or_assoc]
theorem qO:∀{ks:List Nat},ks.Nodup->(fk ks l).Nodup:=by
 induction l with
 |nil=>intro ks h;exact h
 |cons a r ih=>intro ks h;exact ih (pX h)
theorem pY{ks a b:List Nat}:fk ks (a++b)=fk (fk ks a) b:=eW ..
def yN(es:List (AV×AV×Nat))(ks:List Nat):Prop:=es.map (·.1)=ks.map λk=>AV.int .i64 ((k:Nat):Int)
theorem ug:∀{es:List (AV×AV×Nat)}{ks:List Nat},yN es ks->∀k:Nat,(k∉ks/\gX .ki (.int .i64 (k:Nat)) es=some none) \/
 ∃i v n,gX .ki (.int .i64 (k:Nat)) es=some (some (i,v,n))/\es[i]?=some (.int .i64 (k:Nat),v,n)/\ks[i]?=some k/\∀j,j<i->ks[j]?≠some k
 |[],ks,h,k=>by
   have:ks=[]:=by
    have:=congrArg List.length h;simp at this;exact bF.1 this.symm
   subst this;exact .inl ⟨by simp,rfl⟩
 |e::r,[],h,k=>by simp[yN]at h
 |(a,b,n)::r,p::ks,h,k=>by
   have h':=h;simp only[yN,aS,fh]at h';obtain⟨rfl,h2⟩:=h';have hk:iR .ki (.int .i64 ((k:Nat):Int)) (.int .i64 ((p:Nat):Int))=some (((k:Nat):Int)==((p:Nat):Int)):=by simp[iR]
   by_cases q:p=k
   .subst q;refine .inr ⟨0,b,n,?_,rfl,rfl,λj hj=>absurd hj (gY _)⟩;simp only[gX,hk,beq_self_eq_true]
   .have hne:(((k:Nat):Int)==((p:Nat):Int))=false:=by rw[beq_eq_false_iff_ne];omega
    rcases ug (es:=r) (ks:=ks) h2 k with⟨h3,h4⟩|⟨i,v,m,h3,h4,h5,h6⟩
    .refine .inl ⟨?_,?_⟩
     .rw[ao];rintro (e|e)
      .exact q e.symm
      .exact h3 e
     .simp only[gX,hk,hne,h4];rfl
    .refine .inr ⟨i+1,v,m,?_,h4,h5,λj hj=>?_⟩
     .simp only[gX,hk,hne,h3];rfl
     .cases j with
      |zero=>simpa using q
      |succ j=>simpa using h6 j om
theorem gT{k:Int}:pA .ki (.int .i64 k)=true:=by simp[pA,iR]
theorem nX{k:AV}{n:Nat}{u:AV}(h:es[i]?=some (k,v,n)):(es.set i (k,u,n)).map (·.1)=es.map (·.1)/\(es.set i (k,u,n)).map (·.2.2)=es.map (·.2.2):=by
 rw[pq,pq];have h1:(es.map (·.1))[i]?=some k:=by rw[aG,h];rfl
 have h2:(es.map (·.2.2))[i]?=some n:=by rw[aG,h];rfl
 constructor
 .refine dI λj=>?_;rw[dB];split
  .rename_i e;subst e;rw[h1];split
   .rfl
   .rename_i hn;rw[bX om]at h1;cases h1
  .rfl
 .refine dI λj=>?_;rw[dB];split
  .rename_i e;subst e;rw[h2];split
   .rfl
   .rename_i hn;rw[bX om]at h2;cases h2
  .rfl
def MapK(h:AH)(db:Nat)(ks:List Nat):Prop:=∃es c,h.get db=some (.mapo es c)/\yN es ks/\∀e∈es,∃z,e.2.1=.int .i64 z
theorem MapK.len{ks:List Nat}(m:MapK h db ks):sz h (.mp db)=some (.int .i64 (ks.length:Nat)):=by
 obtain⟨es,c,h1,h2,_⟩:=m;have:=congrArg List.length h2;simp only[ah]at this;simp only[sz,h1,this]
theorem MapK.look{ks:List Nat}(m:MapK h db ks)(k:Nat):∃z,jr h .ki false (.int .i64 0) (.mp db) (.int .i64 (k:Nat))=some (.int .i64 z):=by
 obtain⟨es,c,h1,h2,h3⟩:=m;rcases ug h2 k with⟨q1,q2⟩|⟨i,v,n,q1,q2,q3,q4⟩
 .exact⟨0,by simp only[jr,h1,gT,q2,if_true];rfl⟩
 .obtain⟨z,hz⟩:=h3 _ (df q2);simp only at hz;subst hz;exact⟨z,by simp only[jr,h1,gT,q1,if_true];rfl⟩
theorem MapK.up{ks:List Nat}(m:MapK h db ks)(k:Nat)(z:Int):∃h',pL h .ki (.mp db) (.int .i64 (k:Nat)) (.int .i64 z)=some (.un,h')/\MapK h' db (po ks k)/\∃o,Upd h h' db o:=by
 obtain⟨es,c,h1,h2,h3⟩:=m;rcases ug h2 k with⟨q1,q2⟩|⟨i,v,n,q1,q2,q3,q4⟩
 .have u:=Nv (o:=.mapo (es++[(.int .i64 (k:Nat),.int .i64 z,c)]) (c+1)) h1;refine⟨_,by simp only[pL,h1,gT,q2,if_true],⟨_,_,u.get,?_,λe he=>?_⟩,_,u⟩
  .unfold po yN;rw[if_neg q1,bR,bR,h2];rfl
  .rcases aw.1 he with he|he
   .exact h3 e he
   .rw[aP]at he;subst he;exact⟨z,rfl⟩
 .have u:=Nv (o:=.mapo (es.set i (.int .i64 (k:Nat),.int .i64 z,n)) c) h1;refine⟨_,by simp only[pL,h1,gT,q1,if_true],⟨_,_,u.get,?_,λe he=>?_⟩,_,u⟩
  .unfold po yN;rw[if_pos (df q3),(nX q2).1];exact h2
  .rcases qQ he with he|rfl
   .exact h3 e he
   .exact⟨z,rfl⟩
theorem MapK.nil(hg:h.get db=some (.mapo [] c)):MapK h db []:=⟨[],c,hg,rfl,λe he=>by cases he⟩
theorem MapK.cong{ks:List Nat}(m:MapK h db ks)(hg:h'.get db=h.get db):MapK h' db ks:=by
 obtain⟨es,c,h1,h2⟩:=m;exact⟨es,c,by rw[hg];exact h1,h2⟩
theorem MapK.lt{ks:List Nat}(m:MapK h db ks):db<h.next:=by
 obtain⟨es,c,h1,_⟩:=m;exact AH.lt_of_get h1
theorem MapK.clr{ks:List Nat}(m:MapK h db ks):∃h',EH h (.mp db)=some (.un,h')/\MapK h' db []/\∃o,Upd h h' db o:=by
 obtain⟨es,c,h1,h2⟩:=m;have u:=Nv (o:=.mapo [] c) h1;exact⟨_,by simp only[EH,h1],MapK.nil u.get,_,u⟩
abbrev ML:=List (Nat×List Nat)
def lkL(ml:ML)(x:Nat):List Nat:=((ml.find? λp=>p.1==x).map (·.2)).getD []
def lQ:ML->Nat->Nat->ML
 |[],x,i=>[(x,[i])]
 |p::r,x,i=>if p.1=x then(x,p.2++[i])::r else p::lQ r x i
theorem ij(p:Nat×List Nat)(r:ML)(x:Nat):lkL (p::r) x=if p.1=x then p.2 else lkL r x:=by
 unfold lkL;rw[LP];by_cases e:p.1=x
 .rw[if_pos e,show(p.1==x)=true from by simpa using e];rfl
 .rw[if_neg e,show(p.1==x)=false from by simpa using e]
theorem tZ(ml:ML)(x i y:Nat):lkL (lQ ml x i) y=if x=y then lkL ml y++[i]else lkL ml y:=by
 induction ml with
 |nil =>
   rw[lQ,ij];by_cases e:x=y
   .rw[if_pos e,if_pos e];rfl
   .rw[if_neg e,if_neg e]
 |cons p r ih =>
   rw[lQ];by_cases e:p.1=x
   .rw[if_pos e,ij,ij];simp only;by_cases e2:x=y
    .rw[if_pos e2,if_pos e2,if_pos (e.trans e2)]
    .rw[if_neg e2,if_neg e2,if_neg om]
   .rw[if_neg e,ij,ij,ih];by_cases e2:x=y
    .have h3:¬p.1=y:=om;simp only[if_pos e2,if_neg h3]
    .rw[if_neg e2,if_neg e2]
variable {ml:ML}
theorem Cz(h:∀p∈ml,p.2≠[])(x i:Nat):∀p∈lQ ml x i,p.2≠[]:=by
 induction ml with
 |nil=>intro p hp;simp only[lQ,aP]at hp;subst hp;simp
 |cons q r ih =>
   intro p hp;rw[lQ]at hp;split at hp
   .rcases ao.1 hp with rfl|hp
    .simp
    .exact h p (aQ _ hp)
   .rcases ao.1 hp with rfl|hp
    .exact h _ (aM ..)
    .exact ih (λp hp=>h p (aQ _ hp)) p hp
theorem mm(ml:ML)(x i:Nat):(lQ ml x i).map (·.1)=po (ml.map (·.1)) x:=by
 induction ml with
 |nil=>rfl
 |cons p r ih =>
   rw[lQ,aS];unfold po at ih |-;by_cases e:p.1=x
   .rw[if_pos e,if_pos (by rw[e];exact aM ..),aS,e]
   .rw[if_neg e,aS,ih];by_cases e2:x∈r.map (·.1)
    .rw[if_pos e2,if_pos (aQ _ e2)]
    .rw[if_neg e2,if_neg]
     .rfl
     .rw[ao];rintro (q|q)
      .exact e q.symm
      .exact e2 q
theorem xS(hn:(ml.map (·.1)).Nodup)(hp:p∈ml):lkL ml p.1=p.2:=by
 induction ml with
 |nil=>cases hp
 |cons q r ih =>
   rw[aS]at hn;obtain⟨h1,h2⟩:=aY.1 hn;rw[ij];rcases ao.1 hp with rfl|hp
   .rw[if_pos rfl]
   .rw[if_neg λe=>h1 (by rw[e];exact iE hp)];exact ih h2 hp
theorem ua(h:x∉ml.map (·.1)):lkL ml x=[]:=by
 induction ml with
 |nil=>rfl
 |cons q r ih =>
   rw[aS,ao]at h;rw[ij,if_neg λe=>h (.inl e.symm)];exact ih λq=>h (.inr q)
theorem Jv(hk:ml[k]?=some p)(hp:p.1=x)(hj:∀j,j<k->(ml.map (·.1))[j]?≠some x):lQ ml x i=ml.set k (x,p.2++[i]):=by
 induction ml generalizing k with
 |nil=>simp at hk
 |cons q r ih =>
   cases k with
   |zero =>
     simp only[aW,aa]at hk;subst hk;rw[lQ,if_pos hp];rfl
   |succ k =>
     have h0:=hj 0 om;simp only[aS,aW,ne_eq,aa]at h0;rw[lQ,if_neg h0,Ct,ih (k:=k) (by simpa using hk) λj hj'=>by simpa using hj (j+1) om]
theorem FY(h:x∉ml.map (·.1)):lQ ml x i=ml++[(x,[i])]:=by
 induction ml with
 |nil=>rfl
 |cons q r ih =>
   rw[aS,ao]at h;rw[lQ,if_neg λe=>h (.inl e.symm),ih λq=>h (.inr q)];rfl
structure MapL(h:AH)(lo:Nat)(es:List (AV×AV×Nat))(c:Nat)(ml:ML):Prop where
 keys:yN es (ml.map (·.1))
 at_:∀(i:Nat) (e:AV×AV×Nat) (p:Nat×List Nat),es[i]?=some e->ml[i]?=some p->IsSl h 1 lo e.2.1 (nC p.2)
 sep:∀(i j:Nat) (e e':AV×AV×Nat),i≠j->es[i]?=some e->es[j]?=some e'->∀b n b' n',e.2.1=.sl b 0 n n->e'.2.1=.sl b' 0 n' n'->b≠b'
 st:(es.map (·.2.2)).Pairwise (·<·)/\∀e∈es,e.2.2<c
theorem MapL.nil{h:AH}{lo c:Nat}:MapL h lo [] c []:=⟨rfl,λi e p q=>by simp at q,λi j e e' _ q=>by simp at q,.nil,λe he=>by cases he⟩
theorem MapL.len(m:MapL h lo es c ml):es.length=ml.length:=by
 have:=congrArg List.length m.keys;simpa using this
theorem MapL.cong{h h':AH}{lo c:Nat}{es:List (AV×AV×Nat)}{ml:ML}(m:MapL h lo es c ml)(hk:∀c,lo<=c->c<h.next->h'.get c=h.get c):MapL h' lo es c ml :=
 ⟨m.keys,λi e p q1 q2=>(m.at_ i e p q1 q2).cong λb n e' hb=>hk b hb ((m.at_ i e p q1 q2).lt e'),m.sep,m.st⟩
theorem MapL.look{mb:Nat}(m:MapL h lo es c ml)(hg:h.get mb=some (.mapo es c))(x:Nat) :
 ∃v,jr h .ki false .nils (.mp mb) (.int .i64 (x:Nat))=some v/\IsSl h 1 lo v (nC (lkL ml x)):=by
 rcases ug m.keys x with⟨q1,q2⟩|⟨i,v,n,q1,q2,q3,q4⟩
 .exact⟨.nils,by simp only[jr,hg,gT,q2,if_true];rfl,.inl ⟨rfl,by rw[ua q1];rfl⟩⟩
 .refine⟨v,by simp only[jr,hg,gT,q1,if_true];rfl,?_⟩;rw[aG]at q3;obtain⟨p,hp,rfl⟩:=aE.1 q3;have h1:=m.at_ i _ p q2 hp;have:lkL ml p.1=p.2:=by
   have key:∀{ml:ML}{i:Nat}{p:Nat×List Nat},ml[i]?=some p->(∀j,j<i->(ml.map (·.1))[j]?≠some p.1)->lkL ml p.1=p.2:=by
    intro ml;induction ml with
    |nil=>intro i p h;simp at h
    |cons q r ih =>
      intro i p hp hj;cases i with
      |zero =>
        simp only[aW,aa]at hp;subst hp;rw[ij,if_pos rfl]
      |succ i =>
        have h0:=hj 0 om;simp only[aS,aW,ne_eq,aa]at h0;rw[ij,if_neg h0];exact ih (by simpa using hp) λj hj'=>by simpa using hj (j+1) om
   exact key hp q4
  rw[this];exact h1
theorem Da{mb:Nat}{e:RE}{ok:Bool}{z k:AV}(hg:h'.get mb=h.get mb):jr h' e ok z (.mp mb) k=jr h e ok z (.mp mb) k:=by
 simp only[jr,hg]
theorem MapL.up{mb x0:Nat}(m:MapL h lo es c ml)(hg:h.get mb=some (.mapo es c))(hmb:mb<lo)(hlo:lo<=h.next)(x i:Nat)(hx0:h.get x0=some (.cells [.int .i64 (i:Nat)] 1 false))(hxl:lo<=x0)
 (hxn:∀(j:Nat) (e:AV×AV×Nat),es[j]?=some e->∀b n,e.2.1=.sl b 0 n n->b≠x0) (hl:(lkL ml x).length<2^30) :
 ∃v v' h1 h2 es' c',jr h .ki false .nils (.mp mb) (.int .i64 (x:Nat))=some v/\iX h 1 8 v (.sl x0 0 1 1)=some (v',h1)/\h1.get mb=some (.mapo es c)/\pL h1 .ki (.mp mb) (.int .i64 (x:Nat)) v'=some (.un,h2)/\h2.get mb=some (.mapo es' c')/\MapL h2 lo es' c' (lQ ml x i) /\
   Ext lo h h1/\Kp (λc=>c=mb\/lo<=c) h h2/\(∀c,c<h.next->(∀(j:Nat) (e:AV×AV×Nat),es[j]?=some e->∀n,e.2.1≠.sl c 0 n n)->h1.get c=h.get c/\(c≠mb->h2.get c=h.get c)) /\
   (∀(j:Nat) (e:AV×AV×Nat),es'[j]?=some e->∀b n,e.2.1=.sl b 0 n n->b=h.next\/∃(j:Nat) (e:AV×AV×Nat) (n:Nat),es[j]?=some e/\e.2.1=.sl b 0 n n)/\h2.next=h.next+1:=by
 have hmx:mb<h.next:=AH.lt_of_get hg;have nine:nC [i]=[AV.int .i64 ((i:Nat):Int)]:=rfl;rcases ug m.keys x with⟨q1,q2⟩|⟨k,v,n,q1,q2,q3,q4⟩
 ·
  have hz:lkL ml x=[]:=ua q1;have hn:IsSl h 1 lo .nils (nC []):=.inl ⟨rfl,rfl⟩;obtain⟨v',h1,a1,a2,a3,a4,a5,a6,a7⟩:=hn.app (bytes:=8) hlo om hx0 hxl (λb n e=>by cases e) rfl rfl (by unfold bq;simp[nC]) (by unfold bq;simp[nC]);have g1:h1.get mb=some (.mapo es c):=by rw[a3.gt _ hmb];exact hg
  have u:=Nv (o:=.mapo (es++[(.int .i64 (x:Nat),v',c)]) (c+1)) g1;have hel:es.length=ml.length:=m.len;refine⟨.nils,v',h1,_,es++[(.int .i64 (x:Nat),v',c)],c+1,by simp only[jr,hg,gT,q2,if_true];rfl,a1,g1,by simp only[pL,g1,gT,q2,if_true],u.get,?_,a3,?_,λc hc hcn=>?_,λj e e1 b n e3=>?_,by rw[u.nx,a5]⟩
  .have keep:∀(j:Nat) (e:AV×AV×Nat) (p:Nat×List Nat),es[j]?=some e->ml[j]?=some p->IsSl (h1.put mb (.mapo (es++[(.int .i64 (x:Nat),v',c)]) (c+1))) 1 lo e.2.1 (nC p.2):=λj e p e1 e2=>by
    refine(m.at_ j e p e1 e2).cong λb n e3 hb=>?_;rw[u.ne om,a6 b ((m.at_ j e p e1 e2).lt e3) λb' n' e4=>by cases e4]
   have lt:∀(j:Nat) (e:AV×AV×Nat),es[j]?=some e->∀b n,e.2.1=.sl b 0 n n->b<h.next:=λj e e1 b n e3=>by
    have hj:=(aF.1 e1).1;exact(m.at_ j e _ e1 (ae (show j<ml.length by omega))).lt e3
   refine⟨?_,λj e p e1 e2=>?_,λj j' e e' hne e1 e2 b n b' n' f1 f2=>?_,?_⟩
   .rw[mm];unfold po yN;rw[if_neg q1,bR,bR,m.keys];rfl
   .rw[FY q1]at e2;by_cases hj:j<es.length
    .rw[bA hj]at e1;rw[bA om]at e2;exact keep j e p e1 e2
    .have hj':j<(es++[(AV.int .i64 ((x:Nat):Int),v',c)]).length:=(aF.1 e1).1;rw[aB,ar,aU]at hj';have:j=es.length:=om;subst this;rw[aV om,dP]at e1;rw[hel,aV om,dP]at e2;cases e1;cases e2;exact a2.cong λb n _ hb=>u.ne om
   .have one:∀(j:Nat) (e:AV×AV×Nat),(es++[(AV.int .i64 ((x:Nat):Int),v',c)])[j]?=some e->(j<es.length/\es[j]?=some e)\/(j=es.length/\e.2.1=v'):=λj e e1=>by
     by_cases hj:j<es.length
     .rw[bA hj]at e1;exact .inl ⟨hj,e1⟩
     .have hj':j<(es++[(AV.int .i64 ((x:Nat):Int),v',c)]).length:=(aF.1 e1).1;rw[aB,ar,aU]at hj';have:j=es.length:=om;subst this;rw[aV om,dP]at e1;cases e1;exact .inr ⟨rfl,rfl⟩
    rcases one j e e1 with⟨l1,o1⟩|⟨l1,o1⟩<;>rcases one j' e' e2 with⟨l2,o2⟩|⟨l2,o2⟩
    .exact m.sep j j' e e' hne o1 o2 b n b' n' f1 f2
    .have:=lt j e o1 b n f1;rw[o2,a4]at f2;cases f2;omega
    .have:=lt j' e' o2 b' n' f2;rw[o1,a4]at f1;cases f1;omega
    .omega
   .obtain⟨s1,s2⟩:=m.st;refine⟨?_,λe he=>?_⟩
    .rw[bR,nR];refine⟨s1,by simp,λa ha b hb=>?_⟩;simp only[aS,jf,aP]at hb;subst hb;obtain⟨e,he,rfl⟩:=bG.1 ha;exact s2 e he
    .rcases aw.1 he with he|he
     .have:=s2 e he;omega
     .rw[aP]at he;subst he;simp
  .refine⟨by rw[u.nx,a5];omega,λc hc hn=>?_,λc hc=>by rw[u.ty,a7]⟩;have hc1:c≠mb:=λe=>hn (.inl e);have hc2:¬lo<=c:=λe=>hn (.inr e);rw[u.ne hc1,a3.gt _ om]
  .have q:h1.get c=h.get c:=a6 c hc λb' n e4=>by cases e4
   exact⟨q,λhm=>by rw[u.ne hm,q]⟩
  .by_cases hj:j<es.length
   .rw[bA hj]at e1;exact .inr ⟨j,e,n,e1,e3⟩
   .have hj':j<(es++[(AV.int .i64 ((x:Nat):Int),v',c)]).length:=(aF.1 e1).1;rw[aB,ar,aU]at hj';have:j=es.length:=om;subst this;rw[aV om,dP]at e1;cases e1;rw[a4]at e3;cases e3;exact .inl rfl
 ·
  rw[aG]at q3;obtain⟨p,hp,hpx⟩:=aE.1 q3;have hs:=m.at_ k _ p q2 hp;have hpl:lkL ml x=p.2:=by
   obtain⟨v2,b1,b2⟩:=m.look hg x;have key:∀{ml:ML}{i:Nat}{p:Nat×List Nat},ml[i]?=some p->(∀j,j<i->(ml.map (·.1))[j]?≠some p.1)->lkL ml p.1=p.2:=by
    intro ml;induction ml with
    |nil=>intro i p h;simp at h
    |cons q r ih =>
      intro i p hp hj;cases i with
      |zero =>
        simp only[aW,aa]at hp;subst hp;rw[ij,if_pos rfl]
      |succ i =>
        have h0:=hj 0 om;simp only[aS,aW,ne_eq,aa]at h0;rw[ij,if_neg h0];exact ih (by simpa using hp) λj hj'=>by simpa using hj (j+1) om
   rw[<-hpx]at q4 |-;exact key hp q4
  obtain⟨v',h1,a1,a2,a3,a4,a5,a6,a7⟩:=hs.app (bytes:=8) hlo om hx0 hxl (λb n e=>hxn k _ q2 b n e) rfl rfl (by rw[eJ,<-hpl];unfold bq;omega) (by rw[eJ,<-hpl];unfold bq;omega);have g1:h1.get mb=some (.mapo es c):=by rw[a3.gt _ hmb];exact hg
  have u:=Nv (o:=.mapo (es.set k (.int .i64 (x:Nat),v',n)) c) g1;have hel:es.length=ml.length:=m.len;have hkl:k<es.length:=(aF.1 q2).1;refine⟨v,v',h1,_,es.set k (.int .i64 (x:Nat),v',n),c,by simp only[jr,hg,gT,q1,if_true];rfl,a1,g1,by simp only[pL,g1,gT,q1,if_true],u.get,?_,a3,?_,λc hc hcn=>?_,λj e e1 b n e3=>?_,by rw[u.nx,a5]⟩
  .have hup:lQ ml x i=ml.set k (x,p.2++[i]):=Jv hp hpx q4;have lt:∀(j:Nat) (e:AV×AV×Nat),es[j]?=some e->∀b n,e.2.1=.sl b 0 n n->b<h.next:=λj e e1 b n e3=>by
    have hj:=(aF.1 e1).1;exact(m.at_ j e _ e1 (ae (show j<ml.length by omega))).lt e3
   have one:∀(j:Nat) (e:AV×AV×Nat),(es.set k (AV.int .i64 ((x:Nat):Int),v',n))[j]?=some e->(j≠k/\es[j]?=some e)\/(j=k/\e.2.1=v'):=λj e e1=>by
    rw[dB]at e1;split at e1
    .rename_i e0
     cases e1;exact .inr ⟨e0.symm,rfl⟩
    .rename_i e0
     exact .inl ⟨λq=>e0 q.symm,e1⟩
   refine⟨?_,λj e p' e1 e2=>?_,λj j' e e' hne e1 e2 b n1 b' n1' f1 f2=>?_,?_⟩
   .rw[mm];unfold po yN;rw[if_pos (by rw[<-hpx];exact iE (df hp)),(nX q2).1];exact m.keys
   .rw[hup]at e2;rcases one j e e1 with⟨o1,o2⟩|⟨rfl,o2⟩
    .rw[cQ (λq=>o1 q.symm)]at e2;refine(m.at_ j e p' o2 e2).cong λb n1 e3 hb=>?_;rw[u.ne om,a6 b ((m.at_ j e p' o2 e2).lt e3) λb' n' e4=>m.sep j k e _ o1 o2 q2 b n1 b' n' e3 e4]
    .rw[cK om]at e2;cases e2;rw[o2,lS];exact a2.cong λb n _ hb=>u.ne om
   .rcases one j e e1 with⟨l1,o1⟩|⟨l1,o1⟩<;>rcases one j' e' e2 with⟨l2,o2⟩|⟨l2,o2⟩
    .exact m.sep j j' e e' hne o1 o2 b n1 b' n1' f1 f2
    .have:=lt j e o1 b n1 f1;rw[o2,a4]at f2;cases f2;omega
    .have:=lt j' e' o2 b' n1' f2;rw[o1,a4]at f1;cases f1;omega
    .omega
   .obtain⟨s1,s2⟩:=m.st;refine⟨by rw[(nX q2).2];exact s1,λe he=>?_⟩;rcases qQ he with he|rfl
    .exact s2 e he
    .have:=s2 _ (df q2);exact this
  .refine⟨by rw[u.nx,a5];omega,λc hc hn=>?_,λc hc=>by rw[u.ty,a7]⟩;have hc1:c≠mb:=λe=>hn (.inl e);have hc2:¬lo<=c:=λe=>hn (.inr e);rw[u.ne hc1,a3.gt _ om]
  .have q:h1.get c=h.get c:=a6 c hc λb' n' e4=>by
    rintro rfl;have q3:=hcn k _ q2 n';exact q3 e4
   exact⟨q,λhm=>by rw[u.ne hm,q]⟩
  .rw[dB]at e1;split at e1
   .cases e1;rw[a4]at e3;cases e3;exact .inl rfl
   .exact .inr ⟨j,e,n,e1,e3⟩
open Go.Am
open Go.Kur (Gr Wk)
structure Web(g:Gr)(h:AH)(wb:Nat)(n:Int)(E:List (Int×Int)):Prop where
 cell:∃ev mb,h.get wb=some (.cells [.int .i64 n,ev,.mp mb] 3 false)/\SlE h ev E/\∃es c ml lo,h.get mb=some (.mapo es c)/\MapL h lo es c ml/\(∀x,lkL ml x=g.ends x)/\(ml.map (·.1)).Nodup/\(∀p∈ml,p.2≠[])/\ml.length<2^30
 ok:∀i∈g.E,E[i]?=some (((g.tl i:Nat):Int),((g.hd i:Nat):Int))/\g.tl i<2^30/\g.hd i<2^30
 len:E.length<2^30/\g.E.length<2^30
theorem Web.at{g:Gr}(w:Web g h0 wb n E)(x:Ext h0.next h0 h) :
 ∃ev mb,aA h wb 1 1=some [ev]/\aA h wb 2 1=some [.mp mb]/\SlE h ev E/\(∀x:Nat,∃v,jr h .ki false .nils (.mp mb) (.int .i64 (x:Nat))=some v/\SlN h v (g.ends x))/\wb<h0.next:=by
 obtain⟨ev,mb,h1,h2,es,c,ml,lo,h3,h4,h5,_⟩:=w.cell;have l1:=AH.lt_of_get h1;have l2:=AH.lt_of_get h3;have g1:h.get wb=some (.cells [.int .i64 n,ev,.mp mb] 3 false):=by rw[x.gt _ l1];exact h1
 have g3:h.get mb=some (.mapo es c):=by rw[x.gt _ l2];exact h3
 refine⟨ev,mb,bJ g1 rfl,bJ g1 rfl,h2.ext x (ab _),λy=>?_,l1⟩;obtain⟨v,a1,a2⟩:=(h4.cong (h':=h) λc _ hc=>x.gt c hc).look g3 y;rw[h5]at a2;exact⟨v,a1,et a2⟩
theorem mU(hd:h0.next<=db)(x:Ext h0.next h0 h)(k:Kp (λc=>c=db) h h'):Ext h0.next h0 h' :=
 x.trans ⟨k.nx,λc hc=>k.gt c (by have:=x.nx;omega) om,λc hc=>k.ty c (by have:=x.nx;omega)⟩
set_option maxHeartbeats 1000000 in
theorem MX{g:Gr}{ks:List Nat}(w:Web g h0 wb n E)(hx:Ext h0.next h0 h)(md:MapK h db ks)(hdb:h0.next<=db){x y e:Nat}{es:List Nat}(hw:Wk g x es y)(he:es.head?=some e)(hy:g.deg y≠2)(hxb:x<2^31) :
 C prg 43 [.ptr wb 0,.int .i64 (x:Nat),.int .i64 (e:Nat),.mp db] h λr h'=>r=.int .i64 (y:Nat)/\Kp (λc=>c=db) h h'/\MapK h' db (fk ks es):=by
 refine Ny pf43 ?_;refine ai (aD (Mi0) ?_)
 refine cA (fO (λm ts h'=>∃x' es' e' ks',m=es'.length/\Wk g x' es' y/\es'.head?=some e'/\x'<2^31/\fk ks' es'=fk ks es/\MapK h' db ks'/\Kp (λc=>c=db) h h'/\Held [(0,.ptr wb 0),(1,.int .i64 (x':Nat)),(2,.int .i64 (e':Nat)),(3,.mp db)] ts) ?_ (n:=es.length)
  ⟨x,es,e,ks,rfl,hw,he,hxb,rfl,md,Ns,Hi0⟩)
 rintro m ts h1 ⟨x',es',e',ks',rfl,hw',he',hxb',hks,md1,k1,e0,e1,e2,e3,-⟩;simp only at e0 e1 e2 e3;refine cA ?_;obtain⟨z,hz⟩:=md1.look e';obtain⟨h2,hm,md2,o,u2⟩:=md1.up e' (IntKind.i64.wrap (z+1));refine ai (aD (M4 e3 e2 hz hm) ?_);have k2:Kp (λc=>c=db) h h2:=k1.trans (u2.kp (S:=λc=>c=db) rfl) λc _ e=>e;have X2:=mU hdb hx k2;obtain⟨ev,mb,r1,r2,hE,hL,hwb⟩:=w.at X2;have heE:e'∈g.E:=hw'.mem e' (List.mem_of_mem_head? (by rw[he'];rfl));obtain⟨o1,o2,o3⟩:=w.ok e' heE;have hel:e'<E.length:=(aF.1 o1).1;obtain⟨b1,p1,a1,a2,_⟩:=hE.at (fR (f:=eE) hel);have hEe:E[e']=(((g.tl e':Nat):Int),((g.hd e':Nat):Int)):=(aF.1 o1).2;rw[hEe]at a2;obtain⟨h3,w3,x3,g3,n3⟩:=gv (h:=h2) (z:=[.int .i64 0,.int .i64 0]) (cs:=[.int .i64 ((g.tl e':Nat):Int),.int .i64 ((g.hd e':Nat):Int)]) (e:=2) rfl;refine ai (aD (by simp only[am,aI,simprocAttr,e0,e2,r1,a1,a2,eE,w3]<;>rfl) ?_);have s0:aA h3 h2.next 0 1=some [.int .i64 ((g.tl e':Nat):Int)]:=bJ g3 rfl;have s1:aA h3 h2.next 1 1=some [.int .i64 ((g.hd e':Nat):Int)]:=bJ g3 rfl;obtain⟨e'',r',hes⟩:∃e'' r',es'=e''::r':=by
  cases es' with
  |nil=>cases he'
  |cons a r=>exact⟨a,r,rfl⟩
 subst hes;simp only[vj,aa]at he';subst he';have hj:=Kur.joins_of hw'.head;have ho:g.oth e'' x'<2^31:=by unfold Gr.oth;omega
 have hox:g.tl e''+g.hd e''=g.oth e'' x'+x':=by
  rcases hj.2 with⟨q1,q2⟩|⟨q1,q2⟩<;>omega
 have wA:IntKind.i64.wrap (((g.tl e'':Nat):Int)+((g.hd e'':Nat):Int))=((g.tl e''+g.hd e'':Nat):Int):=by rw[fx om om];omega
 have wS:IntKind.i64.wrap (((g.tl e''+g.hd e'':Nat):Int)-((x':Nat):Int))=((g.oth e'' x':Nat):Int):=by rw[fx om om];omega
 refine ai (aD (M5 e1 s0 s1 wA wS) ?_);have k3:Kp (λc=>c=db) h h3:=k2.trans (x3.kp (S:=λc=>c=db) (ab _)) λc _ e=>e;have md3:MapK h3 db (po ks' e''):=md2.cong (x3.gt _ md2.lt);have X3:=mU hdb hx k3;obtain⟨ev2,mb2,r3,r4,hE2,hL2,_⟩:=w.at X3;obtain⟨v,hv,sv⟩:=hL2 (g.oth e'' x');have svl:=sv.len;rw[ah,ah]at svl;refine ai (aD (M3 e0 r4 hv) ?_);refine ai ?_;by_cases hd:g.deg (g.oth e'' x')=2
 .have hd':(g.ends (g.oth e'' x')).length=2:=hd;have c1:decide ((((g.ends (g.oth e'' x')).length:Nat):Int)=2)=true:=bp om;refine ai (aD (M2 svl c1) ?_);refine dR (Z0) (bQ ?_);cases hw' with
  |one hj' =>
    rw[hj'.oth]at hd;exact absurd hd hy
  |@cons _ _ z' es2 _ hj' hz' hw2 =>
    have hoz:=hj'.oth;subst hoz;obtain⟨c,d,hcd⟩:=Kur.two_of hz';have hnx:g.nxt (g.oth e'' x') e''=c+d-e'':=by unfold Gr.nxt;rw[hcd];rfl
    rw[hcd]at sv;have hmem:e''=c\/e''=d:=by
     have:=hj'.symm.left;rw[hcd]at this;simpa using this
    obtain⟨b2,p2,f1,f2,_⟩:=sv.at1 (i:=0) (y:=.int .i64 ((c:Nat):Int)) rfl;obtain⟨b3,p3,f3,f4,_⟩:=sv.at1 (i:=1) (y:=.int .i64 ((d:Nat):Int)) rfl;have f1:lz 1 v (.int .i64 0)=some (.ptr b2 p2):=f1;have f3:lz 1 v (.int .i64 1)=some (.ptr b3 p3):=f3;have hcE:∀i∈g.ends (g.oth e'' x'),i<2^30:=λi hi=>by
     have q:=(w.ok i (Kur.mem_ends.1 hi).1).1;have:=(aF.1 q).1;have:=w.len.1;omega
    have hc:=hcE c (by rw[hcd];simp);have hdd:=hcE d (by rw[hcd];simp);have wB:IntKind.i64.wrap (((c:Nat):Int)+((d:Nat):Int))=((c+d:Nat):Int):=by rw[fx om om];omega
    have wC:IntKind.i64.wrap (((c+d:Nat):Int)-((e'':Nat):Int))=((g.nxt (g.oth e'' x') e'':Nat):Int):=by rw[fx om om,hnx];omega
    refine aD (M7 e2 f1 f2 f3 f4 wB wC) ?_;exact⟨(g.nxt (g.oth e'' x') e''::es2).length,by simp,g.oth e'' x',_,g.nxt (g.oth e'' x') e'',po ks' e'',rfl,hw2,rfl,ho,hks,md3,k3,H4 e0 e1 e2 e3⟩
 .have hd':¬(g.ends (g.oth e'' x')).length=2:=hd;have c1:decide ((((g.ends (g.oth e'' x')).length:Nat):Int)=2)=false:=aX om;refine ai (aD (M2 svl c1) ?_);refine dv (Z0) ?_;cases hw' with
  |one hj' =>
    have hoz:=hj'.oth;refine ai (aD (M0) ?_);refine bU ⟨_,(by simp only[rs,rf43,am,aI,simprocAttr]<;>rfl),by rw[hoz],k3,?_⟩;rw[<-hks];exact md3
  |@cons _ _ z' es2 _ hj' hz' hw2 =>
    rw[hj'.oth]at hd;exact absurd hz' hd
theorem MapK.off{ks:List Nat}{xs:List (List AV)}(m:MapK h db ks)(hs:Sl h e v xs):Off (λc=>c=db) v:=by
 obtain⟨es,c,h1,_⟩:=m;rcases hs with⟨_,rfl|rfl⟩|⟨b,o,c',cs,ro,rfl,q,_⟩
 .trivial
 .trivial
 .intro e;have e:b=db:=e;rw[e,h1]at q;cases q
def Alive(g:Gr)(x:Nat):Prop:=∀e∈g.ends x,∃es y,Wk g x es y/\es.head?=some e/\g.deg y≠2/\es.length<=g.E.length
def fr(g:Gr)(x e:Nat):List Nat×Nat:=Kur.far g g.E.length x e
def fins(g:Gr)(x:Nat)(l:List Nat):List Nat:=l.map λe=>(fr g x e).2
def zF(g:Gr)(x:Nat)(l:List Nat):List Nat:=l.flatMap λe=>(fr g x e).1
theorem Alive.fr{g:Gr}(a:Alive g x)(he:e∈g.ends x):∃es y,Wk g x es y/\es.head?=some e/\g.deg y≠2/\fr g x e=(es,y):=by
 obtain⟨es,y,h1,h2,h3,h4⟩:=a e he;exact⟨es,y,h1,h2,h3,h1.far h3 h2 h4⟩
def fF(g:Gr)(x:Nat):List Nat:=iY (fins g x (g.ends x))
def fM(g:Gr)(x:Nat):List Nat:=zF g x (g.ends x)
set_option maxHeartbeats 1000000 in
theorem tW{g:Gr}{ks:List Nat}(w:Web g h0 wb n E)(hx:Ext h0.next h0 h)(md:MapK h db ks)(hdb:h0.next<=db){x:Nat}(ha:Alive g x)(hxb:x<2^31) :
 C prg 30 [.ptr wb 0,.int .i64 (x:Nat),.mp db] h λr h'=>IsSl h' 1 h.next r (nC (fF g x))/\Kp (λc=>c=db) h h'/\MapK h' db (fk ks (fM g x)):=by
 refine Ny pf30 ?_;refine ai (aD (Mi0) ?_);obtain⟨ev,mb,r1,r2,hE,hL,hwb⟩:=w.at hx;obtain⟨v,hv,sv⟩:=hL x;have svl:=sv.len;rw[ah,ah]at svl;have hlen:(g.ends x).length<2^31:=by
  have h2:=w.len.2;have:(g.ends x).length<=2*g.E.length:=by
   unfold Gr.ends;generalize g.E=l;induction l with
   |nil=>exact ab _
   |cons a r ih =>
     rw[bm,aB,ar];have:(g.at1 x a).length<=2:=by
      unfold Gr.at1;rw[aB];split<;>split<;>simp
     omega
  omega
 refine ai (ai (aD (Mi3 r2 hv svl) ?_))
 refine gA (α:=AV) (N:=(g.ends x).length) (λ_ a=>[(0,.ptr wb 0),(1,.int .i64 (x:Nat)),(2,.mp db),(14,v),(6,a)])
  (λk a h'=>IsSl h' 1 h.next a (nC (fins g x ((g.ends x).take k)))/\Kp (λc=>c=db) h h'/\MapK h' db (fk ks (zF g x ((g.ends x).take k)))) .nils (λ_ _=>rfl) om (Hi0) ⟨.inl ⟨rfl,rfl⟩,Ns,md⟩ ?_ ?_
 .rintro k a ts h1 hk ⟨j1,j2,j3⟩ ⟨ei,en,e0,e1,e2,e14,e6,-⟩;simp only at ei en e0 e1 e2 e14 e6;have hdl:=md.lt;have n1:=j2.nx;have X1:=mU hdb hx j2;obtain⟨b1,p1,a1,a2,_⟩:=(sv.kp j2 (md.off sv)).at1 (i:=k) (y:=.int .i64 (((g.ends x)[k]:Nat):Int)) (by rw[aG,aG,ae hk];rfl);refine ai (aD (M4 e14 ei a1 a2) ?_);obtain⟨es,y,f1,f2,f3,f4⟩:=ha.fr (aO hk);have hfar:=MX w X1 j3 hdb f1 f2 f3 hxb;refine bS (bE 5 (M4 e0 e1 e2 e6) rfl (Z4 e0 e1 e2 e6) (M4 e0 e1 e2 e6) (hfar) λr h2 hq=>?_);obtain⟨rfl,k2,m2⟩:=hq;have n2:=k2.nx;have hst:fins g x ((g.ends x).take (k+1))=fins g x ((g.ends x).take k)++[y]:=by
   unfold fins;rw[bu hk,bR,aS,jf,f4]
  have hsm:zF g x ((g.ends x).take (k+1))=zF g x ((g.ends x).take k)++es:=by
   unfold zF;rw[bu hk,bL,bm,eB,bV,f4]
  have hfl:(fins g x ((g.ends x).take k)).length=k:=by unfold fins;rw[ah,bK];omega
  have j1':IsSl h2 1 h.next a (nC (fins g x ((g.ends x).take k))):=j1.cong λb n e hb=>k2.gt b (j1.lt e) om;obtain⟨a',h3,p1',p2',p3',p4'⟩:=j1'.push (bytes:=8) [.int .i64 ((y:Nat):Int)] om om rfl rfl (by rw[eJ,hfl];unfold bq;omega) (by rw[eJ,hfl];unfold bq;omega);refine bM (M2 e6 p1') ?_;refine⟨a',⟨?_,?_,?_⟩,H6 ei en e0 e1 e2 e14⟩
  .rw[hst,lS];exact p2'
  .have q:=j2.trans k2 λc _ e=>e;exact⟨cI q.nx p3'.nx,λc hc hn=>(p3'.gt c hc).trans (q.gt c hc hn),λc hc=>(p3'.ty c hc).trans (q.ty c hc)⟩
  .rw[hsm,pY];exact m2.cong (p3'.gt _ om)
 .rintro a ts h1 ⟨j1,j2,j3⟩ ⟨e0,e1,e2,e14,e6,-⟩;simp only at e0 e1 e2 e14 e6;rw[cZ]at j1 j3;have hs:=yW j1 (by unfold fins;rw[ah];omega);refine ai (bS (bE 1 (M1 e6) rfl (Z1 e6) (M1 e6) (hs) λr h2 hq=>?_));obtain⟨s1,s2,s3,s4⟩:=hq;refine bM (M0) ?_;have hdl:=md.lt;have hab:∀c,c<h.next->∀n,a≠.sl c 0 n n:=λc hc n e=>by
   rcases j1 with⟨q,_⟩|⟨b,m,hb,q,_⟩
   .rw[q]at e;cases e
   .rw[q]at e;cases e;omega
  refine ai (aD (M1 e6) ?_);refine bU ⟨a,(by simp only[rs,rf30,am,aI,simprocAttr]<;>rfl),s1,?_,j3.cong (s2 _ (hab db hdl))⟩;exact⟨by rw[s3];exact j2.nx,λc hc hn=>by rw[s2 c (hab c hc)];exact j2.gt c hc hn,λc hc=>by rw[s4];exact j2.ty c hc⟩
end Go.Proofs.YtlolkmcdimgplaaGreat
