/- The search in depth -/
import Derived.Test.YtcfncejilmimpaaGreatVTAH
set_option linter.all false
namespace Go.Blk
variable {g:Gr}
section
variable {an:List Nat}{x:Nat}{by_:Option Nat}{s s1:DS}{L new:List Nat}{bs:List (List Nat)}{i:Nat}
theorem sub_pre(p:Pre g an x by_ s)(m:Mid g x by_ s L s1 new bs)(hi:g.inc i x)(hy:s1.num (g.oth i x)=0):Pre g (x::an) (g.oth i x) (some i) { s1 with stk:=s1.stk++[i]}:=by
 obtain⟨oi,one,oo⟩:=inc_oth hi;have hxv:s1.num x≠0:=by rw[m.numx];omega
 have hpar:∀b,by_=some b->∀v,g.inc b v->s1.num v≠0:=λb hb v hv=>by
  obtain⟨b1,b2⟩:=p.by1 b hb;by_cases e:v=x
  .rw[e];exact hxv
  .rw[fT b1 hv e];exact m.toCom.met (p.gray _ b2)
 refine⟨inc_lt oi,hy,λa ha=>?_,λv hv hn k hk=>?_,m.le,m.inj,λz hz a ha b hb=>?_,λb hb=>?_,λh=>(by cases h),λj hj hne v hv=>?_⟩
 .rcases aw.1 ha with rfl|ha
  .exact hxv
  .exact m.toCom.met (p.gray a ha)
 .simp only[aw,not_or]at hn;by_cases ho:s.num v=0
  .exact m.blackT v ⟨ho,hv⟩ hn.1 k hk
  .exact m.toCom.met (p.black v ho hn.2 k hk)
 .simp only[aw,not_or]at hz;have key:∀a∈an,Conn g (·≠z) x a:=λa ha=>by
   cases hb:by_ with
   |none=>rw[p.by0 hb]at ha;exact absurd ha (by simp)
   |some b =>
     obtain⟨b1,b2⟩:=p.by1 b hb;have:Conn g (·≠z) x (g.oth b x):=Conn.edge (λe=>hz.1 e.symm) b1 (λe=>hz.2 (e▸b2));exact this.trans (p.chain z hz.2 _ b2 _ ha)
  rcases aw.1 ha with ea|ha
  .rw[ea];rcases aw.1 hb with eb|hb
   .rw[eb];exact .refl λe=>hz.1 e.symm
   .exact key b hb
  .rcases aw.1 hb with eb|hb
   .rw[eb];exact(key a ha).symm
   .exact p.chain z hz.2 a ha b hb
 .cases hb;rw[oo];exact⟨oi,bD ..⟩
 .simp only[m.stk]at hj;rcases aC.1 hj with hj|hj
  .rcases aC.1 hj with hj|hj
   .by_cases q:some j=by_
    .exact hpar j q.symm v hv
    .exact m.toCom.met (p.stk j hj q v hv)
   .obtain⟨_,⟨u,a,b,c⟩|⟨b,c⟩⟩:=(m.part j).1 (.inl hj)
    .by_cases e:v=u
     .rw[e];exact a.2
     .rw[fT c hv e];exact m.blackT u a b j c
    .by_cases e:v=x
     .rw[e];exact hxv
     .rw[fT b hv e];exact m.blackx j c
  .simp only[aw,aZ,or_false]at hj;exact absurd (by rw[hj]) hne
theorem Ls{l r:List Nat}{i:Nat}(h:i∉l):(l++i::r).idxOf i=l.length:=by
 rw[List.idxOf_append,if_neg h];simp
theorem zw{sort:List Nat->List Nat}(hsort:∀l,(sort l).Perm l)(p:Pre g an x by_ s)(m:Mid g x by_ s L s1 new bs)(hi:g.inc i x)(hiL:i∉L)(hb:by_≠some i)(hy:s1.num (g.oth i x)=0)
 {s2:DS}{new2:List Nat}{bs2:List (List Nat)} (c2:Post g (g.oth i x) (some i) { s1 with stk:=s1.stk++[i]} s2 new2 bs2) {s3:DS} (h3:s3={ s2 with low:=upd s2.low x (min (s2.low x) (s2.low (g.oth i x)))}) :
 ∃new' bs',Mid g x by_ s (L++[i]) (if s3.num x<=s3.low (g.oth i x)then s3.close sort i else s3) new' bs':=by
 obtain⟨oi,one,oo⟩:=inc_oth hi;have hxv:s1.num x≠0:=by rw[m.numx];omega
 have ps:=sub_pre p m hi hy;have hT2:∀v,Nw { s1 with stk:=s1.stk++[i]} s2 v↔s1.num v=0/\s2.num v≠0:=λv=>Iff.rfl;generalize hy':g.oth i x=y at *
 have keep2:∀v,s1.num v≠0->s2.num v=s1.num v:=c2.keep;have hT:∀v,Nw s s2 v↔Nw s s1 v\/(s1.num v=0/\s2.num v≠0):=λv=>by
  unfold Nw;constructor
  .rintro⟨h1,h2⟩;by_cases e:s1.num v=0
   .exact .inr ⟨e,h2⟩
   .exact .inl ⟨h1,e⟩
  .rintro (⟨h1,h2⟩|⟨h1,h2⟩)
   .exact⟨h1,by rw[keep2 v h2];exact h2⟩
   .refine⟨Decidable.byContradiction λhc=>?_,h2⟩;exact m.toCom.met hc h1
 have hxT:Nw s s1 x:=m.toCom.nx p.x0;have hnx2:s2.num x=s.cnt+1:=by rw[keep2 x hxv];exact m.numx
 have hlx2:s2.low x=s1.low x:=c2.lowk x λh=>hxv h.1;have hy2:s2.num y≠0:=by rw[c2.numx];simp
 have hny:s2.num x<s2.num y:=by
  have h1:=c2.numx;have h2:=m.le x;simp only at h1;rw[h1,keep2 x hxv];omega
 have hbT:∀k u,g.inc k u->s1.num u=0->some k≠by_:=λk u hk hu e=>by
  obtain⟨b1,b2⟩:=p.by1 k e.symm;by_cases q:u=x
  .rw[q]at hu;exact hxv hu
  .rw[fT b1 hk q]at hu;exact m.toCom.met (p.gray _ b2) hu
 have hA:∀k,(k∈new\/∃b∈bs,k∈b)->∀v,g.inc k v->s1.num v≠0:=λk hk v hv=>by
  obtain⟨_,⟨u,a,b,c⟩|⟨b,c⟩⟩:=(m.part k).1 hk
  .by_cases e:v=u
   .rw[e];exact a.2
   .rw[fT c hv e];exact m.blackT u a b k c
  .by_cases e:v=x
   .rw[e];exact hxv
   .rw[fT b hv e];exact m.blackx k c
 have hB:∀k,(k∈new2\/∃b∈bs2,k∈b)↔k≠i/\∃u,(s1.num u=0/\s2.num u≠0)/\g.inc k u:=λk=>by
  rw[c2.part k];constructor
  .rintro⟨h1,h2⟩;exact⟨λe=>h1 (by rw[e]),h2⟩
  .rintro⟨h1,h2⟩;exact⟨λe=>h1 (Option.some.inj e),h2⟩
 have hiA:¬(i∈new\/∃b∈bs,i∈b):=λh=>hA i h y oi hy;have hiB:¬(i∈new2\/∃b∈bs2,i∈b):=λh=>((hB i).1 h).1 rfl;have hdis:∀k,(k∈new\/∃b∈bs,k∈b)->¬(k∈new2\/∃b∈bs2,k∈b):=λk h1 h2=>by
  obtain⟨_,u,a,b⟩:=(hB k).1 h2;exact hA k h1 u b a.1
 have hgray:∀u k,(s1.num u=0/\s2.num u≠0)->g.inc k u->¬(s1.num (g.oth k u)=0/\s2.num (g.oth k u)≠0)->g.oth k u∈x::an:=λu k hu hk hn=>by
  have h1:=c2.black u hu k hk;have h2:s1.num (g.oth k u)≠0:=λe=>hn ⟨e,h1⟩;refine Decidable.byContradiction λhc=>?_;have:=ps.black _ h2 hc k (inc_oth hk).1;rw[(inc_oth hk).2.2]at this;exact this hu.1
 have hnd:(new++bs.flatten++(i::(new2++bs2.flatten))).Nodup:=by
  rw[aS];refine⟨m.nd,?_,?_⟩
  .rw[aX];refine⟨λh=>hiB ?_,c2.nd⟩;rw[aC,fk]at h;exact h
  .intro a ha c hc;rw[aC,fk]at ha;rcases aw.1 hc with rfl|hc
   .exact λe=>hiA (e▸ha)
   .rw[aC,fk]at hc;exact λe=>hdis a ha (e▸hc)
 have hl3:∀v,v≠x->s3.low v=s2.low v:=λv hv=>by rw[h3];exact upd_ne hv
 have hl3x:s3.low x=min (s1.low x) (s2.low y):=by rw[h3];show upd s2.low x _ x=_;rw[upd_same,hlx2]
 have hn3:s3.num=s2.num:=by rw[h3]
 have hc3:s3.cnt=s2.cnt:=by rw[h3]
 have hs3:s3.stk=s.stk++new++i::new2:=by
  rw[h3];have:=c2.stk;simp only at this |-;rw[this,m.stk];simp
 have hb3:s3.blk=s.blk++(bs++bs2):=by
  rw[h3];have:=c2.blk;simp only at this |-;rw[this,m.blk];simp
 have hTm:∀v,Nw s s3 v↔Nw s s1 v\/(s1.num v=0/\s2.num v≠0):=λv=>by rw[<-hT v];unfold Nw;rw[hn3]
 have hconnT:∀u,(s1.num u=0/\s2.num u≠0)->Conn g (λv=>s1.num v=0/\s2.num v≠0) y u:=c2.conn;clear h3
 have com:∀(s':DS) (nw:List Nat) (bb:List (List Nat)),s'.num=s3.num->s'.low=s3.low->s'.cnt=s3.cnt->s'.stk=s.stk++nw->s'.blk=s.blk++bb->(nw++bb.flatten).Nodup->(∀k∈nw,∃b,by_=some b/\Cls g k b)->(∀b∈bb,IsBlock g b) ->
  (∀k,(k∈nw\/∃b∈bb,k∈b)↔(k∈new\/∃b∈bs,k∈b)\/k=i\/(k∈new2\/∃b∈bs2,k∈b))->Mid g x by_ s (L++[i]) s' nw bb:=by
  intro s' nw bb q1 q2 q3 q4 q5 q6 q7 q8 q9;have hT':∀v,Nw s s' v↔Nw s s1 v\/(s1.num v=0/\s2.num v≠0):=λv=>by rw[<-hTm v];unfold Nw;rw[q1]
  have qn:s'.num=s2.num:=q1.trans hn3;have hkeep:∀v,s.num v≠0->s'.num v=s.num v:=λv hv=>by rw[qn,keep2 v (m.toCom.met hv)];exact m.keep v hv
  refine { keep:=hkeep,numx:=by rw[qn];exact hnx2,newn:=λv hv=>?_,cnt:=?_,le:=λv=>by rw[qn,q3,hc3];exact c2.le v,inj:=λu v=>by rw[qn];exact c2.inj u v,conn:=λu hu=>?_,lowk:=λv hv=>?_,lowle:=?_,lowpos:=?_,stk:=q4,blk:=q5,nd:=q6,cls:=q7,blks:=q8,blackT:=λu hu hne k hk=>?_,blackx:=λk hk=>?_,lowa:=λu k hu hk h hkb hn=>?_,lowb:=?_,part:=λk=>?_}
  .rw[qn];rcases(hT' v).1 hv with h|h
   .rw[keep2 v h.2];exact m.newn v h
   .have:=c2.newn v h;have:=m.cnt;simp only at *
    omega
  .have:=m.cnt;have:=c2.cnt;simp only at *
   omega
  .rcases(hT' u).1 hu with h|h
   .exact(m.conn u h).mono λz hz=>(hT' z).2 (.inl hz)
   .have h1:Conn g (Nw s s') x (g.oth i x):=Conn.edge ((hT' x).2 (.inl hxT)) hi (by rw[hy'];exact(hT' y).2 (.inr ⟨hy,hy2⟩));rw[hy']at h1;exact h1.trans ((hconnT u h).mono λz hz=>(hT' z).2 (.inr hz))
  .have h1:v≠x:=λe=>hv ((hT' v).2 (.inl (e▸hxT)));have h2:=c2.lowk v λe=>hv ((hT' v).2 (.inr e));simp only at h2;rw[q2,hl3 v h1,h2];exact m.lowk v λe=>hv ((hT' v).2 (.inl e))
  .have:=m.lowle;have:=m.numx;rw[q2,hl3x,qn,hnx2];omega
  .have:=m.lowpos;have:=c2.lowpos;rw[q2,hl3x];omega
  .rw[qn];rcases(hT' u).1 hu with h|h
   .have:=m.blackT u h hne k hk;rw[keep2 _ this];exact this
   .exact c2.black u h k hk
  .rw[qn];rcases aC.1 hk with hk|hk
   .have:=m.blackx k hk;rw[keep2 _ this];exact this
   .simp only[aw,aZ,or_false]at hk;rw[hk,hy'];exact hy2
  .rw[q2,hl3x,qn];rcases(hT' u).1 hu with hu1|hu2
   .have hq:u≠x\/k∈L:=by
     by_cases e:u=x
     .rcases h with h|h
      .exact .inl h
      .rcases aC.1 h with h|h
       .exact .inr h
       .simp only[aw,aZ,or_false]at h;rw[e,h,hy']at hn;exact absurd ((hT' y).2 (.inr ⟨hy,hy2⟩)) hn
     .exact .inl e
    have hv:s1.num (g.oth k u)≠0:=by
     by_cases e:u=x
     .rcases hq with hq|hq
      .exact absurd e hq
      .rw[e];exact m.blackx k hq
     .exact m.blackT u hu1 e k hk
    have:=m.lowa u k hu1 hk hq hkb λe=>hn ((hT' _).2 (.inl e));rw[keep2 _ hv];omega
   .by_cases e:k=i
    .have hux:u≠x:=λe=>hxv (e▸hu2.1);have:u=y:=by rw[<-hy'];exact fT hi (e▸hk) hux
     rw[e,this,oo]at hn;exact absurd ((hT' x).2 (.inl hxT)) hn
    .have:=c2.lowa u k hu2 hk (λq=>e (Option.some.inj q)) λq=>hn ((hT' _).2 (.inr q));omega
  .rw[q2,hl3x,qn];by_cases hq:s1.low x<=s2.low y
   .rw[dK hq];rcases m.lowb with h|⟨u,k,a,b,c,d,e⟩
    .exact .inl (by rw[h,m.numx,hnx2])
    .have hv:s1.num (g.oth k u)≠0:=by have:=m.lowpos;omega
     refine .inr ⟨u,k,(hT' u).2 (.inl a),b,c,λq=>?_,by rw[keep2 _ hv];exact e⟩;rcases(hT' _).1 q with q|q
     .exact d q
     .exact hv q.1
   .rw[jV om];have h1:=m.lowle;have h2:=m.numx;rcases c2.lowb with h|⟨u,k,a,b,c,d,e⟩
    .omega
    .have hg:=hgray u k a b d;have hwx:g.oth k u≠x:=λq=>by rw[q,hnx2]at e;omega
     have han:g.oth k u∈an:=by
      rcases aw.1 hg with q|q
      .exact absurd q hwx
      .exact q
     refine .inr ⟨u,k,(hT' u).2 (.inr a),b,hbT k u b a.1,λq=>?_,e⟩;exact p.gray _ han q.1
  .rw[q9 k];constructor
   .rintro (h|h|h)
    .obtain⟨h1,h2⟩:=(m.part k).1 h;exact⟨h1,h2.imp (λ⟨u,a,b,c⟩=>⟨u,(hT' u).2 (.inl a),b,c⟩) λq=>⟨q.1,aW _ q.2⟩⟩
    .subst h;exact⟨hb.symm,.inr ⟨hi,by simp⟩⟩
    .obtain⟨h1,u,a,c⟩:=(hB k).1 h;exact⟨hbT k u c a.1,.inl ⟨u,(hT' u).2 (.inr a),λe=>hxv (e▸a.1),c⟩⟩
   .rintro⟨h1,⟨u,a,b,c⟩|⟨b,c⟩⟩
    .rcases(hT' u).1 a with a|a
     .exact .inl ((m.part k).2 ⟨h1,.inl ⟨u,a,b,c⟩⟩)
     .by_cases e:k=i
      .exact .inr (.inl e)
      .exact .inr (.inr ((hB k).2 ⟨e,u,a,c⟩))
    .rcases aC.1 c with c|c
     .exact .inl ((m.part k).2 ⟨h1,.inr ⟨b,c⟩⟩)
     .simp only[aw,aZ,or_false]at c;exact .inr (.inl c)
 have hcls2:∀k∈new2,Cls g k i:=λk hk=>by
  obtain⟨b,e,h⟩:=c2.cls k hk;cases e;exact h
 by_cases hcl:s3.num x<=s3.low y
 ·
  rw[if_pos hcl];rw[hn3,hl3 y one]at hcl;have his:i∉s.stk++new:=λh=>by
   rcases aC.1 h with h|h
   .by_cases q:some i=by_
    .exact hb q.symm
    .exact m.toCom.met (p.stk i h q y oi) hy
   .exact hiA (.inl h)
  have hidx:s3.stk.idxOf i=(s.stk++new).length:=by rw[hs3];exact Ls his
  have hdrop:s3.stk.drop (s3.stk.idxOf i)=i::new2:=by rw[hidx,hs3,pK]
  have htake:s3.stk.take (s3.stk.idxOf i)=s.stk++new:=by rw[hidx,hs3,yA]
  have hsep:∀u k,(s1.num u=0/\s2.num u≠0)->g.inc k u->(s1.num (g.oth k u)=0/\s2.num (g.oth k u)≠0)\/g.oth k u=x:=λu k hu hk=>by
   by_cases q:s1.num (g.oth k u)=0/\s2.num (g.oth k u)≠0
   .exact .inl q
   .right;by_cases e:k=i
    .have hux:u≠x:=λe=>hxv (e▸hu.1);have:u=y:=by rw[<-hy'];exact fT hi (e▸hk) hux
     rw[e,this,oo]
    .have h1:=c2.lowa u k hu hk (λq=>e (Option.some.inj q)) q;have h2:=hgray u k hu hk q;refine Decidable.byContradiction λhc=>?_;have han:g.oth k u∈an:=by
      rcases aw.1 h2 with q|q
      .exact absurd q hc
      .exact q
     have h3:=p.gray _ han;have h4:=p.le (g.oth k u);rw[keep2 _ (m.toCom.met h3),m.keep _ h3]at h1;omega
  have hblock:IsBlock g (sort (i::new2)):=by
   have hm:∀k,k∈sort (i::new2)↔k∈i::new2:=λk=>(hsort _).mem_iff;have hinc:∀e∈i::new2,∃u,(s1.num u=0/\s2.num u≠0)/\g.inc e u:=λe he=>by
    rcases aw.1 he with rfl|he
    .exact⟨y,⟨hy,hy2⟩,oi⟩
    .obtain⟨_,u,a,b⟩:=(hB e).1 (.inl he);exact⟨u,a,b⟩
   have hci:∀e∈i::new2,Cls g e i:=λe he=>by
    rcases aw.1 he with rfl|he
    .exact .refl
    .exact hcls2 e he
   refine⟨λe=>?_,λa ha c hc=>(hci a ((hm a).1 ha)).trans (hci c ((hm c).1 hc)).symm,λe he f hr=>(hm f).2 ?_⟩
   .have:=(hm i).2 (bD ..);rw[e]at this;cases this
   .rw[hm]at he;obtain⟨u,hu,heu⟩:=hinc e he;obtain⟨v,v1,v2,v3⟩:=hr;by_cases hf:∃u,(s1.num u=0/\s2.num u≠0)/\g.inc f u
    .by_cases e1:f=i
     .rw[e1];exact bD ..
     .rcases(hB f).2 ⟨e1,hf⟩with q|⟨b,q1,q2⟩
      .exact aV _ q
      ·
       exfalso;have hbk:=c2.blks b q1;have heb:e∈b:=hbk.2.2 f q2 e (Rel.symm ⟨v,v1,v2,v3⟩);rcases aw.1 he with rfl|he
       .exact hiB (.inr ⟨b,q1,heb⟩)
       .have:=c2.nd;rw[aS]at this;exact this.2.2 e he e (fk.2 ⟨b,q1,heb⟩) rfl
    .exfalso;have hvT:¬(s1.num v=0/\s2.num v≠0):=λq=>hf ⟨v,q,v2⟩;have hvu:v≠u:=λe=>hvT (e▸hu);have hv':v=g.oth e u:=fT heu v1 hvu;have hvx:v=x:=by
      rcases hsep u e hu heu with q|q
      .rw[<-hv']at q;exact absurd q hvT
      .rw[hv',q]
     have hou:g.oth e v=u:=by rw[hv'];exact(inc_oth heu).2.2
     rw[hou]at v3;have:=v3.stays (T:=λz=>s1.num z=0/\s2.num z≠0) (λz k hz hk hne=>by
      rcases hsep z k hz hk with q|q
      .exact q
      .exact absurd (q.trans hvx.symm) hne) hu
     exact hf ⟨_,this,(inc_oth v2).1⟩
  refine⟨new,bs++bs2++[sort (i::new2)],com (s3.close sort i) _ _ rfl rfl rfl ?_ ?_ ?_ m.cls ?_ ?_⟩
  .exact htake
  .show s3.blk++[sort (s3.stk.drop (s3.stk.idxOf i))]=_;rw[hdrop,hb3];simp
  .refine(List.Perm.nodup_iff ?_).2 hnd;refine List.perm_iff_count.2 λa=>?_;have:=(hsort (i::new2)).count_eq a;simp only[kh,jv,nh,cH,fD,uL]at *
   omega
  .intro b hb;rcases aC.1 hb with hb|hb
   .rcases aC.1 hb with hb|hb
    .exact m.blks b hb
    .exact c2.blks b hb
   .simp only[aw,aZ,or_false]at hb;rw[hb];exact hblock
  .intro k;have hm:k∈sort (i::new2)↔k∈i::new2:=(hsort _).mem_iff;simp only[aC,aw,aZ,or_false]at *
   constructor
   .rintro (h|⟨b,(h|h)|h,hk⟩)
    .exact .inl (.inl h)
    .exact .inl (.inr ⟨b,h,hk⟩)
    .exact .inr (.inr (.inr ⟨b,h,hk⟩))
    .rw[h,hm]at hk;rcases hk with hk|hk
     .exact .inr (.inl hk)
     .exact .inr (.inr (.inl hk))
   .rintro ((h|⟨b,h,hk⟩)|h|h|⟨b,h,hk⟩)
    .exact .inl h
    .exact .inr ⟨b,.inl (.inl h),hk⟩
    .exact .inr ⟨_,.inr rfl,hm.2 (.inl h)⟩
    .exact .inr ⟨_,.inr rfl,hm.2 (.inr h)⟩
    .exact .inr ⟨b,.inl (.inr h),hk⟩
 .rw[if_neg hcl];rw[hn3,hl3 y one]at hcl;have hrel:∃b,by_=some b/\Rel g i b:=by
   rcases c2.lowb with h|⟨u,k,a,b,c,d,e⟩
   .omega
   .have hg:=hgray u k a b d;have hwx:g.oth k u≠x:=λq=>by rw[q,hnx2]at e;omega
    have han:g.oth k u∈an:=by
     rcases aw.1 hg with q|q
     .exact absurd q hwx
     .exact q
    have hxan:x∉an:=λh=>p.gray x h p.x0;cases hby:by_ with
    |none=>rw[p.by0 hby]at han;cases han
    |some b0 =>
      obtain⟨b1,b2⟩:=p.by1 b0 hby;refine⟨b0,rfl,x,hi,b1,?_⟩;rw[hy'];have k1:Conn g (·≠x) y u:=(hconnT u a).mono λz hz e=>hxv (e▸hz.1);have k2:Conn g (·≠x) u (g.oth k u):=Conn.edge k1.right b hwx;exact(k1.trans k2).trans (p.chain x hxan _ han _ b2)
  obtain⟨b0,hby,hrel⟩:=hrel;refine⟨new++i::new2,bs++bs2,com s3 _ _ rfl rfl rfl (by rw[hs3];simp) hb3 ?_ ?_ ?_ ?_⟩
  .refine(List.Perm.nodup_iff ?_).2 hnd;refine List.perm_iff_count.2 λa=>?_;simp only[kh,fD,uL]at *
   omega
  .intro k hk;rcases aC.1 hk with hk|hk
   .exact m.cls k hk
   .rcases aw.1 hk with rfl|hk
    .exact⟨b0,hby,.one hrel⟩
    .exact⟨b0,hby,(hcls2 k hk).trans (.one hrel)⟩
  .intro b hb;rcases aC.1 hb with hb|hb
   .exact m.blks b hb
   .exact c2.blks b hb
  .intro k;simp only[aC,aw];constructor
   .rintro ((h|h|h)|⟨b,h|h,hk⟩)
    .exact .inl (.inl h)
    .exact .inr (.inl h)
    .exact .inr (.inr (.inl h))
    .exact .inl (.inr ⟨b,h,hk⟩)
    .exact .inr (.inr (.inr ⟨b,h,hk⟩))
   .rintro ((h|⟨b,h,hk⟩)|h|h|⟨b,h,hk⟩)
    .exact .inl (.inl h)
    .exact .inr ⟨b,.inl h,hk⟩
    .exact .inl (.inr (.inl h))
    .exact .inl (.inr (.inr h))
    .exact .inr ⟨b,.inr h,hk⟩
end
variable {g:Gr}
theorem unm_pos{s:DS}{x:Nat}(hx:x<g.n)(h:s.num x=0):0<unm g s:=by
 unfold unm;rw[List.countP_pos_iff];exact⟨x,aB.2 hx,by simp[h]⟩
theorem visit_good{ends:Nat->List Nat}{sort:List Nat->List Nat}(hends:∀x,x<g.n->(ends x).Nodup/\∀i,i∈ends x↔g.inc i x)(hsort:∀l,(sort l).Perm l):∀f,Good g (visit g ends sort f) f
 |0=>λan x by_ s p hf=>by
   have:=unm_pos p.hx p.x0;omega
 |f+1=>λan x by_ s p hf=>by
   have ih:=visit_good hends hsort f;obtain⟨e1,e2⟩:=hends x p.hx
   have fold:∀(l L:List Nat) (s1:DS) (new:List Nat) (bs:List (List Nat)),Mid g x by_ s L s1 new bs->L++l=ends x ->
    ∃new' bs',Mid g x by_ s (L++l) (l.foldl (edgeS g sort (λy i s=>visit g ends sort f y (some i) s) x by_) s1) new' bs':=by
    intro l;induction l with
    |nil=>intro L s1 new bs m _;exact⟨new,bs,by rw[cH];exact m⟩
    |cons i l ihl =>
      intro L s1 new bs m hL;have hi:g.inc i x:=(e2 i).1 (by rw[<-hL];simp);have hiL:i∉L:=by
       rw[<-hL,aS]at e1;exact λh=>e1.2.2 i h i (bD ..) rfl
      obtain⟨oi,one,oo⟩:=inc_oth hi;have step:∃new' bs',Mid g x by_ s (L++[i]) (edgeS g sort (λy i s=>visit g ends sort f y (some i) s) x by_ s1 i) new' bs':=by
       unfold edgeS;by_cases hb:by_=some i
       .rw[if_pos hb];refine⟨new,bs,pT m hi ?_ (.inl hb)⟩;exact m.toCom.met (p.gray _ (p.by1 i hb).2)
       .rw[if_neg hb];by_cases hy:s1.num (g.oth i x)=0
        .rw[if_pos hy];have ps:=sub_pre p m hi hy;have hlt:unm g { s1 with stk:=s1.stk++[i]}<unm g s:=AI (λv hv=>m.toCom.met hv) p.hx p.x0 (show s1.num x≠0 by rw[m.numx];omega);obtain⟨new2,bs2,c2⟩:=ih _ _ _ _ ps om;exact zw hsort p m hi hiL hb hy c2 rfl
        .rw[if_neg hy];by_cases hlt:s1.num (g.oth i x)<s1.num x
         .rw[if_pos hlt];exact⟨_,_,zz p m hi hiL hb hy hlt⟩
         .rw[if_neg hlt];refine⟨new,bs,pT m hi hy (.inr ⟨Decidable.byContradiction λhc=>?_,hy⟩)⟩;have h1:=p.le (g.oth i x);rw[m.keep _ hc,m.numx]at hlt;omega
      obtain⟨new1,bs1,m1⟩:=step;have:=ihl (L++[i]) _ new1 bs1 m1 (by rw[<-hL];simp);rw[cn]at this;exact this
   obtain⟨new,bs,m⟩:=fold (ends x) [] (enter x s) [] [] (mid0 p) (bz _);exact⟨new,bs,m.post p.x0 e2⟩
def start:DS:=⟨λ_=>0,λ_=>0,0,[],[]⟩
def from1(g:Gr)(ends:Nat->List Nat)(sort:List Nat->List Nat)(f:Nat)(s:DS)(x:Nat):DS:=if s.num x=0 then visit g ends sort f x none s else s
def runB(g:Gr)(ends:Nat->List Nat)(sort:List Nat->List Nat)(f:Nat):DS:=(List.range g.n).foldl (from1 g ends sort f) start
structure Btw(g:Gr)(s:DS):Prop where
 black:∀v,s.num v≠0->∀i,g.inc i v->s.num (g.oth i v)≠0
 le:∀v,s.num v<=s.cnt
 inj:∀u v,s.num u=s.num v->s.num u≠0->u=v
 stk:s.stk=[]
 nd:s.blk.flatten.Nodup
 blks:∀b∈s.blk,IsBlock g b
 part:∀i,(∃b∈s.blk,i∈b)↔∃u,s.num u≠0/\g.inc i u
theorem wY:Btw g start:=by
 refine⟨λv h=>absurd rfl h,λv=>ab _,λu v _ h=>absurd rfl h,rfl,by simp[start],λb hb=>(by cases hb),λi=>?_⟩;constructor
 .rintro⟨b,hb,_⟩;cases hb
 .rintro⟨u,h,_⟩;exact absurd rfl h
theorem Av{ends:Nat->List Nat}{sort:List Nat->List Nat}(hends:∀x,x<g.n->(ends x).Nodup/\∀i,i∈ends x↔g.inc i x)(hsort:∀l,(sort l).Perm l){f:Nat}{s:DS}{x:Nat}(b:Btw g s)(hx:x<g.n)(hf:unm g s<=f) :
 Btw g (from1 g ends sort f s x)/\(from1 g ends sort f s x).num x≠0/\(∀v,s.num v≠0->(from1 g ends sort f s x).num v≠0)/\unm g (from1 g ends sort f s x)<=f:=by
 unfold from1;by_cases h:s.num x=0
 .rw[if_pos h];have p:Pre g [] x none s:=⟨hx,h,λa ha=>(by cases ha),λv hv _=>b.black v hv,b.le,b.inj,λz _ a ha=>(by cases ha),λc hc=>(by cases hc),λ_=>rfl,λj hj=>by rw[b.stk]at hj;cases hj⟩
  obtain⟨new,bs,c⟩:=visit_good hends hsort f [] x none s p hf;generalize visit g ends sort f x none s=s' at *
  have hnew:new=[]:=by
   cases new with
   |nil=>rfl
   |cons a r=>obtain⟨_,e,_⟩:=c.cls a (bD ..);cases e
  subst hnew;have hmet:∀v,s.num v≠0->s'.num v≠0:=λv hv=>c.toCom.met hv;refine⟨⟨λv hv i hi=>?_,c.le,c.inj,by rw[c.stk,b.stk];rfl,?_,λbb hb=>?_,λi=>?_⟩,by rw[c.numx];omega,hmet,bZ (MM hmet) hf⟩
  .by_cases ho:s.num v=0
   .exact c.black v ⟨ho,hv⟩ i hi
   .exact hmet _ (b.black v ho i hi)
  .rw[c.blk,kh,aS];refine⟨b.nd,by simpa using c.nd,λa ha d hd e=>?_⟩;subst e;rw[fk]at ha hd;obtain⟨u,hu,hiu⟩:=(b.part a).1 ha;obtain⟨_,u2,h2,hi2⟩:=(c.part a).1 (.inr hd);by_cases e:u2=u
   .exact hu (e▸h2.1)
   .have:=fT hiu hi2 e;exact b.black u hu a hiu (this▸h2.1)
  .rw[c.blk]at hb;rcases aC.1 hb with hb|hb
   .exact b.blks bb hb
   .exact c.blks bb hb
  .rw[c.blk];constructor
   .rintro⟨bb,hb,hi⟩;rcases aC.1 hb with hb|hb
    .obtain⟨u,h1,h2⟩:=(b.part i).1 ⟨bb,hb,hi⟩;exact⟨u,hmet u h1,h2⟩
    .obtain⟨_,u,h1,h2⟩:=(c.part i).1 (.inr ⟨bb,hb,hi⟩);exact⟨u,h1.2,h2⟩
   .rintro⟨u,h1,h2⟩;by_cases ho:s.num u=0
    .rcases(c.part i).2 ⟨by simp,u,⟨ho,h1⟩,h2⟩with q|⟨bb,q1,q2⟩
     .cases q
     .exact⟨bb,eR _ q1,q2⟩
    .obtain⟨bb,q1,q2⟩:=(b.part i).2 ⟨u,ho,h2⟩;exact⟨bb,aW _ q1,q2⟩
 .rw[if_neg h];exact⟨b,h,λv hv=>hv,hf⟩
theorem yJ{s:DS}:unm g s<=g.n:=by
 unfold unm;exact bZ List.countP_le_length (by simp)
theorem runB_ok{ends:Nat->List Nat}{sort:List Nat->List Nat}(hends:∀x,x<g.n->(ends x).Nodup/\∀i,i∈ends x↔g.inc i x)(hsort:∀l,(sort l).Perm l){f:Nat}(hf:g.n<=f) :
 (runB g ends sort f).blk.flatten.Nodup/\(∀b∈(runB g ends sort f).blk,IsBlock g b)/\∀i,i<g.m↔∃b∈(runB g ends sort f).blk,i∈b:=by
 have key:∀k,k<=g.n->Btw g ((List.range k).foldl (from1 g ends sort f) start)/\(∀v,v<k->((List.range k).foldl (from1 g ends sort f) start).num v≠0)/\unm g ((List.range k).foldl (from1 g ends sort f) start)<=f:=by
  intro k;induction k with
  |zero=>intro _;exact⟨wY,λv hv=>absurd hv (eX _),bZ yJ hf⟩
  |succ k ih =>
    intro hk;obtain⟨h1,h2,h3⟩:=ih om;rw[dl,fC];obtain⟨a,b,c,d⟩:=Av hends hsort h1 (show k<g.n by omega) h3;refine⟨a,λv hv=>?_,d⟩;by_cases e:v=k
    .subst e;exact b
    .exact c v (h2 v om)
 obtain⟨h1,h2,_⟩:=key g.n (ab _);refine⟨h1.nd,h1.blks,λi=>?_⟩;show _↔∃b∈((List.range g.n).foldl (from1 g ends sort f) start).blk,i∈b;rw[h1.part i];constructor
 .intro hi;exact⟨g.tl i,h2 _ (g.ok i hi).1,hi,.inl rfl⟩
 .rintro⟨u,_,h⟩;exact h.1
variable {g:Gr}{ends:Nat->List Nat}{sort:List Nat->List Nat}
theorem vp{f f':Nat->Nat}:∀{l:List Nat},(∀v∈l,f' v<=f v)->(l.map f').sum<=(l.map f).sum
 |[],_=>ab _
 |a::l,h=>by
   simp only[bm,kB];have h1:=vp (l:=l) λv hv=>h v (aV _ hv);have h2:=h a (bD ..);omega
theorem sS{f f':Nat->Nat}{d x:Nat}:∀{l:List Nat},(∀v∈l,f' v<=f v)->x∈l->f' x+d<=f x->(l.map f').sum+d<=(l.map f).sum
 |[],_,hx,_=>by cases hx
 |a::l,h,hx,hd=>by
   simp only[bm,kB];rcases aw.1 hx with rfl|hx
   .have:=vp (l:=l) λv hv=>h v (aV _ hv);omega
   .have h1:=sS (l:=l) (λv hv=>h v (aV _ hv)) hx hd;have h2:=h a (bD ..);omega
def wt(g:Gr)(ends:Nat->List Nat)(s:DS):Nat:=((List.range g.n).map λv=>if s.num v=0 then 1+2*(ends v).length else 0).sum
def pot(g:Gr)(ends:Nat->List Nat)(s:DS):Nat:=s.cnt+s.stk.length+s.blk.length+wt g ends s
theorem wK{x:Nat}{s:DS}:∀v,s.num v≠0->(enter x s).num v≠0:=λv hv=>by
 show upd s.num x (s.cnt+1) v≠0;by_cases e:v=x
 .subst e;rw[upd_same];omega
 .rw[upd_ne e];exact hv
theorem pot_enter{x:Nat}{s:DS}(hx:x<g.n)(h0:s.num x=0):pot g ends (enter x s)+2*(ends x).length<=pot g ends s:=by
 have h1:wt g ends (enter x s)+(1+2*(ends x).length)<=wt g ends s:=by
  refine sS (x:=x) (λv _=>?_) (aB.2 hx) ?_
  .by_cases e:s.num v=0
   .rw[if_pos e];split<;>omega
   .rw[if_neg e,if_neg (wK v e)];exact ab _
  .have e:(enter x s).num x≠0:=by show upd s.num x (s.cnt+1) x≠0;rw[upd_same];omega
   rw[if_neg e,if_pos h0];omega
 unfold pot;have h2:(enter x s).cnt=s.cnt+1:=rfl;have h3:(enter x s).stk=s.stk:=rfl;have h4:(enter x s).blk=s.blk:=rfl;rw[h2,h3,h4];omega
theorem Er{s:DS}{i:Nat}:pot g ends (s.close sort i)<=pot g ends s+1:=by
 have h1:(s.close sort i).stk.length<=s.stk.length:=by
  show(s.stk.take _).length<=_;rw[bG];omega
 have h2:(s.close sort i).blk.length=s.blk.length+1:=by
  show(s.blk++[_]).length=_;simp
 have h3:wt g ends (s.close sort i)=wt g ends s:=rfl;have h4:(s.close sort i).cnt=s.cnt:=rfl;unfold pot;omega
theorem pot_push{s:DS}{i:Nat}:pot g ends { s with stk:=s.stk++[i]}=pot g ends s+1:=by
 unfold pot;have:wt g ends { s with stk:=s.stk++[i]}=wt g ends s:=rfl;simp only[this,aG,aA,aQ];omega
theorem GW{vis:Nat->Nat->DS->DS}{x:Nat}{by_:Option Nat}{i:Nat}(hi:g.inc i x)(hv:∀(y i:Nat) (s:DS),y<g.n->s.num y=0->(∀v,s.num v≠0->(vis y i s).num v≠0)/\pot g ends (vis y i s)<=pot g ends s)(s:DS) :
 (∀v,s.num v≠0->(edgeS g sort vis x by_ s i).num v≠0)/\pot g ends (edgeS g sort vis x by_ s i)<=pot g ends s+2:=by
 unfold edgeS;by_cases hb:by_=some i
 .rw[if_pos hb];exact⟨λv h=>h,om⟩
 rw[if_neg hb];by_cases hy:s.num (g.oth i x)=0
 .rw[if_pos hy];obtain⟨a,b⟩:=hv (g.oth i x) i { s with stk:=s.stk++[i]} (inc_lt (inc_oth hi).1) hy;rw[pot_push]at b;generalize vis (g.oth i x) i { s with stk:=s.stk++[i]}=s2 at *
  simp only;split
  .refine⟨λv h=>a v h,?_⟩;have:=Er (g:=g) (ends:=ends) (sort:=sort) (s:={ s2 with low:=upd s2.low x (min (s2.low x) (s2.low (g.oth i x)))}) (i:=i);have e:pot g ends ({ s2 with low:=upd s2.low x (min (s2.low x) (s2.low (g.oth i x)))}:DS)=pot g ends s2:=rfl;rw[e]at this;exact bZ this om
  .refine⟨λv h=>a v h,?_⟩;exact bZ b om
 .rw[if_neg hy];split
  .refine⟨λv h=>h,?_⟩;have:pot g ends { s with stk:=s.stk++[i],low:=upd s.low x (min (s.low x) (s.num (g.oth i x)))}=pot g ends s+1:=pot_push (s:={ s with low:=upd s.low x (min (s.low x) (s.num (g.oth i x)))});exact bZ (Nat.le_of_eq this) om
  .exact⟨λv h=>h,om⟩
theorem pot_fold{vis:Nat->Nat->DS->DS}{x:Nat}{by_:Option Nat}(hv:∀(y i:Nat) (s:DS),y<g.n->s.num y=0->(∀v,s.num v≠0->(vis y i s).num v≠0)/\pot g ends (vis y i s)<=pot g ends s) :
 ∀(l:List Nat) (s:DS),(∀i∈l,g.inc i x)->(∀v,s.num v≠0->(l.foldl (edgeS g sort vis x by_) s).num v≠0)/\pot g ends (l.foldl (edgeS g sort vis x by_) s)<=pot g ends s+2*l.length
 |[],s,_=>⟨λv h=>h,by simp⟩
 |i::l,s,hl=>by
   obtain⟨a1,a2⟩:=GW (sort:=sort) (by_:=by_) (hl i (bD ..)) hv s;obtain⟨b1,b2⟩:=pot_fold hv l (edgeS g sort vis x by_ s i) λk hk=>hl k (aV _ hk);refine⟨λv h=>b1 v (a1 v h),?_⟩;rw[aA,fH];omega
theorem pot_visit(hends:∀x,x<g.n->∀i∈ends x,g.inc i x):∀(f x:Nat) (by_:Option Nat) (s:DS),x<g.n->s.num x=0->(∀v,s.num v≠0->(visit g ends sort f x by_ s).num v≠0)/\pot g ends (visit g ends sort f x by_ s)<=pot g ends s
 |0,_,_,_,_,_=>⟨λv h=>h,ab _⟩
 |f+1,x,by_,s,hx,h0=>by
   obtain⟨a,b⟩:=pot_fold (sort:=sort) (by_:=by_) (vis:=λy i s=>visit g ends sort f y (some i) s) (λy i s hy hs=>pot_visit hends f y (some i) s hy hs) (ends x) (enter x s) (hends x hx);have c:=pot_enter (ends:=ends) hx h0;refine⟨λv h=>a v (wK v h),?_⟩;show pot g ends ((ends x).foldl (edgeS g sort (λy i s=>visit g ends sort f y (some i) s) x by_) (enter x s))<=_;omega
theorem mid_step(hends:∀x,x<g.n->(ends x).Nodup/\∀i,i∈ends x↔g.inc i x)(hsort:∀l,(sort l).Perm l){f:Nat}{an:List Nat}{x:Nat}{by_:Option Nat}{s:DS}(p:Pre g an x by_ s)(hf:unm g s<=f+1){L new:List Nat}{s1:DS}{bs:List (List Nat)}{i:Nat}
 (m:Mid g x by_ s L s1 new bs) (hi:g.inc i x) (hiL:i∉L):∃new' bs',Mid g x by_ s (L++[i]) (edgeS g sort (λy i s=>visit g ends sort f y (some i) s) x by_ s1 i) new' bs':=by
 have ih:=visit_good hends hsort f;obtain⟨oi,one,oo⟩:=inc_oth hi;unfold edgeS;by_cases hb:by_=some i
 .rw[if_pos hb];refine⟨new,bs,pT m hi ?_ (.inl hb)⟩;exact m.toCom.met (p.gray _ (p.by1 i hb).2)
 .rw[if_neg hb];by_cases hy:s1.num (g.oth i x)=0
  .rw[if_pos hy];have ps:=sub_pre p m hi hy;have hlt:unm g { s1 with stk:=s1.stk++[i]}<unm g s:=AI (λv hv=>m.toCom.met hv) p.hx p.x0 (show s1.num x≠0 by rw[m.numx];omega);obtain⟨new2,bs2,c2⟩:=ih _ _ _ _ ps om;exact zw hsort p m hi hiL hb hy c2 rfl
  .rw[if_neg hy];by_cases hlt:s1.num (g.oth i x)<s1.num x
   .rw[if_pos hlt];exact⟨_,_,zz p m hi hiL hb hy hlt⟩
   .rw[if_neg hlt];refine⟨new,bs,pT m hi hy (.inr ⟨Decidable.byContradiction λhc=>?_,hy⟩)⟩;have h1:=p.le (g.oth i x);rw[m.keep _ hc,m.numx]at hlt;omega
theorem sub_unm{an:List Nat}{x:Nat}{by_:Option Nat}{s s1:DS}{L new:List Nat}{bs:List (List Nat)}{i:Nat}(p:Pre g an x by_ s)(m:Mid g x by_ s L s1 new bs):unm g { s1 with stk:=s1.stk++[i]}<unm g s :=
 AI (λv hv=>m.toCom.met hv) p.hx p.x0 (show s1.num x≠0 by rw[m.numx];omega)
end Go.Blk
namespace Go.Proofs.YtcfncejilmimpaaGreat
open Go.Am
open Go.Blk
variable {l:List Nat}{lo:Nat}{v:AV}
def grE(n:Nat)(E:List (Int×Int))(hE:InG n E)(hl:∀i,i<E.length->tlE E i≠hdE E i):Gr:=⟨E.length,n,tlE E,hdE E,λi hi=>⟨(hE i hi).2.1,(hE i hi).2.2,hl i hi⟩⟩
open Go.Am
open Go.Blk (Gr DS upd)
def nI(l:List Nat):List Int:=l.map λi=>((i:Nat):Int)
def nL(l:List Nat):List AV:=l.map λi=>.int .i64 (i:Nat)
theorem jY(l:List Nat):(nI l).length=l.length:=by simp[nI]
theorem Mw(l:List Nat):(nI l).flatMap eI=nL l:=by
 induction l with
 |nil=>rfl
 |cons a l ih=>simp only[nI,nL,bm,cm]at *;rw[ih];rfl
theorem HC(l m:List Nat):nL (l++m)=nL l++nL m:=by simp[nL]
def Sep(v w:AV):Prop:=∀b o n c o' n' c',v=.sl b o n c->w≠.sl b o' n' c'
theorem Sep.nill:Sep .nils v:=λ_ _ _ _ _ _ _ e=>by cases e
def Stk(h:AH)(lo:Nat)(v:AV)(l:List Nat):Prop :=
 (v=.nils/\l=[])\/∃b c cs,lo<=b/\v=.sl b 0 l.length c/\h.get b=some (.cells cs 1 false)/\cs.length=c/\l.length<=c/\cs.take l.length=nL l
theorem Stk.cong{h h':AH}(hs:Stk h lo v l)(hk:∀c,lo<=c->(∃o n k,v=.sl c o n k)->h'.get c=h.get c):Stk h' lo v l:=by
 rcases hs with hs|⟨b,c,cs,h1,h2,h3,h4⟩
 .exact .inl hs
 .exact .inr ⟨b,c,cs,h1,h2,by rw[hk b h1 ⟨_,_,_,h2⟩];exact h3,h4⟩
theorem Stk.lt{h:AH}(hs:Stk h lo v l){b o n c:Nat}(e:v=.sl b o n c):b<h.next/\lo<=b:=by
 rcases hs with⟨rfl,_⟩|⟨b',c',cs,h1,rfl,h3,_⟩
 .cases e
 .cases e;exact⟨AH.lt_of_get h3,h1⟩
theorem Stk.cells{h:AH}{lo:Nat}{v:AV}{l:List Nat}(hs:Stk h lo v l):v.cells=[v]/\v.one=true:=by
 rcases hs with⟨rfl,_⟩|⟨b',c',cs,h1,rfl,h3,_⟩<;>exact⟨rfl,rfl⟩
theorem Stk.sl{h:AH}(hs:Stk h lo v l):SlI h v (nI l):=by
 rcases hs with⟨rfl,rfl⟩|⟨b,c,cs,h1,rfl,h3,h4,h5,h6⟩
 .exact .inl ⟨rfl,.inl rfl⟩
 .refine .inr ⟨b,0,c,cs,false,by rw[ah,jY],h3,by rw[ah,jY];exact h5,by rw[ah,jY];omega,λi x hi=>?_⟩;rw[aF]at hi;obtain⟨y,hy,rfl⟩:=aD.1 hi;have hil:i<l.length:=by have:=(aM.1 hy).1;rwa [jY]at this
  have e1:(cs.take l.length)[i]?=some (.int .i64 y):=by
   rw[h6];unfold nL;unfold nI at hy;rw[aF]at hy |-;obtain⟨z,hz,rfl⟩:=aD.1 hy;rw[hz];rfl
  rw[cK,if_pos hil]at e1;obtain⟨h7,h8⟩:=aM.1 e1;refine⟨om,?_⟩;rw[bX,aU,cr h7,h8];rfl
theorem Stk.push{h:AH}(hs:Stk h lo v l)(i:Nat)(hlo:lo<=h.next)(hl:l.length<2^34) :
 ∃v' h',gI (h.new (.cells [.int .i64 (i:Nat)] 1 false)) 1 8 v (.sl h.next 0 1 1)=some (v',h')/\Stk h' lo v' (l++[i])/\h.next<=h'.next/\(∀c,c<h.next->(∀o n k,v≠.sl c o n k)->h'.get c=h.get c)/\(∀c,h'.tyOf c=h.tyOf c) /\
   ∀w,(∀b o n c,w=.sl b o n c->b<h.next)->Sep w v->Sep w v':=by
 have hx:(h.new (.cells [.int .i64 (i:Nat)] 1 false)).get h.next=some (.cells [.int .i64 (i:Nat)] 1 false):=by rw[AH.get_new,if_pos rfl]
 have hg:∀c,c<h.next->(h.new (.cells [.int .i64 (i:Nat)] 1 false)).get c=h.get c:=λc hc=>by rw[AH.get_new,if_neg om]
 have hn:(h.new (.cells [.int .i64 (i:Nat)] 1 false)).next=h.next+1:=rfl;have ht:∀c,(h.new (.cells [.int .i64 (i:Nat)] 1 false)).tyOf c=h.tyOf c:=λ_=>rfl;generalize h.new (.cells [.int .i64 (i:Nat)] 1 false)=h1 at *
 have hr:ar h1 h.next 0 (1*1)=some [.int .i64 (i:Nat)]:=by rw[bC hx];rfl
 have ho:([.int .i64 (i:Nat)]:List AV).all AV.one=true:=rfl;rcases hs with⟨rfl,rfl⟩|⟨b,c,cs,k1,rfl,k3,k4,k5,k6⟩
 .refine⟨.sl h1.next 0 1 1,h1.new (.cells [.int .i64 (i:Nat)] 1 false),?_,.inr ⟨h1.next,1,_,om,rfl,by rw[AH.get_new,if_pos rfl],rfl,ab _,rfl⟩,by rw[AH.next_new];omega,λc hc _=>by rw[AH.get_new,if_neg om,hg c hc],λc=>ht c,λw hw _ b o n c o' n' c' e1 e2=>?_⟩
  .simp only[gI,fq,hr,aI,ho,if_true,kL,if_false];rw[if_pos ⟨by unfold bd;omega,by unfold bd;omega⟩]
  .have:=hw b o n c e1;cases e2;omega
 .have hb:=AH.lt_of_get k3;have k3':h1.get b=some (.cells cs 1 false):=by rw[hg b hb];exact k3
  by_cases hc:l.length+1<=c
  .have hw:=iE (v:=.int .i64 (i:Nat)) k3' (i:=l.length) om;have u:=Oi (o:=.cells (cs.set l.length (.int .i64 (i:Nat))) 1 false) k3';refine⟨.sl b 0 (l.length+1) c,h1.put b (.cells (cs.set l.length (.int .i64 (i:Nat))) 1 false),?_,.inr ⟨b,c,_,k1,by rw[aG];rfl,u.get,by rw[cB];exact k4,by rw[aG];exact hc,?_⟩,by rw[u.nx];omega,λc' hc' hne=>?_,λc'=>(u.ty c').trans (ht c'),λw _ hs b1 o n c1 o' n' c' e1 e2=>?_⟩
   .simp only[gI,fq,hr,aI,ho,if_true,kL,if_false,if_pos hc,bX,aU,hw]
   .rw[aG,aA,aQ,HC,<-k6];refine cY λj=>?_;rw[cK,dA,List.getElem?_append,bG,dK om,cK];by_cases q:j<l.length
    .rw[if_pos om,if_neg om,if_pos q,if_pos q]
    .by_cases q2:j=l.length
     .subst q2;rw[if_pos om,if_pos rfl,if_pos om,if_neg om,eW];rfl
     .rw[if_neg om,if_neg q,bA (by simp[nL];omega)]
   .rw[u.ne (λe=>hne 0 l.length c (by rw[e])),hg _ hc']
   .cases e2;exact hs b o n c1 _ _ _ e1 rfl
  .have hcl:c=l.length:=om;have hcs:cs=nL l:=by rw[<-k6,de om]
   have hr2:ar h1 b 0 (l.length*1)=some cs:=by
    rw[bC k3',if_pos om,bN,de om]
   refine⟨.sl h1.next 0 (l.length+1) (l.length+1),(h1.put b .dead).new (.cells (cs++[.int .i64 (i:Nat)]) 1 false),?_,.inr ⟨h1.next,l.length+1,_,om,by rw[aG];rfl,by rw[AH.get_new,AH.next_put,if_pos rfl],by rw[aG,k4,hcl];rfl,by rw[aG];exact ab _,?_⟩,by rw[AH.next_new,AH.next_put];omega,λc' hc' hne=>?_,λc'=>ht c',λw hw _ b1 o n c1 o' n' c' e1 e2=>?_⟩
   .simp only[gI,fq,hr,aI,ho,if_true,kL,if_false];rw[if_neg hc,if_pos ⟨by unfold bd;omega,by unfold bd;omega⟩,k3',hr2];simp only[if_true]
   .rw[HC,<-hcs,de (by rw[aG,aG,k4,hcl];exact ab _)];rfl
   .rw[AH.get_new,AH.next_put,if_neg om,AH.get_put _ _ _ _ om,if_neg (λe=>hne 0 l.length c (by rw[e])),hg _ hc']
   .have:=hw b1 o n c1 e1;cases e2;omega
theorem Stk.cut{h:AH}(hs:Stk h lo v l){k:Nat}(hk:k<=l.length) :
 ∃v',slV h 1 v none (some (.int .i64 (k:Nat))) none=some v'/\Stk h lo v' (l.take k)/\(∀w,Sep w v->Sep w v')/\∀c,(∃o n k,v'=.sl c o n k)->∃o n k,v=.sl c o n k:=by
 rcases hs with⟨rfl,rfl⟩|⟨b,c,cs,k1,rfl,k3,k4,k5,k6⟩
 .have:k=0:=by simpa using hk
  subst this;exact⟨.nils,rfl,.inl ⟨rfl,rfl⟩,λ_ q=>q,λ_ q=>q⟩
 .have hb:=ku (k:=.i64) (show k<=c by omega);refine⟨.sl b 0 k c,?_,.inr ⟨b,c,cs,k1,by rw[bG,dK hk],k3,k4,by rw[bG];omega,?_⟩,λw hs b1 o n c1 o' n' c' e1 e2=>?_,λc' ⟨o,n,k',e⟩=>?_⟩
  .simp only[slV,k3,if_true,vf,hb,aI,oM,ep,Nat.sub_zero,ite_self]
  .rw[bG,dK hk];have:cs.take k=(cs.take l.length).take k:=by rw[yz,dK hk]
   rw[this,k6];unfold nL;rw[fy]
  .cases e2;exact hs b o n c1 _ _ _ e1 rfl
  .cases e;exact⟨_,_,_,rfl⟩
def dH(E:List (Int×Int))(x:Nat):List Nat:=(List.range E.length).filter λi=>decide (tlE E i=x)||decide (hdE E i=x)
theorem Af{n:Nat}{E:List (Int×Int)}(hE:InG n E)(hl:∀i,i<E.length->tlE E i≠hdE E i):∀x,x<(grE n E hE hl).n->(dH E x).Nodup/\∀i,i∈dH E x↔(grE n E hE hl).inc i x:=λx _=>by
 refine⟨List.nodup_range.filter _,λi=>?_⟩;unfold dH;rw[aO,aB,dn,aN,aN];rfl
def SS(sp nb lb:Nat)(c:Nat):Prop:=c=sp\/c=nb\/c=lb
structure Sta(h0:AH)(sp eb nb lb n:Nat)(ev:AV)(E:List (Int×Int)):Prop where
 he:SlE h0 ev E
 oe:Off (SS sp nb lb) ev
 ge:∃es,h0.get eb=some (.cells es 1 false)/\es.length=n/\∀(x:Nat) (v:AV),es[x]?=some v->SlI h0 v (nI (dH E x))/\Off (SS sp nb lb) v
 ne:eb≠sp/\eb≠nb/\eb≠lb/\nb≠sp/\nb≠lb/\lb≠sp
 lt:sp<h0.next/\nb<h0.next/\lb<h0.next
structure Ser(h0 h:AH)(sp eb nb lb n:Nat)(ev:AV)(s:DS)(stv blv:AV)(bs:List AV):Prop where
 kp:Kp (SS sp nb lb) h0 h
 cell:h.get sp=some (.cells [.int .i64 (n:Nat),ev,.sl eb 0 n n,.sl nb 0 n n,.sl lb 0 n n,.int .i64 (s.cnt:Nat),stv,blv] 8 false)
 gn:h.get nb=some (.cells (il n λv=>((s.num v:Nat):Int)) 1 false)
 gl:h.get lb=some (.cells (il n λv=>((s.low v:Nat):Int)) 1 false)
 st:Stk h h0.next stv s.stk
 bl:IsSl h 1 h0.next blv bs
 rl:bs.length=s.blk.length
 rw:∀(j:Nat) (v:AV) (l:List Nat),bs[j]?=some v->s.blk[j]?=some l->IsSl h 1 h0.next v (nL l)/\Sep v stv/\Sep v blv
 sb:Sep blv stv
section
variable {h0 h:AH}{sp eb nb lb n:Nat}{ev:AV}{E:List (Int×Int)}{s:DS}{stv blv:AV}{bs:List AV}
theorem Sta.edges(t:Sta h0 sp eb nb lb n ev E)(kp:Kp (SS sp nb lb) h0 h):SlE h ev E:=t.he.kp kp t.oe
theorem Sta.row(t:Sta h0 sp eb nb lb n ev E)(kp:Kp (SS sp nb lb) h0 h){x:Nat}(hx:x<n):∃v,ar h eb x 1=some [v]/\SlI h v (nI (dH E x))/\Off (SS sp nb lb) v/\SlI h0 v (nI (dH E x)):=by
 obtain⟨es,g,l,r⟩:=t.ge;obtain⟨n1,n2,n3,_⟩:=t.ne;have hv:es[x]?=some es[x]:=ae om;obtain⟨r1,r2⟩:=r x _ hv;have g':h.get eb=some (.cells es 1 false):=by
  rw[kp.gt eb (AH.lt_of_get g) (by rintro (e|e|e);exact n1 e;exact n2 e;exact n3 e)];exact g
 exact⟨_,bF g' hv,r1.kp kp r2,r2,r1⟩
theorem Ser.wr(r:Ser h0 h sp eb nb lb n ev s stv blv bs){h':AH}{c:Nat}{o:AO}(u:Upd h h' c o)(hc:SS sp nb lb c)(hl:c<h0.next):Kp (SS sp nb lb) h0 h'/\Stk h' h0.next stv s.stk/\IsSl h' 1 h0.next blv bs /\
 ∀(j:Nat) (v:AV) (l:List Nat),bs[j]?=some v->s.blk[j]?=some l->IsSl h' 1 h0.next v (nL l)/\Sep v stv/\Sep v blv :=
 ⟨r.kp.trans (u.kp hc) λ_ _ q=>q,r.st.cong λc' hc' _=>u.ne om,r.bl.upd u om,λj v l a b=>⟨(r.rw j v l a b).1.upd u om,(r.rw j v l a b).2⟩⟩
theorem Ser.setCnt(t:Sta h0 sp eb nb lb n ev E)(r:Ser h0 h sp eb nb lb n ev s stv blv bs)(k:Nat):∃h',bV h sp 5 [.int .i64 (k:Nat)]=some h'/\Ser h0 h' sp eb nb lb n ev { s with cnt:=k} stv blv bs:=by
 obtain⟨n1,n2,n3,n4,n5,n6⟩:=t.ne;have w:=iE (v:=.int .i64 (k:Nat)) r.cell (i:=5) (by simp);change bV h sp 5 [.int .i64 (k:Nat)]=some (h.put sp (.cells [.int .i64 (n:Nat),ev,.sl eb 0 n n,.sl nb 0 n n,.sl lb 0 n n,.int .i64 (k:Nat),stv,blv] 8 false))at w;have u:=Oi (o:=.cells [.int .i64 (n:Nat),ev,.sl eb 0 n n,.sl nb 0 n n,.sl lb 0 n n,.int .i64 (k:Nat),stv,blv] 8 false) r.cell;obtain⟨a1,a2,a3,a4⟩:=r.wr u (.inl rfl) t.lt.1;exact⟨_,w,{ kp:=a1,cell:=u.get,gn:=by rw[u.ne n4];exact r.gn,gl:=by rw[u.ne n6];exact r.gl,st:=a2,bl:=a3,rl:=r.rl,rw:=a4,sb:=r.sb}⟩
theorem Il{f:Nat->Nat}{x k:Nat}:(il n λv=>((f v:Nat):Int)).set x (.int .i64 (k:Nat))=il n λv=>((upd f x k v:Nat):Int):=by
 rw[NJ];refine Im λi _=>?_;by_cases e:i=x
 .subst e;rw[if_pos rfl,Go.Blk.upd_same]
 .rw[if_neg e,Go.Blk.upd_ne e]
theorem Ser.setNum(t:Sta h0 sp eb nb lb n ev E)(r:Ser h0 h sp eb nb lb n ev s stv blv bs){x:Nat}(hx:x<n)(k:Nat):∃h',bV h nb x [.int .i64 (k:Nat)]=some h'/\Ser h0 h' sp eb nb lb n ev { s with num:=upd s.num x k} stv blv bs:=by
 obtain⟨n1,n2,n3,n4,n5,n6⟩:=t.ne;have w:=iE (v:=.int .i64 (k:Nat)) r.gn (i:=x) (by rw[tR];exact hx);rw[Il]at w;have u:=Oi (o:=.cells (il n λv=>((upd s.num x k v:Nat):Int)) 1 false) r.gn;obtain⟨a1,a2,a3,a4⟩:=r.wr u (.inr (.inl rfl)) t.lt.2.1;exact⟨_,w,{ kp:=a1,cell:=by rw[u.ne (Ne.symm n4)];exact r.cell,gn:=u.get,gl:=by rw[u.ne (Ne.symm n5)];exact r.gl,st:=a2,bl:=a3,rl:=r.rl,rw:=a4,sb:=r.sb}⟩
theorem Ser.setLow(t:Sta h0 sp eb nb lb n ev E)(r:Ser h0 h sp eb nb lb n ev s stv blv bs){x:Nat}(hx:x<n)(k:Nat):∃h',bV h lb x [.int .i64 (k:Nat)]=some h'/\Ser h0 h' sp eb nb lb n ev { s with low:=upd s.low x k} stv blv bs:=by
 obtain⟨n1,n2,n3,n4,n5,n6⟩:=t.ne;have w:=iE (v:=.int .i64 (k:Nat)) r.gl (i:=x) (by rw[tR];exact hx);rw[Il]at w;have u:=Oi (o:=.cells (il n λv=>((upd s.low x k v:Nat):Int)) 1 false) r.gl;obtain⟨a1,a2,a3,a4⟩:=r.wr u (.inr (.inr rfl)) t.lt.2.2;exact⟨_,w,{ kp:=a1,cell:=by rw[u.ne (Ne.symm n6)];exact r.cell,gn:=by rw[u.ne n5];exact r.gn,gl:=u.get,st:=a2,bl:=a3,rl:=r.rl,rw:=a4,sb:=r.sb}⟩
theorem Ser.setStk(t:Sta h0 sp eb nb lb n ev E)(r:Ser h0 h sp eb nb lb n ev s stv blv bs){h1:AH}{v':AV}{l:List Nat}(hn:h.next<=h1.next)(hk:∀c,c<h.next->(∀o n k,stv≠.sl c o n k)->h1.get c=h.get c)(ht:∀c,h1.tyOf c=h.tyOf c)(hs:Stk h1 h0.next v' l)
 (hsep:∀w,(∀b o n c,w=.sl b o n c->b<h.next)->Sep w stv->Sep w v'):∃h2,bV h1 sp 6 [v']=some h2/\Ser h0 h2 sp eb nb lb n ev { s with stk:=l} v' blv bs:=by
 obtain⟨n1,n2,n3,n4,n5,n6⟩:=t.ne;obtain⟨l1,l2,l3⟩:=t.lt;have hnx:=r.kp.nx;have low:∀c,c<h0.next->h1.get c=h.get c:=λc hc=>hk c om λo n k e=>by have:=(r.st.lt e).2;omega
 have c1:h1.get sp=some (.cells [.int .i64 (n:Nat),ev,.sl eb 0 n n,.sl nb 0 n n,.sl lb 0 n n,.int .i64 (s.cnt:Nat),stv,blv] 8 false):=by rw[low sp l1];exact r.cell
 have w:=iE (v:=v') c1 (i:=6) (by simp);change bV h1 sp 6 [v']=some (h1.put sp (.cells [.int .i64 (n:Nat),ev,.sl eb 0 n n,.sl nb 0 n n,.sl lb 0 n n,.int .i64 (s.cnt:Nat),v',blv] 8 false))at w;have u:=Oi (o:=.cells [.int .i64 (n:Nat),ev,.sl eb 0 n n,.sl nb 0 n n,.sl lb 0 n n,.int .i64 (s.cnt:Nat),v',blv] 8 false) c1;have kp1:Kp (SS sp nb lb) h0 h1:=⟨om,λc hc hn'=>by rw[low c hc];exact r.kp.gt c hc hn',λc hc=>(ht c).trans (r.kp.ty c hc)⟩
 have keep:∀{w cs},IsSl h 1 h0.next w cs->Sep w stv->IsSl h1 1 h0.next w cs:=fun {w cs} q hsw=>q.cong λb m e hb=>hk b (q.lt e) λo n' k e2=>hsw b 0 m m o n' k e e2;refine⟨_,w,{ kp:=kp1.trans (u.kp (.inl rfl)) λ_ _ q=>q,cell:=u.get,gn:=by rw[u.ne n4,low nb l2];exact r.gn,gl:=by rw[u.ne n6,low lb l3];exact r.gl,st:=hs.cong λc hc _=>u.ne om,bl:=(keep r.bl r.sb).upd u om,rl:=r.rl,rw:=λj v q a b=>?_,sb:=hsep _ (λb o n' c e=>r.bl.lt e) r.sb}⟩;obtain⟨a1,a2,a3⟩:=r.rw j v q a b;exact⟨(keep a1 a2).upd u om,hsep _ (λb o n' c e=>a1.lt e) a2,a3⟩
theorem Ser.push(t:Sta h0 sp eb nb lb n ev E)(r:Ser h0 h sp eb nb lb n ev s stv blv bs)(i:Nat)(hl:s.stk.length<2^34) :
 ∃v' h1 h2,gI (h.new (.cells [.int .i64 (i:Nat)] 1 false)) 1 8 stv (.sl h.next 0 1 1)=some (v',h1)/\v'.cells=[v']/\v'.one=true/\bV h1 sp 6 [v']=some h2/\Ser h0 h2 sp eb nb lb n ev { s with stk:=s.stk++[i]} v' blv bs:=by
 obtain⟨v',h1,a1,a2,a3,a4,a5,a6⟩:=r.st.push i r.kp.nx hl;obtain⟨h2,b1,b2⟩:=r.setStk t a3 a4 a5 a2 a6;exact⟨v',h1,h2,a1,a2.cells.1,a2.cells.2,b1,b2⟩
end
end Go.Proofs.YtcfncejilmimpaaGreat
