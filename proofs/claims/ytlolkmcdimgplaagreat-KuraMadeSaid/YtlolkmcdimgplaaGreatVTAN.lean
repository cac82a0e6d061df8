/- The search in depth -/
import Derived.Test.YtlolkmcdimgplaaGreatVTAI
set_option linter.all false
namespace Go.Blk
variable {g:Gr}
def Nw(s s':DS)(v:Nat):Prop:=s.num v=0/\s'.num v≠0
structure Pre(g:Gr)(an:List Nat)(x:Nat)(by_:Option Nat)(s:DS):Prop where
 hx:x<g.n
 x0:s.num x=0
 gray:∀a∈an,s.num a≠0
 black:∀v,s.num v≠0->v∉an->∀i,g.inc i v->s.num (g.oth i v)≠0
 le:∀v,s.num v<=s.cnt
 inj:∀u v,s.num u=s.num v->s.num u≠0->u=v
 chain:∀z,z∉an->∀a∈an,∀b∈an,Conn g (·≠z) a b
 by1:∀b,by_=some b->g.inc b x/\g.oth b x∈an
 by0:by_=none->an=[]
 stk:∀j∈s.stk,some j≠by_->∀v,g.inc j v->s.num v≠0
structure Com(g:Gr)(x:Nat)(by_:Option Nat)(s s':DS)(new:List Nat)(bs:List (List Nat)):Prop where
 keep:∀v,s.num v≠0->s'.num v=s.num v
 numx:s'.num x=s.cnt+1
 newn:∀v,Nw s s' v->s.cnt<s'.num v
 cnt:s.cnt<s'.cnt
 le:∀v,s'.num v<=s'.cnt
 inj:∀u v,s'.num u=s'.num v->s'.num u≠0->u=v
 conn:∀u,Nw s s' u->Conn g (Nw s s') x u
 lowk:∀v,¬Nw s s' v->s'.low v=s.low v
 lowle:s'.low x<=s'.num x
 lowpos:0<s'.low x
 stk:s'.stk=s.stk++new
 blk:s'.blk=s.blk++bs
 nd:(new++bs.flatten).Nodup
 cls:∀i∈new,∃b,by_=some b/\Cls g i b
 blks:∀b∈bs,IsBlock g b
structure Post(g:Gr)(x:Nat)(by_:Option Nat)(s s':DS)(new:List Nat)(bs:List (List Nat)):Prop extends Com g x by_ s s' new bs where
 black:∀u,Nw s s' u->∀i,g.inc i u->s'.num (g.oth i u)≠0
 lowa:∀u i,Nw s s' u->g.inc i u->some i≠by_->¬Nw s s' (g.oth i u)->s'.low x<=s'.num (g.oth i u)
 lowb:s'.low x=s'.num x\/∃u i,Nw s s' u/\g.inc i u/\some i≠by_/\¬Nw s s' (g.oth i u)/\s'.num (g.oth i u)=s'.low x
 part:∀i,(i∈new\/∃b∈bs,i∈b)↔some i≠by_/\∃u,Nw s s' u/\g.inc i u
structure Mid(g:Gr)(x:Nat)(by_:Option Nat)(s:DS)(L:List Nat)(s':DS)(new:List Nat)(bs:List (List Nat)):Prop extends Com g x by_ s s' new bs where
 blackT:∀u,Nw s s' u->u≠x->∀i,g.inc i u->s'.num (g.oth i u)≠0
 blackx:∀i∈L,s'.num (g.oth i x)≠0
 lowa:∀u i,Nw s s' u->g.inc i u->(u≠x\/i∈L)->some i≠by_->¬Nw s s' (g.oth i u)->s'.low x<=s'.num (g.oth i u)
 lowb:s'.low x=s'.num x\/∃u i,Nw s s' u/\g.inc i u/\some i≠by_/\¬Nw s s' (g.oth i u)/\s'.num (g.oth i u)=s'.low x
 part:∀i,(i∈new\/∃b∈bs,i∈b)↔some i≠by_/\((∃u,Nw s s' u/\u≠x/\g.inc i u)\/(g.inc i x/\i∈L))
def Good(g:Gr)(vis:Nat->Option Nat->DS->DS)(f:Nat):Prop :=
 ∀an x by_ s,Pre g an x by_ s->unm g s<=f->∃new bs,Post g x by_ s (vis x by_ s) new bs
theorem Com.nx{x:Nat}{by_:Option Nat}{s s':DS}{new:List Nat}{bs:List (List Nat)}(c:Com g x by_ s s' new bs)(h0:s.num x=0):Nw s s' x:=⟨h0,by rw[c.numx];omega⟩
theorem Com.met{x:Nat}{by_:Option Nat}{s s':DS}{new:List Nat}{bs:List (List Nat)}(c:Com g x by_ s s' new bs){v:Nat}(h:s.num v≠0):s'.num v≠0:=by rw[c.keep v h];exact h
theorem Com.old{x:Nat}{by_:Option Nat}{s s':DS}{new:List Nat}{bs:List (List Nat)}(c:Com g x by_ s s' new bs){v:Nat}(h1:s'.num v≠0)(h2:¬Nw s s' v):s.num v≠0:=λh=>h2 ⟨h,h1⟩
theorem mid0{an:List Nat}{x:Nat}{by_:Option Nat}{s:DS}(p:Pre g an x by_ s):Mid g x by_ s [] (enter x s) [] []:=by
 have hnw:∀v,Nw s (enter x s) v↔v=x:=λv=>by
  unfold Nw enter;simp only;constructor
  .rintro⟨h1,h2⟩;exact Decidable.byContradiction λhc=>h2 (by rw[upd_ne hc];exact h1)
  .rintro rfl;exact⟨p.x0,by rw[upd_same];omega⟩
 have keep:∀v,v≠x->(enter x s).num v=s.num v:=λv hv=>upd_ne hv;have nx:(enter x s).num x=s.cnt+1:=upd_same;refine { keep:=λv hv=>keep v λe=>hv (e▸p.x0),numx:=nx,newn:=λv hv=>?_,cnt:=Nat.lt_succ_self _,le:=λv=>?_,inj:=λu v h1 h2=>?_,conn:=λu hu=>?_,lowk:=λv hv=>?_,lowle:=?_,lowpos:=?_,stk:=(bV _).symm,blk:=(bV _).symm,nd:=(by simp),cls:=λi hi=>(by cases hi),blks:=λb hb=>(by cases hb),blackT:=λu hu hne=>absurd ((hnw u).1 hu) hne,blackx:=λi hi=>(by cases hi),lowa:=λu i hu _ h=>?_,lowb:=.inl ?_,part:=λi=>?_}
 .rw[(hnw v).1 hv,nx];omega
 .by_cases e:v=x
  .subst e;rw[nx];exact ab _
  .rw[keep v e];exact lZ (p.le v)
 .by_cases e:u=x
  .subst e;by_cases e2:v=u
   .exact e2.symm
   .rw[nx,keep v e2]at h1;have:=p.le v;omega
  .by_cases e2:v=x
   .subst e2;rw[nx,keep u e]at h1;have:=p.le u;omega
   .rw[keep u e,keep v e2]at h1;rw[keep u e]at h2;exact p.inj u v h1 h2
 .rw[(hnw u).1 hu];exact .refl ((hnw x).2 rfl)
 .exact upd_ne λe=>hv ((hnw v).2 e)
 .show upd s.low x (s.cnt+1) x<=upd s.num x (s.cnt+1) x;rw[upd_same,upd_same];exact ab _
 .show 0<upd s.low x (s.cnt+1) x;rw[upd_same];omega
 .rcases h with h|h
  .exact absurd ((hnw u).1 hu) h
  .cases h
 .show upd s.low x (s.cnt+1) x=upd s.num x (s.cnt+1) x;rw[upd_same,upd_same]
 .constructor
  .rintro (h|⟨b,h,_⟩)<;>cases h
  .rintro⟨_,⟨u,h1,h2,_⟩|⟨_,h⟩⟩
   .exact absurd ((hnw u).1 h1) h2
   .cases h
theorem Mid.post{x:Nat}{by_:Option Nat}{s s':DS}{L new:List Nat}{bs:List (List Nat)}(m:Mid g x by_ s L s' new bs)(h0:s.num x=0)(hL:∀i,i∈L↔g.inc i x):Post g x by_ s s' new bs:=by
 refine { toCom:=m.toCom,black:=λu hu i hi=>?_,lowa:=λu i hu hi=>?_,lowb:=m.lowb,part:=λi=>?_}
 .by_cases e:u=x
  .subst e;exact m.blackx i ((hL i).2 hi)
  .exact m.blackT u hu e i hi
 .refine m.lowa u i hu hi ?_;by_cases e:u=x
  .subst e;exact .inr ((hL i).2 hi)
  .exact .inl e
 .rw[m.part i];constructor
  .rintro⟨h1,⟨u,a,_,b⟩|⟨a,_⟩⟩
   .exact⟨h1,u,a,b⟩
   .exact⟨h1,x,m.toCom.nx h0,a⟩
  .rintro⟨h1,u,a,b⟩;by_cases e:u=x
   .subst e;exact⟨h1,.inr ⟨b,(hL i).2 b⟩⟩
   .exact⟨h1,.inl ⟨u,a,e,b⟩⟩
theorem qy{x:Nat}{by_:Option Nat}{s s':DS}{L new:List Nat}{bs:List (List Nat)}{i:Nat}(m:Mid g x by_ s L s' new bs)(hi:g.inc i x)(hv:s'.num (g.oth i x)≠0)(hc:by_=some i\/(Nw s s' (g.oth i x))):Mid g x by_ s (L++[i]) s' new bs:=by
 refine { toCom:=m.toCom,blackT:=m.blackT,blackx:=λk hk=>?_,lowa:=λu k hu hk h hb hn=>?_,lowb:=m.lowb,part:=λk=>?_}
 .rcases aw.1 hk with hk|hk
  .exact m.blackx k hk
  .simp only[ao,bd,or_false]at hk;subst hk;exact hv
 .by_cases e:u=x
  .subst e;by_cases hkL:k∈L
   .exact m.lowa u k hu hk (.inr hkL) hb hn
   .rcases h with h|h
    .exact absurd rfl h
    .rcases aw.1 h with h|h
     .exact absurd h hkL
     .simp only[ao,bd,or_false]at h;subst h;rcases hc with hc|hc
      .exact absurd hc.symm hb
      .exact absurd hc hn
  .exact m.lowa u k hu hk (.inl e) hb hn
 .rw[m.part k];constructor
  .rintro⟨h1,h|⟨a,b⟩⟩
   .exact⟨h1,.inl h⟩
   .exact⟨h1,.inr ⟨a,bg _ b⟩⟩
  .rintro⟨h1,h|⟨a,b⟩⟩
   .exact⟨h1,.inl h⟩
   .rcases aw.1 b with b|b
    .exact⟨h1,.inr ⟨a,b⟩⟩
    .simp only[ao,bd,or_false]at b;subst b;rcases hc with hc|hc
     .exact absurd hc.symm h1
     .exact⟨h1,.inl ⟨_,hc,(inc_oth hi).2.1,(inc_oth hi).1⟩⟩
theorem zJ{an:List Nat}{x:Nat}{by_:Option Nat}{s s':DS}{L new:List Nat}{bs:List (List Nat)}{i:Nat}(p:Pre g an x by_ s)(m:Mid g x by_ s L s' new bs)(hi:g.inc i x)(hiL:i∉L)(hb:by_≠some i)(hv:s'.num (g.oth i x)≠0)(hlt:s'.num (g.oth i x)<s'.num x) :
 Mid g x by_ s (L++[i]) { s' with stk:=s'.stk++[i],low:=upd s'.low x (min (s'.low x) (s'.num (g.oth i x)))} (new++[i]) bs:=by
 obtain⟨oi,one,oo⟩:=inc_oth hi;have hnw:¬Nw s s' (g.oth i x):=λh=>by
  have:=m.newn _ h;rw[m.numx]at hlt;omega
 have hold:=m.toCom.old hv hnw;have han:g.oth i x∈an:=Decidable.byContradiction λhc=>by
  have:=p.black _ hold hc i oi;rw[oo]at this;exact this p.x0
 obtain⟨b,rfl⟩:∃b,by_=some b:=by
  cases by_ with
  |none=>rw[p.by0 rfl]at han;cases han
  |some b=>exact⟨b,rfl⟩
 obtain⟨b1,b2⟩:=p.by1 b rfl;have hxan:x∉an:=λh=>p.gray x h p.x0;have hrel:Rel g i b:=⟨x,hi,b1,p.chain x hxan _ han _ b2⟩
 have hni:i∉new/\∀b∈bs,i∉b:=by
  have:=m.part i;have hno:¬(some i≠some b/\((∃u,Nw s s' u/\u≠x/\g.inc i u)\/(g.inc i x/\i∈L))):=by
   rintro⟨_,⟨u,a,c,d⟩|⟨_,d⟩⟩
   .have:=ga hi d c;subst this;exact hnw a
   .exact hiL d
  rw[<-this]at hno;exact⟨λh=>hno (.inl h),λb hb h=>hno (.inr ⟨b,hb,h⟩)⟩
 have hlow:∀v,v≠x->(upd s'.low x (min (s'.low x) (s'.num (g.oth i x)))) v=s'.low v:=λv hv=>upd_ne hv;have hlx:(upd s'.low x (min (s'.low x) (s'.num (g.oth i x)))) x=min (s'.low x) (s'.num (g.oth i x)):=upd_same;have hxT:Nw s s' x:=m.toCom.nx p.x0;refine { keep:=m.keep,numx:=m.numx,newn:=m.newn,cnt:=m.cnt,le:=m.le,inj:=m.inj,conn:=m.conn,lowk:=λv hv=>?_,lowle:=?_,lowpos:=?_,stk:=?_,blk:=m.blk,nd:=?_,cls:=λk hk=>?_,blks:=m.blks,blackT:=m.blackT,blackx:=λk hk=>?_,lowa:=λu k hu hk h hkb hn=>?_,lowb:=?_,part:=λk=>?_}
 .exact(hlow v λe=>hv (e▸hxT)).trans (m.lowk v hv)
 .have:=m.lowle;simp only;rw[hlx];omega
 .have:=m.lowpos;simp only;rw[hlx];omega
 .simp only;rw[m.stk,bO]
 .have h:=m.nd;rw[bO,aN]at *
  refine⟨h.1,?_,?_⟩
  .rw[aH,bt,aY,fT];exact⟨λ⟨b,q1,q2⟩=>hni.2 b q1 q2,h.2.1⟩
  .intro a ha c hc;rw[aH,bt]at hc;rcases ao.1 hc with rfl|hc
   .exact λe=>hni.1 (e▸ha)
   .exact h.2.2 a ha c hc
 .rcases aw.1 hk with hk|hk
  .exact m.cls k hk
  .simp only[ao,bd,or_false]at hk;subst hk;exact⟨b,rfl,.one hrel⟩
 .rcases aw.1 hk with hk|hk
  .exact m.blackx k hk
  .simp only[ao,bd,or_false]at hk;subst hk;exact hv
 .simp only;rw[hlx];by_cases hq:u≠x\/k∈L
  .have:=m.lowa u k hu hk hq hkb hn;exact cI (Nat.min_le_left _ _) this
  .have e:u=x:=Decidable.byContradiction λc=>hq (.inl c);subst e;rcases h with h|h
   .exact absurd rfl h
   .rcases aw.1 h with h|h
    .exact absurd (.inr h) hq
    .simp only[ao,bd,or_false]at h;subst h;exact Nat.min_le_right _ _
 .simp only;rw[hlx];by_cases hq:s'.low x<=s'.num (g.oth i x)
  .rw[dU hq];exact m.lowb
  .rw[kh om];exact .inr ⟨x,i,hxT,hi,hb.symm,hnw,rfl⟩
 .have:=m.part k;constructor
  .rintro (h|h)
   .rcases aw.1 h with h|h
    .obtain⟨h1,h2⟩:=this.1 (.inl h);exact⟨h1,h2.imp id λq=>⟨q.1,bg _ q.2⟩⟩
    .simp only[ao,bd,or_false]at h;subst h;exact⟨hb.symm,.inr ⟨hi,by simp⟩⟩
   .obtain⟨h1,h2⟩:=this.1 (.inr h);exact⟨h1,h2.imp id λq=>⟨q.1,bg _ q.2⟩⟩
  .rintro⟨h1,h2⟩;rcases h2 with h2|⟨h2,h3⟩
   .exact(this.2 ⟨h1,.inl h2⟩).imp (bg _) id
   .rcases aw.1 h3 with h3|h3
    .exact(this.2 ⟨h1,.inr ⟨h2,h3⟩⟩).imp (bg _) id
    .simp only[ao,bd,or_false]at h3;subst h3;exact .inl (by simp)
variable {g:Gr}
section
variable {an:List Nat}{x:Nat}{by_:Option Nat}{s s1:DS}{L new:List Nat}{bs:List (List Nat)}{i:Nat}
theorem sub_pre(p:Pre g an x by_ s)(m:Mid g x by_ s L s1 new bs)(hi:g.inc i x)(hy:s1.num (g.oth i x)=0):Pre g (x::an) (g.oth i x) (some i) { s1 with stk:=s1.stk++[i]}:=by
 obtain⟨oi,one,oo⟩:=inc_oth hi;have hxv:s1.num x≠0:=by rw[m.numx];omega
 have hpar:∀b,by_=some b->∀v,g.inc b v->s1.num v≠0:=λb hb v hv=>by
  obtain⟨b1,b2⟩:=p.by1 b hb;by_cases e:v=x
  .rw[e];exact hxv
  .rw[ga b1 hv e];exact m.toCom.met (p.gray _ b2)
 refine⟨inc_lt oi,hy,λa ha=>?_,λv hv hn k hk=>?_,m.le,m.inj,λz hz a ha b hb=>?_,λb hb=>?_,λh=>(by cases h),λj hj hne v hv=>?_⟩
 .rcases ao.1 ha with rfl|ha
  .exact hxv
  .exact m.toCom.met (p.gray a ha)
 .simp only[ao,not_or]at hn;by_cases ho:s.num v=0
  .exact m.blackT v ⟨ho,hv⟩ hn.1 k hk
  .exact m.toCom.met (p.black v ho hn.2 k hk)
 .simp only[ao,not_or]at hz;have key:∀a∈an,Conn g (·≠z) x a:=λa ha=>by
   cases hb:by_ with
   |none=>rw[p.by0 hb]at ha;exact absurd ha (by simp)
   |some b =>
     obtain⟨b1,b2⟩:=p.by1 b hb;have:Conn g (·≠z) x (g.oth b x):=Conn.edge (λe=>hz.1 e.symm) b1 (λe=>hz.2 (e▸b2));exact this.trans (p.chain z hz.2 _ b2 _ ha)
  rcases ao.1 ha with ea|ha
  .rw[ea];rcases ao.1 hb with eb|hb
   .rw[eb];exact .refl λe=>hz.1 e.symm
   .exact key b hb
  .rcases ao.1 hb with eb|hb
   .rw[eb];exact(key a ha).symm
   .exact p.chain z hz.2 a ha b hb
 .cases hb;rw[oo];exact⟨oi,aM ..⟩
 .simp only[m.stk]at hj;rcases aw.1 hj with hj|hj
  .rcases aw.1 hj with hj|hj
   .by_cases q:some j=by_
    .exact hpar j q.symm v hv
    .exact m.toCom.met (p.stk j hj q v hv)
   .obtain⟨_,⟨u,a,b,c⟩|⟨b,c⟩⟩:=(m.part j).1 (.inl hj)
    .by_cases e:v=u
     .rw[e];exact a.2
     .rw[ga c hv e];exact m.blackT u a b j c
    .by_cases e:v=x
     .rw[e];exact hxv
     .rw[ga b hv e];exact m.blackx j c
  .simp only[ao,bd,or_false]at hj;exact absurd (by rw[hj]) hne
theorem Lc{l r:List Nat}{i:Nat}(h:i∉l):(l++i::r).idxOf i=l.length:=by
 rw[List.idxOf_append,if_neg h];simp
theorem zI{sort:List Nat->List Nat}(hsort:∀l,(sort l).Perm l)(p:Pre g an x by_ s)(m:Mid g x by_ s L s1 new bs)(hi:g.inc i x)(hiL:i∉L)(hb:by_≠some i)(hy:s1.num (g.oth i x)=0)
 {s2:DS}{new2:List Nat}{bs2:List (List Nat)} (c2:Post g (g.oth i x) (some i) { s1 with stk:=s1.stk++[i]} s2 new2 bs2) {s3:DS} (h3:s3={ s2 with low:=upd s2.low x (min (s2.low x) (s2.low (g.oth i x)))}) :
 ∃new' bs',Mid g x by_ s (L++[i]) (if s3.num x<=s3.low (g.oth i x)then s3.close sort i else s3) new' bs':=by
 obtain⟨oi,one,oo⟩:=inc_oth hi;have hxv:s1.num x≠0:=by rw[m.numx];omega
 have ps:=sub_pre p m hi hy;have hT2:∀v,Nw { s1 with stk:=s1.stk++[i]} s2 v↔s1.num v=0/\s2.num v≠0:=λv=>Iff.rfl;generalize hy':g.oth i x=y at *
 have keep2:∀v,s1.num v≠0->s2.num v=s1.num v:=c2.keep;have hT:∀v,Nw s s2 v↔Nw s s1 v\/(s1.num v=0/\s2.num v≠0):=λv=>by
  unfold Nw;constructor
  .rintro⟨h1,h2⟩;by_cases e:s1.num v=0
   .exact .inr ⟨e,h2⟩
   .exact .inl ⟨h1,e⟩
  .rintro (⟨h1,h2⟩|⟨h1,h2⟩)
   .exact⟨h1,by rw[keep2 v h2];exact h2⟩
   .refine⟨Decidable.byContradiction λhc=>?_,h2⟩;exact m.toCom.met hc h1
 have hxT:Nw s s1 x:=m.toCom.nx p.x0;have hnx2:s2.num x=s.cnt+1:=by rw[keep2 x hxv];exact m.numx
 have hlx2:s2.low x=s1.low x:=c2.lowk x λh=>hxv h.1;have hy2:s2.num y≠0:=by rw[c2.numx];simp
 have hny:s2.num x<s2.num y:=by
  have h1:=c2.numx;have h2:=m.le x;simp only at h1;rw[h1,keep2 x hxv];omega
 have hbT:∀k u,g.inc k u->s1.num u=0->some k≠by_:=λk u hk hu e=>by
  obtain⟨b1,b2⟩:=p.by1 k e.symm;by_cases q:u=x
  .rw[q]at hu;exact hxv hu
  .rw[ga b1 hk q]at hu;exact m.toCom.met (p.gray _ b2) hu
 have hA:∀k,(k∈new\/∃b∈bs,k∈b)->∀v,g.inc k v->s1.num v≠0:=λk hk v hv=>by
  obtain⟨_,⟨u,a,b,c⟩|⟨b,c⟩⟩:=(m.part k).1 hk
  .by_cases e:v=u
   .rw[e];exact a.2
   .rw[ga c hv e];exact m.blackT u a b k c
  .by_cases e:v=x
   .rw[e];exact hxv
   .rw[ga b hv e];exact m.blackx k c
 have hB:∀k,(k∈new2\/∃b∈bs2,k∈b)↔k≠i/\∃u,(s1.num u=0/\s2.num u≠0)/\g.inc k u:=λk=>by
  rw[c2.part k];constructor
  .rintro⟨h1,h2⟩;exact⟨λe=>h1 (by rw[e]),h2⟩
  .rintro⟨h1,h2⟩;exact⟨λe=>h1 (Option.some.inj e),h2⟩
 have hiA:¬(i∈new\/∃b∈bs,i∈b):=λh=>hA i h y oi hy;have hiB:¬(i∈new2\/∃b∈bs2,i∈b):=λh=>((hB i).1 h).1 rfl;have hdis:∀k,(k∈new\/∃b∈bs,k∈b)->¬(k∈new2\/∃b∈bs2,k∈b):=λk h1 h2=>by
  obtain⟨_,u,a,b⟩:=(hB k).1 h2;exact hA k h1 u b a.1
 have hgray:∀u k,(s1.num u=0/\s2.num u≠0)->g.inc k u->¬(s1.num (g.oth k u)=0/\s2.num (g.oth k u)≠0)->g.oth k u∈x::an:=λu k hu hk hn=>by
  have h1:=c2.black u hu k hk;have h2:s1.num (g.oth k u)≠0:=λe=>hn ⟨e,h1⟩;refine Decidable.byContradiction λhc=>?_;have:=ps.black _ h2 hc k (inc_oth hk).1;rw[(inc_oth hk).2.2]at this;exact this hu.1
 have hnd:(new++bs.flatten++(i::(new2++bs2.flatten))).Nodup:=by
  rw[aN];refine⟨m.nd,?_,?_⟩
  .rw[aY];refine⟨λh=>hiB ?_,c2.nd⟩;rw[aw,fT]at h;exact h
  .intro a ha c hc;rw[aw,fT]at ha;rcases ao.1 hc with rfl|hc
   .exact λe=>hiA (e▸ha)
   .rw[aw,fT]at hc;exact λe=>hdis a ha (e▸hc)
 have hl3:∀v,v≠x->s3.low v=s2.low v:=λv hv=>by rw[h3];exact upd_ne hv
 have hl3x:s3.low x=min (s1.low x) (s2.low y):=by rw[h3];show upd s2.low x _ x=_;rw[upd_same,hlx2]
 have hn3:s3.num=s2.num:=by rw[h3]
 have hc3:s3.cnt=s2.cnt:=by rw[h3]
 have hs3:s3.stk=s.stk++new++i::new2:=by
  rw[h3];have:=c2.stk;simp only at this |-;rw[this,m.stk];simp
 have hb3:s3.blk=s.blk++(bs++bs2):=by
  rw[h3];have:=c2.blk;simp only at this |-;rw[this,m.blk];simp
 have hTm:∀v,Nw s s3 v↔Nw s s1 v\/(s1.num v=0/\s2.num v≠0):=λv=>by rw[<-hT v];unfold Nw;rw[hn3]
 have hconnT:∀u,(s1.num u=0/\s2.num u≠0)->Conn g (λv=>s1.num v=0/\s2.num v≠0) y u:=c2.conn;clear h3
 have com:∀(s':DS) (nw:List Nat) (bb:List (List Nat)),s'.num=s3.num->s'.low=s3.low->s'.cnt=s3.cnt->s'.stk=s.stk++nw->s'.blk=s.blk++bb->(nw++bb.flatten).Nodup->(∀k∈nw,∃b,by_=some b/\Cls g k b)->(∀b∈bb,IsBlock g b) ->
  (∀k,(k∈nw\/∃b∈bb,k∈b)↔(k∈new\/∃b∈bs,k∈b)\/k=i\/(k∈new2\/∃b∈bs2,k∈b))->Mid g x by_ s (L++[i]) s' nw bb:=by
  intro s' nw bb q1 q2 q3 q4 q5 q6 q7 q8 q9;have hT':∀v,Nw s s' v↔Nw s s1 v\/(s1.num v=0/\s2.num v≠0):=λv=>by rw[<-hTm v];unfold Nw;rw[q1]
  have qn:s'.num=s2.num:=q1.trans hn3;have hkeep:∀v,s.num v≠0->s'.num v=s.num v:=λv hv=>by rw[qn,keep2 v (m.toCom.met hv)];exact m.keep v hv
  refine { keep:=hkeep,numx:=by rw[qn];exact hnx2,newn:=λv hv=>?_,cnt:=?_,le:=λv=>by rw[qn,q3,hc3];exact c2.le v,inj:=λu v=>by rw[qn];exact c2.inj u v,conn:=λu hu=>?_,lowk:=λv hv=>?_,lowle:=?_,lowpos:=?_,stk:=q4,blk:=q5,nd:=q6,cls:=q7,blks:=q8,blackT:=λu hu hne k hk=>?_,blackx:=λk hk=>?_,lowa:=λu k hu hk h hkb hn=>?_,lowb:=?_,part:=λk=>?_}
  .rw[qn];rcases(hT' v).1 hv with h|h
   .rw[keep2 v h.2];exact m.newn v h
   .have:=c2.newn v h;have:=m.cnt;simp only at *
    omega
  .have:=m.cnt;have:=c2.cnt;simp only at *
   omega
  .rcases(hT' u).1 hu with h|h
   .exact(m.conn u h).mono λz hz=>(hT' z).2 (.inl hz)
   .have h1:Conn g (Nw s s') x (g.oth i x):=Conn.edge ((hT' x).2 (.inl hxT)) hi (by rw[hy'];exact(hT' y).2 (.inr ⟨hy,hy2⟩));rw[hy']at h1;exact h1.trans ((hconnT u h).mono λz hz=>(hT' z).2 (.inr hz))
  .have h1:v≠x:=λe=>hv ((hT' v).2 (.inl (e▸hxT)));have h2:=c2.lowk v λe=>hv ((hT' v).2 (.inr e));simp only at h2;rw[q2,hl3 v h1,h2];exact m.lowk v λe=>hv ((hT' v).2 (.inl e))
  .have:=m.lowle;have:=m.numx;rw[q2,hl3x,qn,hnx2];omega
  .have:=m.lowpos;have:=c2.lowpos;rw[q2,hl3x];omega
  .rw[qn];rcases(hT' u).1 hu with h|h
   .have:=m.blackT u h hne k hk;rw[keep2 _ this];exact this
   .exact c2.black u h k hk
  .rw[qn];rcases aw.1 hk with hk|hk
   .have:=m.blackx k hk;rw[keep2 _ this];exact this
   .simp only[ao,bd,or_false]at hk;rw[hk,hy'];exact hy2
  .rw[q2,hl3x,qn];rcases(hT' u).1 hu with hu1|hu2
   .have hq:u≠x\/k∈L:=by
     by_cases e:u=x
     .rcases h with h|h
      .exact .inl h
      .rcases aw.1 h with h|h
       .exact .inr h
       .simp only[ao,bd,or_false]at h;rw[e,h,hy']at hn;exact absurd ((hT' y).2 (.inr ⟨hy,hy2⟩)) hn
     .exact .inl e
    have hv:s1.num (g.oth k u)≠0:=by
     by_cases e:u=x
     .rcases hq with hq|hq
      .exact absurd e hq
      .rw[e];exact m.blackx k hq
     .exact m.blackT u hu1 e k hk
    have:=m.lowa u k hu1 hk hq hkb λe=>hn ((hT' _).2 (.inl e));rw[keep2 _ hv];omega
   .by_cases e:k=i
    .have hux:u≠x:=λe=>hxv (e▸hu2.1);have:u=y:=by rw[<-hy'];exact ga hi (e▸hk) hux
     rw[e,this,oo]at hn;exact absurd ((hT' x).2 (.inl hxT)) hn
    .have:=c2.lowa u k hu2 hk (λq=>e (Option.some.inj q)) λq=>hn ((hT' _).2 (.inr q));omega
  .rw[q2,hl3x,qn];by_cases hq:s1.low x<=s2.low y
   .rw[dU hq];rcases m.lowb with h|⟨u,k,a,b,c,d,e⟩
    .exact .inl (by rw[h,m.numx,hnx2])
    .have hv:s1.num (g.oth k u)≠0:=by have:=m.lowpos;omega
     refine .inr ⟨u,k,(hT' u).2 (.inl a),b,c,λq=>?_,by rw[keep2 _ hv];exact e⟩;rcases(hT' _).1 q with q|q
     .exact d q
     .exact hv q.1
   .rw[kh om];have h1:=m.lowle;have h2:=m.numx;rcases c2.lowb with h|⟨u,k,a,b,c,d,e⟩
    .omega
    .have hg:=hgray u k a b d;have hwx:g.oth k u≠x:=λq=>by rw[q,hnx2]at e;omega
     have han:g.oth k u∈an:=by
      rcases ao.1 hg with q|q
      .exact absurd q hwx
      .exact q
     refine .inr ⟨u,k,(hT' u).2 (.inr a),b,hbT k u b a.1,λq=>?_,e⟩;exact p.gray _ han q.1
  .rw[q9 k];constructor
   .rintro (h|h|h)
    .obtain⟨h1,h2⟩:=(m.part k).1 h;exact⟨h1,h2.imp (λ⟨u,a,b,c⟩=>⟨u,(hT' u).2 (.inl a),b,c⟩) λq=>⟨q.1,bg _ q.2⟩⟩
    .subst h;exact⟨hb.symm,.inr ⟨hi,by simp⟩⟩
    .obtain⟨h1,u,a,c⟩:=(hB k).1 h;exact⟨hbT k u c a.1,.inl ⟨u,(hT' u).2 (.inr a),λe=>hxv (e▸a.1),c⟩⟩
   .rintro⟨h1,⟨u,a,b,c⟩|⟨b,c⟩⟩
    .rcases(hT' u).1 a with a|a
     .exact .inl ((m.part k).2 ⟨h1,.inl ⟨u,a,b,c⟩⟩)
     .by_cases e:k=i
      .exact .inr (.inl e)
      .exact .inr (.inr ((hB k).2 ⟨e,u,a,c⟩))
    .rcases aw.1 c with c|c
     .exact .inl ((m.part k).2 ⟨h1,.inr ⟨b,c⟩⟩)
     .simp only[ao,bd,or_false]at c;exact .inr (.inl c)
 have hcls2:∀k∈new2,Cls g k i:=λk hk=>by
  obtain⟨b,e,h⟩:=c2.cls k hk;cases e;exact h
 by_cases hcl:s3.num x<=s3.low y
 ·
  rw[if_pos hcl];rw[hn3,hl3 y one]at hcl;have his:i∉s.stk++new:=λh=>by
   rcases aw.1 h with h|h
   .by_cases q:some i=by_
    .exact hb q.symm
    .exact m.toCom.met (p.stk i h q y oi) hy
   .exact hiA (.inl h)
  have hidx:s3.stk.idxOf i=(s.stk++new).length:=by rw[hs3];exact Lc his
  have hdrop:s3.stk.drop (s3.stk.idxOf i)=i::new2:=by rw[hidx,hs3,qh]
  have htake:s3.stk.take (s3.stk.idxOf i)=s.stk++new:=by rw[hidx,hs3,yG]
  have hsep:∀u k,(s1.num u=0/\s2.num u≠0)->g.inc k u->(s1.num (g.oth k u)=0/\s2.num (g.oth k u)≠0)\/g.oth k u=x:=λu k hu hk=>by
   by_cases q:s1.num (g.oth k u)=0/\s2.num (g.oth k u)≠0
   .exact .inl q
   .right;by_cases e:k=i
    .have hux:u≠x:=λe=>hxv (e▸hu.1);have:u=y:=by rw[<-hy'];exact ga hi (e▸hk) hux
     rw[e,this,oo]
    .have h1:=c2.lowa u k hu hk (λq=>e (Option.some.inj q)) q;have h2:=hgray u k hu hk q;refine Decidable.byContradiction λhc=>?_;have han:g.oth k u∈an:=by
      rcases ao.1 h2 with q|q
      .exact absurd q hc
      .exact q
     have h3:=p.gray _ han;have h4:=p.le (g.oth k u);rw[keep2 _ (m.toCom.met h3),m.keep _ h3]at h1;omega
  have hblock:IsBlock g (sort (i::new2)):=by
   have hm:∀k,k∈sort (i::new2)↔k∈i::new2:=λk=>(hsort _).mem_iff;have hinc:∀e∈i::new2,∃u,(s1.num u=0/\s2.num u≠0)/\g.inc e u:=λe he=>by
    rcases ao.1 he with rfl|he
    .exact⟨y,⟨hy,hy2⟩,oi⟩
    .obtain⟨_,u,a,b⟩:=(hB e).1 (.inl he);exact⟨u,a,b⟩
   have hci:∀e∈i::new2,Cls g e i:=λe he=>by
    rcases ao.1 he with rfl|he
    .exact .refl
    .exact hcls2 e he
   refine⟨λe=>?_,λa ha c hc=>(hci a ((hm a).1 ha)).trans (hci c ((hm c).1 hc)).symm,λe he f hr=>(hm f).2 ?_⟩
   .have:=(hm i).2 (aM ..);rw[e]at this;cases this
   .rw[hm]at he;obtain⟨u,hu,heu⟩:=hinc e he;obtain⟨v,v1,v2,v3⟩:=hr;by_cases hf:∃u,(s1.num u=0/\s2.num u≠0)/\g.inc f u
    .by_cases e1:f=i
     .rw[e1];exact aM ..
     .rcases(hB f).2 ⟨e1,hf⟩with q|⟨b,q1,q2⟩
      .exact aQ _ q
      ·
       exfalso;have hbk:=c2.blks b q1;have heb:e∈b:=hbk.2.2 f q2 e (Rel.symm ⟨v,v1,v2,v3⟩);rcases ao.1 he with rfl|he
       .exact hiB (.inr ⟨b,q1,heb⟩)
       .have:=c2.nd;rw[aN]at this;exact this.2.2 e he e (fT.2 ⟨b,q1,heb⟩) rfl
    .exfalso;have hvT:¬(s1.num v=0/\s2.num v≠0):=λq=>hf ⟨v,q,v2⟩;have hvu:v≠u:=λe=>hvT (e▸hu);have hv':v=g.oth e u:=ga heu v1 hvu;have hvx:v=x:=by
      rcases hsep u e hu heu with q|q
      .rw[<-hv']at q;exact absurd q hvT
      .rw[hv',q]
     have hou:g.oth e v=u:=by rw[hv'];exact(inc_oth heu).2.2
     rw[hou]at v3;have:=v3.stays (T:=λz=>s1.num z=0/\s2.num z≠0) (λz k hz hk hne=>by
      rcases hsep z k hz hk with q|q
      .exact q
      .exact absurd (q.trans hvx.symm) hne) hu
     exact hf ⟨_,this,(inc_oth v2).1⟩
  refine⟨new,bs++bs2++[sort (i::new2)],com (s3.close sort i) _ _ rfl rfl rfl ?_ ?_ ?_ m.cls ?_ ?_⟩
  .exact htake
  .show s3.blk++[sort (s3.stk.drop (s3.stk.idxOf i))]=_;rw[hdrop,hb3];simp
  .refine(List.Perm.nodup_iff ?_).2 hnd;refine List.perm_iff_count.2 λa=>?_;have:=(hsort (i::new2)).count_eq a;simp only[kC,jI,nG,bV,eG,vk]at *
   omega
  .intro b hb;rcases aw.1 hb with hb|hb
   .rcases aw.1 hb with hb|hb
    .exact m.blks b hb
    .exact c2.blks b hb
   .simp only[ao,bd,or_false]at hb;rw[hb];exact hblock
  .intro k;have hm:k∈sort (i::new2)↔k∈i::new2:=(hsort _).mem_iff;simp only[aw,ao,bd,or_false]at *
   constructor
   .rintro (h|⟨b,(h|h)|h,hk⟩)
    .exact .inl (.inl h)
    .exact .inl (.inr ⟨b,h,hk⟩)
    .exact .inr (.inr (.inr ⟨b,h,hk⟩))
    .rw[h,hm]at hk;rcases hk with hk|hk
     .exact .inr (.inl hk)
     .exact .inr (.inr (.inl hk))
   .rintro ((h|⟨b,h,hk⟩)|h|h|⟨b,h,hk⟩)
    .exact .inl h
    .exact .inr ⟨b,.inl (.inl h),hk⟩
    .exact .inr ⟨_,.inr rfl,hm.2 (.inl h)⟩
    .exact .inr ⟨_,.inr rfl,hm.2 (.inr h)⟩
    .exact .inr ⟨b,.inl (.inr h),hk⟩
 .rw[if_neg hcl];rw[hn3,hl3 y one]at hcl;have hrel:∃b,by_=some b/\Rel g i b:=by
   rcases c2.lowb with h|⟨u,k,a,b,c,d,e⟩
   .omega
   .have hg:=hgray u k a b d;have hwx:g.oth k u≠x:=λq=>by rw[q,hnx2]at e;omega
    have han:g.oth k u∈an:=by
     rcases ao.1 hg with q|q
     .exact absurd q hwx
     .exact q
    have hxan:x∉an:=λh=>p.gray x h p.x0;cases hby:by_ with
    |none=>rw[p.by0 hby]at han;cases han
    |some b0 =>
      obtain⟨b1,b2⟩:=p.by1 b0 hby;refine⟨b0,rfl,x,hi,b1,?_⟩;rw[hy'];have k1:Conn g (·≠x) y u:=(hconnT u a).mono λz hz e=>hxv (e▸hz.1);have k2:Conn g (·≠x) u (g.oth k u):=Conn.edge k1.right b hwx;exact(k1.trans k2).trans (p.chain x hxan _ han _ b2)
  obtain⟨b0,hby,hrel⟩:=hrel;refine⟨new++i::new2,bs++bs2,com s3 _ _ rfl rfl rfl (by rw[hs3];simp) hb3 ?_ ?_ ?_ ?_⟩
  .refine(List.Perm.nodup_iff ?_).2 hnd;refine List.perm_iff_count.2 λa=>?_;simp only[kC,eG,vk]at *
   omega
  .intro k hk;rcases aw.1 hk with hk|hk
   .exact m.cls k hk
   .rcases ao.1 hk with rfl|hk
    .exact⟨b0,hby,.one hrel⟩
    .exact⟨b0,hby,(hcls2 k hk).trans (.one hrel)⟩
  .intro b hb;rcases aw.1 hb with hb|hb
   .exact m.blks b hb
   .exact c2.blks b hb
  .intro k;simp only[aw,ao];constructor
   .rintro ((h|h|h)|⟨b,h|h,hk⟩)
    .exact .inl (.inl h)
    .exact .inr (.inl h)
    .exact .inr (.inr (.inl h))
    .exact .inl (.inr ⟨b,h,hk⟩)
    .exact .inr (.inr (.inr ⟨b,h,hk⟩))
   .rintro ((h|⟨b,h,hk⟩)|h|h|⟨b,h,hk⟩)
    .exact .inl (.inl h)
    .exact .inr ⟨b,.inl h,hk⟩
    .exact .inl (.inr (.inl h))
    .exact .inl (.inr (.inr h))
    .exact .inr ⟨b,.inr h,hk⟩
end
variable {g:Gr}
theorem unm_pos{s:DS}{x:Nat}(hx:x<g.n)(h:s.num x=0):0<unm g s:=by
 unfold unm;rw[List.countP_pos_iff];exact⟨x,aq.2 hx,by simp[h]⟩
theorem visit_good{ends:Nat->List Nat}{sort:List Nat->List Nat}(hends:∀x,x<g.n->(ends x).Nodup/\∀i,i∈ends x↔g.inc i x)(hsort:∀l,(sort l).Perm l):∀f,Good g (visit g ends sort f) f
 |0=>λan x by_ s p hf=>by
   have:=unm_pos p.hx p.x0;omega
 |f+1=>λan x by_ s p hf=>by
   have ih:=visit_good hends hsort f;obtain⟨e1,e2⟩:=hends x p.hx
   have fold:∀(l L:List Nat) (s1:DS) (new:List Nat) (bs:List (List Nat)),Mid g x by_ s L s1 new bs->L++l=ends x ->
    ∃new' bs',Mid g x by_ s (L++l) (l.foldl (edgeS g sort (λy i s=>visit g ends sort f y (some i) s) x by_) s1) new' bs':=by
    intro l;induction l with
    |nil=>intro L s1 new bs m _;exact⟨new,bs,by rw[bV];exact m⟩
    |cons i l ihl =>
      intro L s1 new bs m hL;have hi:g.inc i x:=(e2 i).1 (by rw[<-hL];simp);have hiL:i∉L:=by
       rw[<-hL,aN]at e1;exact λh=>e1.2.2 i h i (aM ..) rfl
      obtain⟨oi,one,oo⟩:=inc_oth hi;have step:∃new' bs',Mid g x by_ s (L++[i]) (edgeS g sort (λy i s=>visit g ends sort f y (some i) s) x by_ s1 i) new' bs':=by
       unfold edgeS;by_cases hb:by_=some i
       .rw[if_pos hb];refine⟨new,bs,qy m hi ?_ (.inl hb)⟩;exact m.toCom.met (p.gray _ (p.by1 i hb).2)
       .rw[if_neg hb];by_cases hy:s1.num (g.oth i x)=0
        .rw[if_pos hy];have ps:=sub_pre p m hi hy;have hlt:unm g { s1 with stk:=s1.stk++[i]}<unm g s:=AS (λv hv=>m.toCom.met hv) p.hx p.x0 (show s1.num x≠0 by rw[m.numx];omega);obtain⟨new2,bs2,c2⟩:=ih _ _ _ _ ps om;exact zI hsort p m hi hiL hb hy c2 rfl
        .rw[if_neg hy];by_cases hlt:s1.num (g.oth i x)<s1.num x
         .rw[if_pos hlt];exact⟨_,_,zJ p m hi hiL hb hy hlt⟩
         .rw[if_neg hlt];refine⟨new,bs,qy m hi hy (.inr ⟨Decidable.byContradiction λhc=>?_,hy⟩)⟩;have h1:=p.le (g.oth i x);rw[m.keep _ hc,m.numx]at hlt;omega
      obtain⟨new1,bs1,m1⟩:=step;have:=ihl (L++[i]) _ new1 bs1 m1 (by rw[<-hL];simp);rw[bO]at this;exact this
   obtain⟨new,bs,m⟩:=fold (ends x) [] (enter x s) [] [] (mid0 p) (bt _);exact⟨new,bs,m.post p.x0 e2⟩
def start:DS:=⟨λ_=>0,λ_=>0,0,[],[]⟩
def from1(g:Gr)(ends:Nat->List Nat)(sort:List Nat->List Nat)(f:Nat)(s:DS)(x:Nat):DS:=if s.num x=0 then visit g ends sort f x none s else s
def runB(g:Gr)(ends:Nat->List Nat)(sort:List Nat->List Nat)(f:Nat):DS:=(List.range g.n).foldl (from1 g ends sort f) start
structure Btw(g:Gr)(s:DS):Prop where
 black:∀v,s.num v≠0->∀i,g.inc i v->s.num (g.oth i v)≠0
 le:∀v,s.num v<=s.cnt
 inj:∀u v,s.num u=s.num v->s.num u≠0->u=v
 stk:s.stk=[]
 nd:s.blk.flatten.Nodup
 blks:∀b∈s.blk,IsBlock g b
 part:∀i,(∃b∈s.blk,i∈b)↔∃u,s.num u≠0/\g.inc i u
theorem xh:Btw g start:=by
 refine⟨λv h=>absurd rfl h,λv=>ab _,λu v _ h=>absurd rfl h,rfl,by simp[start],λb hb=>(by cases hb),λi=>?_⟩;constructor
 .rintro⟨b,hb,_⟩;cases hb
 .rintro⟨u,h,_⟩;exact absurd rfl h
theorem AC{ends:Nat->List Nat}{sort:List Nat->List Nat}(hends:∀x,x<g.n->(ends x).Nodup/\∀i,i∈ends x↔g.inc i x)(hsort:∀l,(sort l).Perm l){f:Nat}{s:DS}{x:Nat}(b:Btw g s)(hx:x<g.n)(hf:unm g s<=f) :
 Btw g (from1 g ends sort f s x)/\(from1 g ends sort f s x).num x≠0/\(∀v,s.num v≠0->(from1 g ends sort f s x).num v≠0)/\unm g (from1 g ends sort f s x)<=f:=by
 unfold from1;by_cases h:s.num x=0
 .rw[if_pos h];have p:Pre g [] x none s:=⟨hx,h,λa ha=>(by cases ha),λv hv _=>b.black v hv,b.le,b.inj,λz _ a ha=>(by cases ha),λc hc=>(by cases hc),λ_=>rfl,λj hj=>by rw[b.stk]at hj;cases hj⟩
  obtain⟨new,bs,c⟩:=visit_good hends hsort f [] x none s p hf;generalize visit g ends sort f x none s=s' at *
  have hnew:new=[]:=by
   cases new with
   |nil=>rfl
   |cons a r=>obtain⟨_,e,_⟩:=c.cls a (aM ..);cases e
  subst hnew;have hmet:∀v,s.num v≠0->s'.num v≠0:=λv hv=>c.toCom.met hv;refine⟨⟨λv hv i hi=>?_,c.le,c.inj,by rw[c.stk,b.stk];rfl,?_,λbb hb=>?_,λi=>?_⟩,by rw[c.numx];omega,hmet,cI (Mm hmet) hf⟩
  .by_cases ho:s.num v=0
   .exact c.black v ⟨ho,hv⟩ i hi
   .exact hmet _ (b.black v ho i hi)
  .rw[c.blk,kC,aN];refine⟨b.nd,by simpa using c.nd,λa ha d hd e=>?_⟩;subst e;rw[fT]at ha hd;obtain⟨u,hu,hiu⟩:=(b.part a).1 ha;obtain⟨_,u2,h2,hi2⟩:=(c.part a).1 (.inr hd);by_cases e:u2=u
   .exact hu (e▸h2.1)
   .have:=ga hiu hi2 e;exact b.black u hu a hiu (this▸h2.1)
  .rw[c.blk]at hb;rcases aw.1 hb with hb|hb
   .exact b.blks bb hb
   .exact c.blks bb hb
  .rw[c.blk];constructor
   .rintro⟨bb,hb,hi⟩;rcases aw.1 hb with hb|hb
    .obtain⟨u,h1,h2⟩:=(b.part i).1 ⟨bb,hb,hi⟩;exact⟨u,hmet u h1,h2⟩
    .obtain⟨_,u,h1,h2⟩:=(c.part i).1 (.inr ⟨bb,hb,hi⟩);exact⟨u,h1.2,h2⟩
   .rintro⟨u,h1,h2⟩;by_cases ho:s.num u=0
    .rcases(c.part i).2 ⟨by simp,u,⟨ho,h1⟩,h2⟩with q|⟨bb,q1,q2⟩
     .cases q
     .exact⟨bb,ep _ q1,q2⟩
    .obtain⟨bb,q1,q2⟩:=(b.part i).2 ⟨u,ho,h2⟩;exact⟨bb,bg _ q1,q2⟩
 .rw[if_neg h];exact⟨b,h,λv hv=>hv,hf⟩
theorem yS{s:DS}:unm g s<=g.n:=by
 unfold unm;exact cI List.countP_le_length (by simp)
theorem runB_ok{ends:Nat->List Nat}{sort:List Nat->List Nat}(hends:∀x,x<g.n->(ends x).Nodup/\∀i,i∈ends x↔g.inc i x)(hsort:∀l,(sort l).Perm l){f:Nat}(hf:g.n<=f) :
 (runB g ends sort f).blk.flatten.Nodup/\(∀b∈(runB g ends sort f).blk,IsBlock g b)/\∀i,i<g.m↔∃b∈(runB g ends sort f).blk,i∈b:=by
 have key:∀k,k<=g.n->Btw g ((List.range k).foldl (from1 g ends sort f) start)/\(∀v,v<k->((List.range k).foldl (from1 g ends sort f) start).num v≠0)/\unm g ((List.range k).foldl (from1 g ends sort f) start)<=f:=by
  intro k;induction k with
  |zero=>intro _;exact⟨xh,λv hv=>absurd hv (gY _),cI yS hf⟩
  |succ k ih =>
    intro hk;obtain⟨h1,h2,h3⟩:=ih om;rw[cJ,eW];obtain⟨a,b,c,d⟩:=AC hends hsort h1 (show k<g.n by omega) h3;refine⟨a,λv hv=>?_,d⟩;by_cases e:v=k
    .subst e;exact b
    .exact c v (h2 v om)
 obtain⟨h1,h2,_⟩:=key g.n (ab _);refine⟨h1.nd,h1.blks,λi=>?_⟩;show _↔∃b∈((List.range g.n).foldl (from1 g ends sort f) start).blk,i∈b;rw[h1.part i];constructor
 .intro hi;exact⟨g.tl i,h2 _ (g.ok i hi).1,hi,.inl rfl⟩
 .rintro⟨u,_,h⟩;exact h.1
variable {g:Gr}{ends:Nat->List Nat}{sort:List Nat->List Nat}
theorem vF{f f':Nat->Nat}:∀{l:List Nat},(∀v∈l,f' v<=f v)->(l.map f').sum<=(l.map f).sum
 |[],_=>ab _
 |a::l,h=>by
   simp only[aS,eA];have h1:=vF (l:=l) λv hv=>h v (aQ _ hv);have h2:=h a (aM ..);omega
theorem tC{f f':Nat->Nat}{d x:Nat}:∀{l:List Nat},(∀v∈l,f' v<=f v)->x∈l->f' x+d<=f x->(l.map f').sum+d<=(l.map f).sum
 |[],_,hx,_=>by cases hx
 |a::l,h,hx,hd=>by
   simp only[aS,eA];rcases ao.1 hx with rfl|hx
   .have:=vF (l:=l) λv hv=>h v (aQ _ hv);omega
   .have h1:=tC (l:=l) (λv hv=>h v (aQ _ hv)) hx hd;have h2:=h a (aM ..);omega
def wt(g:Gr)(ends:Nat->List Nat)(s:DS):Nat:=((List.range g.n).map λv=>if s.num v=0 then 1+2*(ends v).length else 0).sum
def pot(g:Gr)(ends:Nat->List Nat)(s:DS):Nat:=s.cnt+s.stk.length+s.blk.length+wt g ends s
theorem wQ{x:Nat}{s:DS}:∀v,s.num v≠0->(enter x s).num v≠0:=λv hv=>by
 show upd s.num x (s.cnt+1) v≠0;by_cases e:v=x
 .subst e;rw[upd_same];omega
 .rw[upd_ne e];exact hv
theorem pot_enter{x:Nat}{s:DS}(hx:x<g.n)(h0:s.num x=0):pot g ends (enter x s)+2*(ends x).length<=pot g ends s:=by
 have h1:wt g ends (enter x s)+(1+2*(ends x).length)<=wt g ends s:=by
  refine tC (x:=x) (λv _=>?_) (aq.2 hx) ?_
  .by_cases e:s.num v=0
   .rw[if_pos e];split<;>omega
   .rw[if_neg e,if_neg (wQ v e)];exact ab _
  .have e:(enter x s).num x≠0:=by show upd s.num x (s.cnt+1) x≠0;rw[upd_same];omega
   rw[if_neg e,if_pos h0];omega
 unfold pot;have h2:(enter x s).cnt=s.cnt+1:=rfl;have h3:(enter x s).stk=s.stk:=rfl;have h4:(enter x s).blk=s.blk:=rfl;rw[h2,h3,h4];omega
theorem Ew{s:DS}{i:Nat}:pot g ends (s.close sort i)<=pot g ends s+1:=by
 have h1:(s.close sort i).stk.length<=s.stk.length:=by
  show(s.stk.take _).length<=_;rw[bK];omega
 have h2:(s.close sort i).blk.length=s.blk.length+1:=by
  show(s.blk++[_]).length=_;simp
 have h3:wt g ends (s.close sort i)=wt g ends s:=rfl;have h4:(s.close sort i).cnt=s.cnt:=rfl;unfold pot;omega
theorem pot_push{s:DS}{i:Nat}:pot g ends { s with stk:=s.stk++[i]}=pot g ends s+1:=by
 unfold pot;have:wt g ends { s with stk:=s.stk++[i]}=wt g ends s:=rfl;simp only[this,aB,ar,aU];omega
theorem GQ{vis:Nat->Nat->DS->DS}{x:Nat}{by_:Option Nat}{i:Nat}(hi:g.inc i x)(hv:∀(y i:Nat) (s:DS),y<g.n->s.num y=0->(∀v,s.num v≠0->(vis y i s).num v≠0)/\pot g ends (vis y i s)<=pot g ends s)(s:DS) :
 (∀v,s.num v≠0->(edgeS g sort vis x by_ s i).num v≠0)/\pot g ends (edgeS g sort vis x by_ s i)<=pot g ends s+2:=by
 unfold edgeS;by_cases hb:by_=some i
 .rw[if_pos hb];exact⟨λv h=>h,om⟩
 rw[if_neg hb];by_cases hy:s.num (g.oth i x)=0
 .rw[if_pos hy];obtain⟨a,b⟩:=hv (g.oth i x) i { s with stk:=s.stk++[i]} (inc_lt (inc_oth hi).1) hy;rw[pot_push]at b;generalize vis (g.oth i x) i { s with stk:=s.stk++[i]}=s2 at *
  simp only;split
  .refine⟨λv h=>a v h,?_⟩;have:=Ew (g:=g) (ends:=ends) (sort:=sort) (s:={ s2 with low:=upd s2.low x (min (s2.low x) (s2.low (g.oth i x)))}) (i:=i);have e:pot g ends ({ s2 with low:=upd s2.low x (min (s2.low x) (s2.low (g.oth i x)))}:DS)=pot g ends s2:=rfl;rw[e]at this;exact cI this om
  .refine⟨λv h=>a v h,?_⟩;exact cI b om
 .rw[if_neg hy];split
  .refine⟨λv h=>h,?_⟩;have:pot g ends { s with stk:=s.stk++[i],low:=upd s.low x (min (s.low x) (s.num (g.oth i x)))}=pot g ends s+1:=pot_push (s:={ s with low:=upd s.low x (min (s.low x) (s.num (g.oth i x)))});exact cI (Nat.le_of_eq this) om
  .exact⟨λv h=>h,om⟩
theorem pot_fold{vis:Nat->Nat->DS->DS}{x:Nat}{by_:Option Nat}(hv:∀(y i:Nat) (s:DS),y<g.n->s.num y=0->(∀v,s.num v≠0->(vis y i s).num v≠0)/\pot g ends (vis y i s)<=pot g ends s) :
 ∀(l:List Nat) (s:DS),(∀i∈l,g.inc i x)->(∀v,s.num v≠0->(l.foldl (edgeS g sort vis x by_) s).num v≠0)/\pot g ends (l.foldl (edgeS g sort vis x by_) s)<=pot g ends s+2*l.length
 |[],s,_=>⟨λv h=>h,by simp⟩
 |i::l,s,hl=>by
   obtain⟨a1,a2⟩:=GQ (sort:=sort) (by_:=by_) (hl i (aM ..)) hv s;obtain⟨b1,b2⟩:=pot_fold hv l (edgeS g sort vis x by_ s i) λk hk=>hl k (aQ _ hk);refine⟨λv h=>b1 v (a1 v h),?_⟩;rw[ar,gu];omega
theorem pot_visit(hends:∀x,x<g.n->∀i∈ends x,g.inc i x):∀(f x:Nat) (by_:Option Nat) (s:DS),x<g.n->s.num x=0->(∀v,s.num v≠0->(visit g ends sort f x by_ s).num v≠0)/\pot g ends (visit g ends sort f x by_ s)<=pot g ends s
 |0,_,_,_,_,_=>⟨λv h=>h,ab _⟩
 |f+1,x,by_,s,hx,h0=>by
   obtain⟨a,b⟩:=pot_fold (sort:=sort) (by_:=by_) (vis:=λy i s=>visit g ends sort f y (some i) s) (λy i s hy hs=>pot_visit hends f y (some i) s hy hs) (ends x) (enter x s) (hends x hx);have c:=pot_enter (ends:=ends) hx h0;refine⟨λv h=>a v (wQ v h),?_⟩;show pot g ends ((ends x).foldl (edgeS g sort (λy i s=>visit g ends sort f y (some i) s) x by_) (enter x s))<=_;omega
theorem mid_step(hends:∀x,x<g.n->(ends x).Nodup/\∀i,i∈ends x↔g.inc i x)(hsort:∀l,(sort l).Perm l){f:Nat}{an:List Nat}{x:Nat}{by_:Option Nat}{s:DS}(p:Pre g an x by_ s)(hf:unm g s<=f+1){L new:List Nat}{s1:DS}{bs:List (List Nat)}{i:Nat}
 (m:Mid g x by_ s L s1 new bs) (hi:g.inc i x) (hiL:i∉L):∃new' bs',Mid g x by_ s (L++[i]) (edgeS g sort (λy i s=>visit g ends sort f y (some i) s) x by_ s1 i) new' bs':=by
 have ih:=visit_good hends hsort f;obtain⟨oi,one,oo⟩:=inc_oth hi;unfold edgeS;by_cases hb:by_=some i
 .rw[if_pos hb];refine⟨new,bs,qy m hi ?_ (.inl hb)⟩;exact m.toCom.met (p.gray _ (p.by1 i hb).2)
 .rw[if_neg hb];by_cases hy:s1.num (g.oth i x)=0
  .rw[if_pos hy];have ps:=sub_pre p m hi hy;have hlt:unm g { s1 with stk:=s1.stk++[i]}<unm g s:=AS (λv hv=>m.toCom.met hv) p.hx p.x0 (show s1.num x≠0 by rw[m.numx];omega);obtain⟨new2,bs2,c2⟩:=ih _ _ _ _ ps om;exact zI hsort p m hi hiL hb hy c2 rfl
  .rw[if_neg hy];by_cases hlt:s1.num (g.oth i x)<s1.num x
   .rw[if_pos hlt];exact⟨_,_,zJ p m hi hiL hb hy hlt⟩
   .rw[if_neg hlt];refine⟨new,bs,qy m hi hy (.inr ⟨Decidable.byContradiction λhc=>?_,hy⟩)⟩;have h1:=p.le (g.oth i x);rw[m.keep _ hc,m.numx]at hlt;omega
theorem sub_unm{an:List Nat}{x:Nat}{by_:Option Nat}{s s1:DS}{L new:List Nat}{bs:List (List Nat)}{i:Nat}(p:Pre g an x by_ s)(m:Mid g x by_ s L s1 new bs):unm g { s1 with stk:=s1.stk++[i]}<unm g s :=
 AS (λv hv=>m.toCom.met hv) p.hx p.x0 (show s1.num x≠0 by rw[m.numx];omega)
end Go.Blk
namespace Go.Proofs.YtlolkmcdimgplaaGreat
open Go.Am
open Go.Blk
def grE(n:Nat)(E:List (Int×Int))(hE:InG n E)(hl:∀i,i<E.length->tlE E i≠hdE E i):Gr:=⟨E.length,n,tlE E,hdE E,λi hi=>⟨(hE i hi).2.1,(hE i hi).2.2,hl i hi⟩⟩
end Go.Proofs.YtlolkmcdimgplaaGreat
