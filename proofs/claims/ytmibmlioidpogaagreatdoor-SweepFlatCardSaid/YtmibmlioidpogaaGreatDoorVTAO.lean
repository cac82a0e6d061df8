/- planar -/
import Derived.Test.YtmibmlioidpogaaGreatDoorVTAN
set_option linter.all false
namespace Go.Proofs.YtmibmlioidpogaaGreatDoor
open Go.Am
open Go.Pla (Met ks tr tr_app tr_root tr_last)
theorem vG{h:AH}{v:AV}{xs:List Nat}{lo:Nat}(hv:IsSl h 1 lo v (nC xs))(hl:xs.length<2^40):C prg 81 [v] h λ_ h'=>IsSl h' 1 lo v (nC xs.reverse)/\Ext lo h h'/\h'.next=h.next/\∀c,c<h.next->(∀b n,v=.sl b 0 n n->c≠b)->h'.get c=h.get c:=by
 have hi:∀ys:List Nat,ij (ys.map λn=>((n:Nat):Int)).toArray=nC ys:=λys=>by rw[nC,kV];rfl
 have bi:∀{d e:Array Int},d.size=e.size->lA (ij d) 0 e=.cells (ij e) 1 false:=fun {d e} he=>by
  unfold lA dH;have:(ij d).drop (0+(ij e).length)=[]:=by rw[List.drop_eq_nil_iff,gR,gR];omega
  rw[this,fK];simp
 rcases hv with⟨rfl,hz⟩|⟨b,n,h1,rfl,h3,h4⟩
 .have hx:xs=[]:=by
   have:=congrArg List.length hz;rw[jj]at this;exact aY.1 (by simpa using this)
  subst hx;refine(reverse_nil (h:=h)).mono λ_ h' e=>?_;subst e;exact⟨.inl ⟨rfl,rfl⟩,Mc,rfl,λ_ _ _=>rfl⟩
 .rw[jj]at h4;generalize hd:(xs.map λn=>((n:Nat):Int)).toArray=d;have hs:d.size=xs.length:=by rw[<-hd];simp
  have hn:n=d.size:=om;subst hn;rw[<-hi xs,hd,<-bi (d:=d) (e:=d) rfl]at h3;refine(oj (c:=d.size) h3 (by rw[gR];omega) om).mono λ_ h' u=>⟨.inr ⟨b,d.size,h1,rfl,?_,?_⟩,u.ext h1,u.nx,λc _ hc=>u.ne (hc b _ rfl)⟩
  .have hr:nC xs.reverse=ij d.reverse:=by rw[<-hi,<-hd];simp
   rw[hr,<-bi (d:=d) (e:=d.reverse) (by simp)];exact u.get
  .rw[jj];simp;omega
def Lm(L:List (Nat×Nat)):List (Int×AV):=L.map λp=>(((p.1:Nat):Int),AV.int .i64 ((p.2:Nat):Int))
abbrev qO(h:AH)(mb:Nat)(L:List (Nat×Nat)):Prop:=MapG (λk:Int=>AV.int .i64 k) h mb (Lm L)
theorem KJ:∀{L:List (Nat×Nat)}{k:Int},lkG (Lm L) k=none\/∃y x A C,k=((y:Nat):Int)/\lkG (Lm L) k=some (.int .i64 ((x:Nat):Int))/\L=A++(y,x)::C
 |[],k=>.inl rfl
 |(y,x)::L,k=>by
   by_cases h:((y:Nat):Int)=k
   .refine .inr ⟨y,x,[],L,h.symm,?_,rfl⟩;simp only[Lm,bI,lkG,if_pos h]
   .have e:lkG (Lm ((y,x)::L)) k=lkG (Lm L) k:=by simp only[Lm,bI,lkG,if_neg h]
    rcases KJ (L:=L) (k:=k)with h1|⟨y',x',A,C,h1,h2,h3⟩
    .exact .inl (e.trans h1)
    .exact .inr ⟨y',x',(y,x)::A,C,h1,e.trans h2,by rw[h3];rfl⟩
theorem rj{L:List (Nat×Nat)}{k:Nat}:lkG (Lm L) ((k:Nat):Int)=none↔k∉ks L:=by
 rw[FX];simp only[Lm,ks,jI,bA,not_exists,not_and];constructor
 .intro h p hp e;exact h p hp (by have e':p.1=k:=e;show((p.1:Nat):Int)=_;rw[e'])
 .intro h p hp e;exact h p hp (by have e':((p.1:Nat):Int)=((k:Nat):Int):=e;omega)
section
variable {g:Go.Blk.Gr}{Bl:List Nat}{laid thr:Nat->Bool}
theorem Lv{r:Nat}{L:List (Nat×Nat)}(m:Met g Bl laid thr r L)(hB:∀i∈Bl,i<g.m){x:Nat}(hx:x∈ks L):(x=r/\lkG (Lm L) ((x:Nat):Int)=some (.int .i64 ((x:Nat):Int)))\/∃z,z≠x/\z∈ks L/\lkG (Lm L) ((x:Nat):Int)=some (.int .i64 ((z:Nat):Int))/\tr L x=tr L z++[x]:=by
 rcases KJ (L:=L) (k:=((x:Nat):Int))with h|⟨y,z,A,C,h1,h2,h3⟩
 .exact absurd hx (rj.1 h)
 have hy:x=y:=om;subst hy;by_cases hA:A=[]
 .subst hA;obtain⟨T,hT⟩:=m.root;rw[hT]at h3;simp only[aW]at h3;injection h3 with h4 _;injection h4 with h4 h5;subst h4 h5;exact .inl ⟨rfl,h2⟩
 .obtain⟨p1,p2,i,hi,hj,_⟩:=m.par A x z C h3 hA;have hne:z≠x:=by
   intro e;subst e;have:=(g.ok i (hB i hi)).2.2;rcases Go.Pla.jn_iff.1 hj with⟨a,b⟩|⟨a,b⟩<;>omega
  have nd:=m.nd;refine .inr ⟨z,hne,by rw[h3,Go.Pla.ks_app];exact bp _ p1,h2,?_⟩;have e1:L=(A++[(x,z)])++C:=by rw[h3];simp
  rw[e1]at nd |-;rw[tr_app nd (by simp[ks]),tr_last hA];rw[bD]at nd |-;rw[tr_app nd p1]
theorem CP{h:AH}{mb r y:Nat}{L:List (Nat×Nat)}(hm:qO h mb L)(m:Met g Bl laid thr r L)(hB:∀i∈Bl,i<g.m)(hy:y∈ks L)(hL:L.length<2^30):C prg 124 [.mp mb,.int .i64 (y:Nat)] h λv h'=>IsSl h' 1 h.next v (nC (tr L y))/\Ext h.next h h':=by
 refine Me pf124 ?_;have hml:=hm.lt;have x0:Ext h.next h (h.new (.cells [.int .i64 (y:Nat)] 1 false)):=Mb (ab _);have g0:(h.new (.cells [.int .i64 (y:Nat)] 1 false)).get h.next=some (.cells [.int .i64 (y:Nat)] 1 false):=by rw[AH.get_new,if_pos rfl]
 refine ae (ar (Mi0) ?_);refine ae (cr (λts h1=>h1=h.new (.cells [.int .i64 (y:Nat)] 1 false)/\bz ts 0=.mp mb/\bz ts 1=.int .i64 (y:Nat)/\bz ts 5=.sl h.next 0 1 1) (by simp only[am,aD,simprocAttr,bE]) ?_);rintro ts h1 ⟨rfl,e0,e1,e5⟩;generalize h.new (.cells [.int .i64 (y:Nat)] 1 false)=h1 at *
 refine ae (cE (fI (λn ts h2=>∃(x:Nat) (zs:List Nat) (v:AV),n=(tr L x).length/\x∈ks L/\tr L y=tr L x++zs.reverse/\IsSl h2 1 h.next v (nC (zs++[x]))/\Ext h.next h h2/\bz ts 0=.mp mb/\bz ts 1=.int .i64 (x:Nat)/\bz ts 5=v) ?_ (n:=(tr L y).length) ⟨y,[],_,rfl,hy,by simp,.inr ⟨h.next,1,ab _,rfl,g0,rfl⟩,x0,e0,e1,e5⟩));clear e0 e1 e5 g0 x0;rintro n ts h2 ⟨x,zs,v,hn,hx,ht,hv,x2,e0,e1,e5⟩;have hm2:qO h2 mb L:=hm.cong (x2.gt _ hml);have lk:=hm2.look wj (.int .i64 0) ((x:Nat):Int);have hzl:zs.length+(tr L x).length<=L.length:=by
  have h1:=congrArg List.length ht;rw[aC,List.length_reverse]at h1;have h2:=Go.Pla.tr_len L y;omega
 rcases Lv m hB hx with⟨hr,hl⟩|⟨z,hzx,hz,hl,htz⟩
 ·
  rw[hl]at lk;dsimp only[Option.getD]at lk;refine ae (ae (ar (M5 e0 e1 lk @decide_true @cz) ?_));refine dQ (Z2 @decide_true @cz) ?_;refine fh ⟨λ_=>?_,λe=>absurd rfl e⟩;have hend:tr L y=(zs++[x]).reverse:=by rw[ht,hr,tr_root m];simp
  refine ae (bM (aV 1 (M2 e0 e5) rfl (Z2 e0 e5) (M2 e0 e5) (vG hv (by rw[aC];simp;omega)) λ_ h3 hq=>?_));obtain⟨i3,x3,_,_⟩:=hq;refine bF (M0) ?_;refine ae (ar (M1 e5) ?_);exact bG ⟨v,(by simp only[rs,rf124,am,aD,simprocAttr,e5]<;>rfl),by rw[hend];exact i3,x2.trans x3⟩
 .rw[hl]at lk;dsimp only[Option.getD]at lk;have dz:decide (((z:Nat):Int)=((x:Nat):Int))=false:=by rw[aO];omega
  refine ae (ae (ar (by simp only[am,aD,simprocAttr,e0,e1,lk,dz,cj]<;>rfl) ?_));refine dg (by simp only[am,aD,simprocAttr,dz,cj]) (bK (cE ?_));refine ae (cr (λts h'=>h'=h2/\bz ts 0=.mp mb/\bz ts 1=.int .i64 (z:Nat)/\bz ts 5=v) (by simp only[am,aD,simprocAttr,e0,e1,e5,lk]) ?_);rintro ts h3 ⟨rfl,e0,e1,e5⟩;have hnl:(nC (zs++[x])).length=zs.length+1:=by rw[jj,aC];rfl
  obtain⟨v',h4,a4,i4,x4,n4⟩:=hv.push (bytes:=8) [.int .i64 (z:Nat)] x2.nx om rfl rfl (by rw[hnl,jy];unfold bd;omega) (by rw[hnl,jy];unfold bd;omega);refine cr (λts h'=>h'=h4/\bz ts 0=.mp mb/\bz ts 1=.int .i64 (z:Nat)/\bz ts 5=v') (by simp only[am,aD,simprocAttr,e0,e1,e5,a4]) ?_;rintro ts h5 ⟨rfl,e0,e1,e5⟩;refine⟨(tr L z).length,?_,z,zs++[x],v',rfl,hz,?_,?_,x2.trans x4,e0,e1,e5⟩
  .rw[hn,htz];simp
  .rw[ht,htz];simp
  .rw[vO];exact i4
end
open Go.Am
variable {h:AH}{lo:Nat}{v:AV}{xs:List Nat}
def IsQ(h:AH)(lo:Nat)(v:AV)(xs:List Nat):Prop:=SlN h v xs/\∃b o cs,v=.sl b o xs.length xs.length/\lo<=b/\h.get b=some (.cells cs 1 false)
theorem IsQ.ext{h h':AH}{lo k:Nat}{v:AV}{xs:List Nat}(q:IsQ h lo v xs)(x:Ext k h h')(hk:h.next<=k):IsQ h' lo v xs:=by
 obtain⟨h0,b,o,cs,h1,h2,h3⟩:=q;exact⟨h0.ext x hk,b,o,cs,h1,h2,by rw[x.gt _ (bS (AH.lt_of_get h3) hk)];exact h3⟩
theorem IsQ.cong{h h':AH}{lo:Nat}{v:AV}{xs:List Nat}(q:IsQ h lo v xs)(hk:∀c,lo<=c->c<h.next->h'.get c=h.get c):IsQ h' lo v xs:=by
 obtain⟨h0,b,o,cs,h1,h2,h3⟩:=q;exact⟨h0.cong λb' o' n' c' e=>by rw[h1]at e;cases e;exact hk _ h2 (AH.lt_of_get h3),b,o,cs,h1,h2,by rw[hk _ h2 (AH.lt_of_get h3)];exact h3⟩
theorem IsQ.one{b x:Nat}(hb:lo<=b)(hg:h.get b=some (.cells [.int .i64 (x:Nat)] 1 false)):IsQ h lo (.sl b 0 1 1) [x] :=
 ⟨Ma hg rfl (ab _),b,0,_,rfl,hb,hg⟩
theorem IsQ.len(q:IsQ h lo v xs):fY v=some (.int .i64 (xs.length:Nat)):=by
 obtain⟨_,b,o,cs,rfl,_⟩:=q;rfl
theorem IsQ.head{x:Nat}(q:IsQ h lo v (x::xs)):∃b o,jS 1 v (.int .i64 0)=some (.ptr b o)/\ak h b o 1=some [.int .i64 (x:Nat)]:=by
 obtain⟨b,o,h1,h2,_⟩:=q.1.at1 (i:=0) (y:=.int .i64 (x:Nat)) rfl;exact⟨b,o,h1,h2⟩
theorem IsQ.tail{x:Nat}(q:IsQ h lo v (x::xs)):∃v',slV h 1 v (some (.int .i64 1)) none none=some v'/\IsQ h lo v' xs:=by
 obtain⟨h0,b,o,cs,h1,h2,h3⟩:=q;obtain⟨v',e1,e2,_,_⟩:=h0.from (lo:=1) (by simp);refine⟨v',e1,(by
  rw[bI,bI,List.drop_one,oW]at e2;exact e2),b,if xs.length=0 then o else o+1,cs,?_,h2,h3⟩
 have hb1:bnd (.int .i64 ((1:Nat):Int)) (xs.length+1)=some 1:=iA om;subst h1;simp only[slV,h3,if_true,qW,aq,iE,bu,if_false,hb1,aF,aa]at e1;rw[<-e1];congr 1;by_cases hz:xs.length=0
 .rw[if_pos om,if_pos hz]
 .rw[if_neg om,if_neg hz,aM]
theorem IsQ.push(q:IsQ h lo v xs)(hlo:lo<=h.next)(hl:xs.length<2^34)(x:Nat) :
 ∃v' h',iJ (h.new (.cells [.int .i64 (x:Nat)] 1 false)) 1 8 v (.sl h.next 0 1 1)=some (v',h')/\IsQ h' lo v' (xs++[x])/\Ext lo h h'/\h.next<=h'.next/\(∀c,c<h.next->(∀b o n m,v=.sl b o n m->c≠b)->h'.get c=h.get c)/\∀b o n m,v'=.sl b o n m->h.next<=b:=by
 obtain⟨h0,b,o,cs,rfl,h2,h3⟩:=q;have hb:=AH.lt_of_get h3;have x0:Ext h.next h (h.new (.cells [.int .i64 (x:Nat)] 1 false)):=Mb (ab _);have g0:(h.new (.cells [.int .i64 (x:Nat)] 1 false)).get h.next=some (.cells [.int .i64 (x:Nat)] 1 false):=by rw[AH.get_new,if_pos rfl]
 have n0:(h.new (.cells [.int .i64 (x:Nat)] 1 false)).next=h.next+1:=rfl;have gb:(h.new (.cells [.int .i64 (x:Nat)] 1 false)).get b=some (.cells cs 1 false):=by rw[x0.gt _ hb];exact h3
 have s0:=(h0.ext x0 (ab _)).src;have s1:=(Ma (h:=h.new (.cells [.int .i64 (x:Nat)] 1 false)) (c:=1) g0 rfl (ab _)).src;generalize h.new (.cells [.int .i64 (x:Nat)] 1 false)=h1 at *
 have u:=Md (o:=.dead) gb;have x2:Ext (h1.put b .dead).next (h1.put b .dead) ((h1.put b .dead).new (.cells (nC xs++[.int .i64 (x:Nat)]) 1 false)):=Mb (ab _);have g2:((h1.put b .dead).new (.cells (nC xs++[.int .i64 (x:Nat)]) 1 false)).get (h1.put b .dead).next=some (.cells (nC xs++[.int .i64 (x:Nat)]) 1 false):=by rw[AH.get_new,if_pos rfl]
 have hf:((xs.map λn=>((n:Nat):Int)).map eI).flatten=nC xs:=by rw[nC,HN]
 have hsrc:ak h1 b o (xs.length*1)=some (nC xs):=by
  have:=s0.1;simp only[fq,gb,if_true,hf,ah]at this;revert this;cases ak h1 b o (xs.length*1)with
  |none=>intro h;simp at h
  |some w=>intro h;simp at h;rw[h]
 refine⟨.sl (h1.put b .dead).next 0 (xs.length+1) (xs.length+1),(h1.put b .dead).new (.cells (nC xs++[.int .i64 (x:Nat)]) 1 false),?_,⟨?_,(h1.put b .dead).next,0,_,by simp,?_,g2⟩,?_,?_⟩
 .simp only[iJ];have s1':fq h1 1 (.sl h.next 0 1 1)=some (1,[.int .i64 (x:Nat)]):=s1.1;rw[s1'];have ho:([AV.int .i64 (x:Nat)].all AV.one)=true:=rfl;simp only[ho,gb,hsrc,if_true];rw[if_neg om,if_neg om,if_pos (by unfold bd;omega),u.nx]
 .refine eP (lo:=0) (.inr ⟨_,_,dA _,rfl,?_,?_⟩)
  .rw[vO];exact g2
  .rw[jj,aC];simp
 .rw[u.nx,n0];omega
 .exact((x0.mono om).trans (u.ext h2)).trans (x2.mono (by rw[u.nx,n0];omega))
 .have:=x2.nx;rw[u.nx,n0]at this;refine⟨om,λc hc hne=>?_,λb' o' n' m' e=>?_⟩
  .rw[x2.gt c (by rw[u.nx,n0];omega),u.ne (hne b o _ _ rfl),x0.gt c hc]
  .cases e;rw[u.nx,n0];omega
end Go.Proofs.YtmibmlioidpogaaGreatDoor
namespace Go.Pla
open Go.Blk
variable {g:Gr}{Bl:List Nat}{laid thr:Nat->Bool}
theorem nd_lt{n:Nat}{l:List Nat}(nd:l.Nodup)(h:∀x∈l,x<n):l.length<=n:=by
 have h1:((List.range n).filter λe=>decide (e∈l)).Perm l:=(jA (List.nodup_range.filter _) nd).2 λe=>by
  simp only[bq,aI,bm];exact⟨λh=>h.2,λq=>⟨h e q,q⟩⟩
 have h2:=h1.length_eq;have h3:=dP (λe=>decide (e∈l)) (List.range n);rw[cN]at h3;omega
theorem Cq{x:Nat}{s:LQ}{i:Nat}:∃C,(stepE g laid thr x s i).1=s.1++C:=by
 unfold stepE;split
 .exact⟨_,rfl⟩
 .exact⟨[],by simp⟩
theorem fold_pre{x:Nat}:∀(is:List Nat) (s:LQ),∃C,(is.foldl (stepE g laid thr x) s).1=s.1++C
 |[],s=>⟨[],by simp⟩
 |i::is,s=>by
   obtain⟨C,h1⟩:=fold_pre is (stepE g laid thr x s i);obtain⟨D,h2⟩:=Cq (g:=g) (laid:=laid) (thr:=thr) (x:=x) (s:=s) (i:=i);exact⟨D++C,by rw[fV,h1,h2,bD]⟩
theorem full_pre:∀(f:Nat) (s:LQ),∃C,full g Bl laid thr f s=s.1++C
 |0,s=>⟨[],by simp[full]⟩
 |f+1,(L,[])=>⟨[],by simp[full]⟩
 |f+1,(L,x::Q)=>by
   obtain⟨C,h1⟩:=full_pre f (Bl.foldl (stepE g laid thr x) (L,Q));obtain⟨D,h2⟩:=fold_pre (g:=g) (laid:=laid) (thr:=thr) (x:=x) Bl (L,Q);exact⟨D++C,by
    show full g Bl laid thr f (Bl.foldl (stepE g laid thr x) (L,Q))=_;rw[h1,h2,bD]⟩
theorem Met.lt{r:Nat}{L:List (Nat×Nat)}(m:Met g Bl laid thr r L)(hB:∀i∈Bl,i<g.m)(hr:r<g.n):∀z∈ks L,z<g.n:=by
 intro z hz;obtain⟨p,hp,rfl⟩:=bA.1 hz;obtain⟨A,C,rfl⟩:=bZ hp;by_cases hA:A=[]
 .subst hA;obtain⟨T,hT⟩:=m.root;rw[aW]at hT;injection hT with h _;rw[h];exact hr
 .obtain⟨_,_,i,hi,hj,_⟩:=m.par A p.1 p.2 C rfl hA;have:=g.ok i (hB i hi);rcases jn_iff.1 hj with⟨a,b⟩|⟨a,b⟩<;>omega
def todo(n:Nat)(s:LQ):Nat:=n-(ks s.1).length+s.2.length
theorem todo_step{r x i:Nat}{is:List Nat}{s:LQ}(h:Srch g Bl laid thr r s (some (x,i::is)))(hB:∀i∈Bl,i<g.m)(hr:r<g.n)(hi:i∈Bl):todo g.n (stepE g laid thr x s i)<=todo g.n s:=by
 have h2:=h.step hB hi;have hl:=nd_lt h2.met.nd (h2.met.lt hB hr);revert hl;unfold stepE todo;split
 .intro hl;have e1:(ks (s.1++[(g.oth i x,x)])).length=(ks s.1).length+1:=by simp[ks]
  dsimp only at hl |-;rw[e1]at hl |-;split
  .simp;omega
  .omega
 .intro _;exact ab _
theorem Srch.fold{r x:Nat}(hB:∀i∈Bl,i<g.m)(hr:r<g.n):∀{is:List Nat}{s:LQ},(∀i∈is,i∈Bl)->Srch g Bl laid thr r s (some (x,is))->Srch g Bl laid thr r (is.foldl (stepE g laid thr x) s) none/\todo g.n (is.foldl (stepE g laid thr x) s)<=todo g.n s
 |[],s,_,h=>⟨h.end,ab _⟩
 |i::is,s,hi,h=>by
   have h1:=h.step hB (hi i (by simp));have h2:=todo_step h hB hr (hi i (by simp));obtain⟨h3,h4⟩:=Srch.fold hB hr (λj hj=>hi j (by simp[hj])) h1;exact⟨h3,cw h4 h2⟩
theorem full_srch{r:Nat}(hB:∀i∈Bl,i<g.m)(hr:r<g.n):∀(f:Nat) {s:LQ},Srch g Bl laid thr r s none->todo g.n s<=f->Srch g Bl laid thr r (full g Bl laid thr f s,[]) none
 |0,(L,[]),h,_=>h
 |0,(L,x::Q),_,ht=>by simp[todo]at ht
 |f+1,(L,[]),h,_=>h
 |f+1,(L,x::Q),h,ht=>by
   obtain⟨h1,h2⟩:=h.pop.fold hB hr (λ_ h=>h);exact full_srch hB hr f h1 (by simp only[todo,aq]at ht h2 |-;omega)
theorem tail_app{A C:List (Nat×Nat)}(h:A≠[]):ks (A++C).tail=ks A.tail++ks C:=by
 cases A with
 |nil=>exact absurd rfl h
 |cons a A=>simp[ks]
def Hit(F:List (Nat×Nat))(fin:Nat->Bool)(o:Option Nat):Prop :=
 match o with
 |some y=>∃A x C,F=A++(y,x)::C/\A≠[]/\(∀z∈ks A.tail,fin z=false)/\fin y=true
 |none=>∀z∈ks F.tail,fin z=false
end Go.Pla
namespace Go.Blk
variable {g:Gr}
def Nw(s s':DS)(v:Nat):Prop:=s.num v=0/\s'.num v≠0
structure Pre(g:Gr)(an:List Nat)(x:Nat)(by_:Option Nat)(s:DS):Prop where
 hx:x<g.n
 x0:s.num x=0
 gray:∀a∈an,s.num a≠0
 black:∀v,s.num v≠0->v∉an->∀i,g.inc i v->s.num (g.oth i v)≠0
 le:∀v,s.num v<=s.cnt
 inj:∀u v,s.num u=s.num v->s.num u≠0->u=v
 chain:∀z,z∉an->∀a∈an,∀b∈an,Conn g (·≠z) a b
 by1:∀b,by_=some b->g.inc b x/\g.oth b x∈an
 by0:by_=none->an=[]
 stk:∀j∈s.stk,some j≠by_->∀v,g.inc j v->s.num v≠0
structure Com(g:Gr)(x:Nat)(by_:Option Nat)(s s':DS)(new:List Nat)(bs:List (List Nat)):Prop where
 keep:∀v,s.num v≠0->s'.num v=s.num v
 numx:s'.num x=s.cnt+1
 newn:∀v,Nw s s' v->s.cnt<s'.num v
 cnt:s.cnt<s'.cnt
 le:∀v,s'.num v<=s'.cnt
 inj:∀u v,s'.num u=s'.num v->s'.num u≠0->u=v
 conn:∀u,Nw s s' u->Conn g (Nw s s') x u
 lowk:∀v,¬Nw s s' v->s'.low v=s.low v
 lowle:s'.low x<=s'.num x
 lowpos:0<s'.low x
 stk:s'.stk=s.stk++new
 blk:s'.blk=s.blk++bs
 nd:(new++bs.flatten).Nodup
 cls:∀i∈new,∃b,by_=some b/\Cls g i b
 blks:∀b∈bs,IsBlock g b
structure Post(g:Gr)(x:Nat)(by_:Option Nat)(s s':DS)(new:List Nat)(bs:List (List Nat)):Prop extends Com g x by_ s s' new bs where
 black:∀u,Nw s s' u->∀i,g.inc i u->s'.num (g.oth i u)≠0
 lowa:∀u i,Nw s s' u->g.inc i u->some i≠by_->¬Nw s s' (g.oth i u)->s'.low x<=s'.num (g.oth i u)
 lowb:s'.low x=s'.num x\/∃u i,Nw s s' u/\g.inc i u/\some i≠by_/\¬Nw s s' (g.oth i u)/\s'.num (g.oth i u)=s'.low x
 part:∀i,(i∈new\/∃b∈bs,i∈b)↔some i≠by_/\∃u,Nw s s' u/\g.inc i u
structure Mid(g:Gr)(x:Nat)(by_:Option Nat)(s:DS)(L:List Nat)(s':DS)(new:List Nat)(bs:List (List Nat)):Prop extends Com g x by_ s s' new bs where
 blackT:∀u,Nw s s' u->u≠x->∀i,g.inc i u->s'.num (g.oth i u)≠0
 blackx:∀i∈L,s'.num (g.oth i x)≠0
 lowa:∀u i,Nw s s' u->g.inc i u->(u≠x\/i∈L)->some i≠by_->¬Nw s s' (g.oth i u)->s'.low x<=s'.num (g.oth i u)
 lowb:s'.low x=s'.num x\/∃u i,Nw s s' u/\g.inc i u/\some i≠by_/\¬Nw s s' (g.oth i u)/\s'.num (g.oth i u)=s'.low x
 part:∀i,(i∈new\/∃b∈bs,i∈b)↔some i≠by_/\((∃u,Nw s s' u/\u≠x/\g.inc i u)\/(g.inc i x/\i∈L))
def Good(g:Gr)(vis:Nat->Option Nat->DS->DS)(f:Nat):Prop :=
 ∀an x by_ s,Pre g an x by_ s->unm g s<=f->∃new bs,Post g x by_ s (vis x by_ s) new bs
theorem Com.nx{x:Nat}{by_:Option Nat}{s s':DS}{new:List Nat}{bs:List (List Nat)}(c:Com g x by_ s s' new bs)(h0:s.num x=0):Nw s s' x:=⟨h0,by rw[c.numx];omega⟩
theorem Com.met{x:Nat}{by_:Option Nat}{s s':DS}{new:List Nat}{bs:List (List Nat)}(c:Com g x by_ s s' new bs){v:Nat}(h:s.num v≠0):s'.num v≠0:=by rw[c.keep v h];exact h
theorem Com.old{x:Nat}{by_:Option Nat}{s s':DS}{new:List Nat}{bs:List (List Nat)}(c:Com g x by_ s s' new bs){v:Nat}(h1:s'.num v≠0)(h2:¬Nw s s' v):s.num v≠0:=λh=>h2 ⟨h,h1⟩
theorem mid0{an:List Nat}{x:Nat}{by_:Option Nat}{s:DS}(p:Pre g an x by_ s):Mid g x by_ s [] (enter x s) [] []:=by
 have hnw:∀v,Nw s (enter x s) v↔v=x:=λv=>by
  unfold Nw enter;simp only;constructor
  .rintro⟨h1,h2⟩;exact Decidable.byContradiction λhc=>h2 (by rw[upd_ne hc];exact h1)
  .rintro rfl;exact⟨p.x0,by rw[upd_same];omega⟩
 have keep:∀v,v≠x->(enter x s).num v=s.num v:=λv hv=>upd_ne hv;have nx:(enter x s).num x=s.cnt+1:=upd_same;refine { keep:=λv hv=>keep v λe=>hv (e▸p.x0),numx:=nx,newn:=λv hv=>?_,cnt:=HL _,le:=λv=>?_,inj:=λu v h1 h2=>?_,conn:=λu hu=>?_,lowk:=λv hv=>?_,lowle:=?_,lowpos:=?_,stk:=(bW _).symm,blk:=(bW _).symm,nd:=(by simp),cls:=λi hi=>(by cases hi),blks:=λb hb=>(by cases hb),blackT:=λu hu hne=>absurd ((hnw u).1 hu) hne,blackx:=λi hi=>(by cases hi),lowa:=λu i hu _ h=>?_,lowb:=.inl ?_,part:=λi=>?_}
 .rw[(hnw v).1 hv,nx];omega
 .by_cases e:v=x
  .subst e;rw[nx];exact ab _
  .rw[keep v e];exact lB (p.le v)
 .by_cases e:u=x
  .subst e;by_cases e2:v=u
   .exact e2.symm
   .rw[nx,keep v e2]at h1;have:=p.le v;omega
  .by_cases e2:v=x
   .subst e2;rw[nx,keep u e]at h1;have:=p.le u;omega
   .rw[keep u e,keep v e2]at h1;rw[keep u e]at h2;exact p.inj u v h1 h2
 .rw[(hnw u).1 hu];exact .refl ((hnw x).2 rfl)
 .exact upd_ne λe=>hv ((hnw v).2 e)
 .show upd s.low x (s.cnt+1) x<=upd s.num x (s.cnt+1) x;rw[upd_same,upd_same];exact ab _
 .show 0<upd s.low x (s.cnt+1) x;rw[upd_same];omega
 .rcases h with h|h
  .exact absurd ((hnw u).1 hu) h
  .cases h
 .show upd s.low x (s.cnt+1) x=upd s.num x (s.cnt+1) x;rw[upd_same,upd_same]
 .constructor
  .rintro (h|⟨b,h,_⟩)<;>cases h
  .rintro⟨_,⟨u,h1,h2,_⟩|⟨_,h⟩⟩
   .exact absurd ((hnw u).1 h1) h2
   .cases h
theorem Mid.post{x:Nat}{by_:Option Nat}{s s':DS}{L new:List Nat}{bs:List (List Nat)}(m:Mid g x by_ s L s' new bs)(h0:s.num x=0)(hL:∀i,i∈L↔g.inc i x):Post g x by_ s s' new bs:=by
 refine { toCom:=m.toCom,black:=λu hu i hi=>?_,lowa:=λu i hu hi=>?_,lowb:=m.lowb,part:=λi=>?_}
 .by_cases e:u=x
  .subst e;exact m.blackx i ((hL i).2 hi)
  .exact m.blackT u hu e i hi
 .refine m.lowa u i hu hi ?_;by_cases e:u=x
  .subst e;exact .inr ((hL i).2 hi)
  .exact .inl e
 .rw[m.part i];constructor
  .rintro⟨h1,⟨u,a,_,b⟩|⟨a,_⟩⟩
   .exact⟨h1,u,a,b⟩
   .exact⟨h1,x,m.toCom.nx h0,a⟩
  .rintro⟨h1,u,a,b⟩;by_cases e:u=x
   .subst e;exact⟨h1,.inr ⟨b,(hL i).2 b⟩⟩
   .exact⟨h1,.inl ⟨u,a,e,b⟩⟩
theorem pg{x:Nat}{by_:Option Nat}{s s':DS}{L new:List Nat}{bs:List (List Nat)}{i:Nat}(m:Mid g x by_ s L s' new bs)(hi:g.inc i x)(hv:s'.num (g.oth i x)≠0)(hc:by_=some i\/(Nw s s' (g.oth i x))):Mid g x by_ s (L++[i]) s' new bs:=by
 refine { toCom:=m.toCom,blackT:=m.blackT,blackx:=λk hk=>?_,lowa:=λu k hu hk h hb hn=>?_,lowb:=m.lowb,part:=λk=>?_}
 .rcases aw.1 hk with hk|hk
  .exact m.blackx k hk
  .simp only[au,aR,or_false]at hk;subst hk;exact hv
 .by_cases e:u=x
  .subst e;by_cases hkL:k∈L
   .exact m.lowa u k hu hk (.inr hkL) hb hn
   .rcases h with h|h
    .exact absurd rfl h
    .rcases aw.1 h with h|h
     .exact absurd h hkL
     .simp only[au,aR,or_false]at h;subst h;rcases hc with hc|hc
      .exact absurd hc.symm hb
      .exact absurd hc hn
  .exact m.lowa u k hu hk (.inl e) hb hn
 .rw[m.part k];constructor
  .rintro⟨h1,h|⟨a,b⟩⟩
   .exact⟨h1,.inl h⟩
   .exact⟨h1,.inr ⟨a,bp _ b⟩⟩
  .rintro⟨h1,h|⟨a,b⟩⟩
   .exact⟨h1,.inl h⟩
   .rcases aw.1 b with b|b
    .exact⟨h1,.inr ⟨a,b⟩⟩
    .simp only[au,aR,or_false]at b;subst b;rcases hc with hc|hc
     .exact absurd hc.symm h1
     .exact⟨h1,.inl ⟨_,hc,(inc_oth hi).2.1,(inc_oth hi).1⟩⟩
theorem yq{an:List Nat}{x:Nat}{by_:Option Nat}{s s':DS}{L new:List Nat}{bs:List (List Nat)}{i:Nat}(p:Pre g an x by_ s)(m:Mid g x by_ s L s' new bs)(hi:g.inc i x)(hiL:i∉L)(hb:by_≠some i)(hv:s'.num (g.oth i x)≠0)(hlt:s'.num (g.oth i x)<s'.num x) :
 Mid g x by_ s (L++[i]) { s' with stk:=s'.stk++[i],low:=upd s'.low x (min (s'.low x) (s'.num (g.oth i x)))} (new++[i]) bs:=by
 obtain⟨oi,one,oo⟩:=inc_oth hi;have hnw:¬Nw s s' (g.oth i x):=λh=>by
  have:=m.newn _ h;rw[m.numx]at hlt;omega
 have hold:=m.toCom.old hv hnw;have han:g.oth i x∈an:=Decidable.byContradiction λhc=>by
  have:=p.black _ hold hc i oi;rw[oo]at this;exact this p.x0
 obtain⟨b,rfl⟩:∃b,by_=some b:=by
  cases by_ with
  |none=>rw[p.by0 rfl]at han;cases han
  |some b=>exact⟨b,rfl⟩
 obtain⟨b1,b2⟩:=p.by1 b rfl;have hxan:x∉an:=λh=>p.gray x h p.x0;have hrel:Rel g i b:=⟨x,hi,b1,p.chain x hxan _ han _ b2⟩
 have hni:i∉new/\∀b∈bs,i∉b:=by
  have:=m.part i;have hno:¬(some i≠some b/\((∃u,Nw s s' u/\u≠x/\g.inc i u)\/(g.inc i x/\i∈L))):=by
   rintro⟨_,⟨u,a,c,d⟩|⟨_,d⟩⟩
   .have:=fP hi d c;subst this;exact hnw a
   .exact hiL d
  rw[<-this]at hno;exact⟨λh=>hno (.inl h),λb hb h=>hno (.inr ⟨b,hb,h⟩)⟩
 have hlow:∀v,v≠x->(upd s'.low x (min (s'.low x) (s'.num (g.oth i x)))) v=s'.low v:=λv hv=>upd_ne hv;have hlx:(upd s'.low x (min (s'.low x) (s'.num (g.oth i x)))) x=min (s'.low x) (s'.num (g.oth i x)):=upd_same;have hxT:Nw s s' x:=m.toCom.nx p.x0;refine { keep:=m.keep,numx:=m.numx,newn:=m.newn,cnt:=m.cnt,le:=m.le,inj:=m.inj,conn:=m.conn,lowk:=λv hv=>?_,lowle:=?_,lowpos:=?_,stk:=?_,blk:=m.blk,nd:=?_,cls:=λk hk=>?_,blks:=m.blks,blackT:=m.blackT,blackx:=λk hk=>?_,lowa:=λu k hu hk h hkb hn=>?_,lowb:=?_,part:=λk=>?_}
 .exact(hlow v λe=>hv (e▸hxT)).trans (m.lowk v hv)
 .have:=m.lowle;simp only;rw[hlx];omega
 .have:=m.lowpos;simp only;rw[hlx];omega
 .simp only;rw[m.stk,bD]
 .have h:=m.nd;rw[bD,aJ]at *
  refine⟨h.1,?_,?_⟩
  .rw[aB,aW,aS,fJ];exact⟨λ⟨b,q1,q2⟩=>hni.2 b q1 q2,h.2.1⟩
  .intro a ha c hc;rw[aB,aW]at hc;rcases au.1 hc with rfl|hc
   .exact λe=>hni.1 (e▸ha)
   .exact h.2.2 a ha c hc
 .rcases aw.1 hk with hk|hk
  .exact m.cls k hk
  .simp only[au,aR,or_false]at hk;subst hk;exact⟨b,rfl,.one hrel⟩
 .rcases aw.1 hk with hk|hk
  .exact m.blackx k hk
  .simp only[au,aR,or_false]at hk;subst hk;exact hv
 .simp only;rw[hlx];by_cases hq:u≠x\/k∈L
  .have:=m.lowa u k hu hk hq hkb hn;exact cw (Nat.min_le_left _ _) this
  .have e:u=x:=Decidable.byContradiction λc=>hq (.inl c);subst e;rcases h with h|h
   .exact absurd rfl h
   .rcases aw.1 h with h|h
    .exact absurd (.inr h) hq
    .simp only[au,aR,or_false]at h;subst h;exact Nat.min_le_right _ _
 .simp only;rw[hlx];by_cases hq:s'.low x<=s'.num (g.oth i x)
  .rw[dZ hq];exact m.lowb
  .rw[Nat.min_eq_right om];exact .inr ⟨x,i,hxT,hi,hb.symm,hnw,rfl⟩
 .have:=m.part k;constructor
  .rintro (h|h)
   .rcases aw.1 h with h|h
    .obtain⟨h1,h2⟩:=this.1 (.inl h);exact⟨h1,h2.imp id λq=>⟨q.1,bp _ q.2⟩⟩
    .simp only[au,aR,or_false]at h;subst h;exact⟨hb.symm,.inr ⟨hi,by simp⟩⟩
   .obtain⟨h1,h2⟩:=this.1 (.inr h);exact⟨h1,h2.imp id λq=>⟨q.1,bp _ q.2⟩⟩
  .rintro⟨h1,h2⟩;rcases h2 with h2|⟨h2,h3⟩
   .exact(this.2 ⟨h1,.inl h2⟩).imp (bp _) id
   .rcases aw.1 h3 with h3|h3
    .exact(this.2 ⟨h1,.inr ⟨h2,h3⟩⟩).imp (bp _) id
    .simp only[au,aR,or_false]at h3;subst h3;exact .inl (by simp)
variable {g:Gr}
section
variable {an:List Nat}{x:Nat}{by_:Option Nat}{s s1:DS}{L new:List Nat}{bs:List (List Nat)}{i:Nat}
theorem sub_pre(p:Pre g an x by_ s)(m:Mid g x by_ s L s1 new bs)(hi:g.inc i x)(hy:s1.num (g.oth i x)=0):Pre g (x::an) (g.oth i x) (some i) { s1 with stk:=s1.stk++[i]}:=by
 obtain⟨oi,one,oo⟩:=inc_oth hi;have hxv:s1.num x≠0:=by rw[m.numx];omega
 have hpar:∀b,by_=some b->∀v,g.inc b v->s1.num v≠0:=λb hb v hv=>by
  obtain⟨b1,b2⟩:=p.by1 b hb;by_cases e:v=x
  .rw[e];exact hxv
  .rw[fP b1 hv e];exact m.toCom.met (p.gray _ b2)
 refine⟨inc_lt oi,hy,λa ha=>?_,λv hv hn k hk=>?_,m.le,m.inj,λz hz a ha b hb=>?_,λb hb=>?_,λh=>(by cases h),λj hj hne v hv=>?_⟩
 .rcases au.1 ha with rfl|ha
  .exact hxv
  .exact m.toCom.met (p.gray a ha)
 .simp only[au,not_or]at hn;by_cases ho:s.num v=0
  .exact m.blackT v ⟨ho,hv⟩ hn.1 k hk
  .exact m.toCom.met (p.black v ho hn.2 k hk)
 .simp only[au,not_or]at hz;have key:∀a∈an,Conn g (·≠z) x a:=λa ha=>by
   cases hb:by_ with
   |none=>rw[p.by0 hb]at ha;exact absurd ha (by simp)
   |some b =>
     obtain⟨b1,b2⟩:=p.by1 b hb;have:Conn g (·≠z) x (g.oth b x):=Conn.edge (λe=>hz.1 e.symm) b1 (λe=>hz.2 (e▸b2));exact this.trans (p.chain z hz.2 _ b2 _ ha)
  rcases au.1 ha with ea|ha
  .rw[ea];rcases au.1 hb with eb|hb
   .rw[eb];exact .refl λe=>hz.1 e.symm
   .exact key b hb
  .rcases au.1 hb with eb|hb
   .rw[eb];exact(key a ha).symm
   .exact p.chain z hz.2 a ha b hb
 .cases hb;rw[oo];exact⟨oi,bt ..⟩
 .simp only[m.stk]at hj;rcases aw.1 hj with hj|hj
  .rcases aw.1 hj with hj|hj
   .by_cases q:some j=by_
    .exact hpar j q.symm v hv
    .exact m.toCom.met (p.stk j hj q v hv)
   .obtain⟨_,⟨u,a,b,c⟩|⟨b,c⟩⟩:=(m.part j).1 (.inl hj)
    .by_cases e:v=u
     .rw[e];exact a.2
     .rw[fP c hv e];exact m.blackT u a b j c
    .by_cases e:v=x
     .rw[e];exact hxv
     .rw[fP b hv e];exact m.blackx j c
  .simp only[au,aR,or_false]at hj;exact absurd (by rw[hj]) hne
theorem JJ{l r:List Nat}{i:Nat}(h:i∉l):(l++i::r).idxOf i=l.length:=by
 rw[Eh,if_neg h];simp
theorem yp{sort:List Nat->List Nat}(hsort:∀l,(sort l).Perm l)(p:Pre g an x by_ s)(m:Mid g x by_ s L s1 new bs)(hi:g.inc i x)(hiL:i∉L)(hb:by_≠some i)(hy:s1.num (g.oth i x)=0)
 {s2:DS}{new2:List Nat}{bs2:List (List Nat)} (c2:Post g (g.oth i x) (some i) { s1 with stk:=s1.stk++[i]} s2 new2 bs2) {s3:DS} (h3:s3={ s2 with low:=upd s2.low x (min (s2.low x) (s2.low (g.oth i x)))}) :
 ∃new' bs',Mid g x by_ s (L++[i]) (if s3.num x<=s3.low (g.oth i x)then s3.close sort i else s3) new' bs':=by
 obtain⟨oi,one,oo⟩:=inc_oth hi;have hxv:s1.num x≠0:=by rw[m.numx];omega
 have ps:=sub_pre p m hi hy;have hT2:∀v,Nw { s1 with stk:=s1.stk++[i]} s2 v↔s1.num v=0/\s2.num v≠0:=λv=>Iff.rfl;generalize hy':g.oth i x=y at *
 have keep2:∀v,s1.num v≠0->s2.num v=s1.num v:=c2.keep;have hT:∀v,Nw s s2 v↔Nw s s1 v\/(s1.num v=0/\s2.num v≠0):=λv=>by
  unfold Nw;constructor
  .rintro⟨h1,h2⟩;by_cases e:s1.num v=0
   .exact .inr ⟨e,h2⟩
   .exact .inl ⟨h1,e⟩
  .rintro (⟨h1,h2⟩|⟨h1,h2⟩)
   .exact⟨h1,by rw[keep2 v h2];exact h2⟩
   .refine⟨Decidable.byContradiction λhc=>?_,h2⟩;exact m.toCom.met hc h1
 have hxT:Nw s s1 x:=m.toCom.nx p.x0;have hnx2:s2.num x=s.cnt+1:=by rw[keep2 x hxv];exact m.numx
 have hlx2:s2.low x=s1.low x:=c2.lowk x λh=>hxv h.1;have hy2:s2.num y≠0:=by rw[c2.numx];simp
 have hny:s2.num x<s2.num y:=by
  have h1:=c2.numx;have h2:=m.le x;simp only at h1;rw[h1,keep2 x hxv];omega
 have hbT:∀k u,g.inc k u->s1.num u=0->some k≠by_:=λk u hk hu e=>by
  obtain⟨b1,b2⟩:=p.by1 k e.symm;by_cases q:u=x
  .rw[q]at hu;exact hxv hu
  .rw[fP b1 hk q]at hu;exact m.toCom.met (p.gray _ b2) hu
 have hA:∀k,(k∈new\/∃b∈bs,k∈b)->∀v,g.inc k v->s1.num v≠0:=λk hk v hv=>by
  obtain⟨_,⟨u,a,b,c⟩|⟨b,c⟩⟩:=(m.part k).1 hk
  .by_cases e:v=u
   .rw[e];exact a.2
   .rw[fP c hv e];exact m.blackT u a b k c
  .by_cases e:v=x
   .rw[e];exact hxv
   .rw[fP b hv e];exact m.blackx k c
 have hB:∀k,(k∈new2\/∃b∈bs2,k∈b)↔k≠i/\∃u,(s1.num u=0/\s2.num u≠0)/\g.inc k u:=λk=>by
  rw[c2.part k];constructor
  .rintro⟨h1,h2⟩;exact⟨λe=>h1 (by rw[e]),h2⟩
  .rintro⟨h1,h2⟩;exact⟨λe=>h1 (Option.some.inj e),h2⟩
 have hiA:¬(i∈new\/∃b∈bs,i∈b):=λh=>hA i h y oi hy;have hiB:¬(i∈new2\/∃b∈bs2,i∈b):=λh=>((hB i).1 h).1 rfl;have hdis:∀k,(k∈new\/∃b∈bs,k∈b)->¬(k∈new2\/∃b∈bs2,k∈b):=λk h1 h2=>by
  obtain⟨_,u,a,b⟩:=(hB k).1 h2;exact hA k h1 u b a.1
 have hgray:∀u k,(s1.num u=0/\s2.num u≠0)->g.inc k u->¬(s1.num (g.oth k u)=0/\s2.num (g.oth k u)≠0)->g.oth k u∈x::an:=λu k hu hk hn=>by
  have h1:=c2.black u hu k hk;have h2:s1.num (g.oth k u)≠0:=λe=>hn ⟨e,h1⟩;refine Decidable.byContradiction λhc=>?_;have:=ps.black _ h2 hc k (inc_oth hk).1;rw[(inc_oth hk).2.2]at this;exact this hu.1
 have hnd:(new++bs.flatten++(i::(new2++bs2.flatten))).Nodup:=by
  rw[aJ];refine⟨m.nd,?_,?_⟩
  .rw[aS];refine⟨λh=>hiB ?_,c2.nd⟩;rw[aw,fJ]at h;exact h
  .intro a ha c hc;rw[aw,fJ]at ha;rcases au.1 hc with rfl|hc
   .exact λe=>hiA (e▸ha)
   .rw[aw,fJ]at hc;exact λe=>hdis a ha (e▸hc)
 have hl3:∀v,v≠x->s3.low v=s2.low v:=λv hv=>by rw[h3];exact upd_ne hv
 have hl3x:s3.low x=min (s1.low x) (s2.low y):=by rw[h3];show upd s2.low x _ x=_;rw[upd_same,hlx2]
 have hn3:s3.num=s2.num:=by rw[h3]
 have hc3:s3.cnt=s2.cnt:=by rw[h3]
 have hs3:s3.stk=s.stk++new++i::new2:=by
  rw[h3];have:=c2.stk;simp only at this |-;rw[this,m.stk];simp
 have hb3:s3.blk=s.blk++(bs++bs2):=by
  rw[h3];have:=c2.blk;simp only at this |-;rw[this,m.blk];simp
 have hTm:∀v,Nw s s3 v↔Nw s s1 v\/(s1.num v=0/\s2.num v≠0):=λv=>by rw[<-hT v];unfold Nw;rw[hn3]
 have hconnT:∀u,(s1.num u=0/\s2.num u≠0)->Conn g (λv=>s1.num v=0/\s2.num v≠0) y u:=c2.conn;clear h3
 have com:∀(s':DS) (nw:List Nat) (bb:List (List Nat)),s'.num=s3.num->s'.low=s3.low->s'.cnt=s3.cnt->s'.stk=s.stk++nw->s'.blk=s.blk++bb->(nw++bb.flatten).Nodup->(∀k∈nw,∃b,by_=some b/\Cls g k b)->(∀b∈bb,IsBlock g b) ->
  (∀k,(k∈nw\/∃b∈bb,k∈b)↔(k∈new\/∃b∈bs,k∈b)\/k=i\/(k∈new2\/∃b∈bs2,k∈b))->Mid g x by_ s (L++[i]) s' nw bb:=by
  intro s' nw bb q1 q2 q3 q4 q5 q6 q7 q8 q9;have hT':∀v,Nw s s' v↔Nw s s1 v\/(s1.num v=0/\s2.num v≠0):=λv=>by rw[<-hTm v];unfold Nw;rw[q1]
  have qn:s'.num=s2.num:=q1.trans hn3;have hkeep:∀v,s.num v≠0->s'.num v=s.num v:=λv hv=>by rw[qn,keep2 v (m.toCom.met hv)];exact m.keep v hv
  refine { keep:=hkeep,numx:=by rw[qn];exact hnx2,newn:=λv hv=>?_,cnt:=?_,le:=λv=>by rw[qn,q3,hc3];exact c2.le v,inj:=λu v=>by rw[qn];exact c2.inj u v,conn:=λu hu=>?_,lowk:=λv hv=>?_,lowle:=?_,lowpos:=?_,stk:=q4,blk:=q5,nd:=q6,cls:=q7,blks:=q8,blackT:=λu hu hne k hk=>?_,blackx:=λk hk=>?_,lowa:=λu k hu hk h hkb hn=>?_,lowb:=?_,part:=λk=>?_}
  .rw[qn];rcases(hT' v).1 hv with h|h
   .rw[keep2 v h.2];exact m.newn v h
   .have:=c2.newn v h;have:=m.cnt;simp only at *
    omega
  .have:=m.cnt;have:=c2.cnt;simp only at *
   omega
  .rcases(hT' u).1 hu with h|h
   .exact(m.conn u h).mono λz hz=>(hT' z).2 (.inl hz)
   .have h1:Conn g (Nw s s') x (g.oth i x):=Conn.edge ((hT' x).2 (.inl hxT)) hi (by rw[hy'];exact(hT' y).2 (.inr ⟨hy,hy2⟩));rw[hy']at h1;exact h1.trans ((hconnT u h).mono λz hz=>(hT' z).2 (.inr hz))
  .have h1:v≠x:=λe=>hv ((hT' v).2 (.inl (e▸hxT)));have h2:=c2.lowk v λe=>hv ((hT' v).2 (.inr e));simp only at h2;rw[q2,hl3 v h1,h2];exact m.lowk v λe=>hv ((hT' v).2 (.inl e))
  .have:=m.lowle;have:=m.numx;rw[q2,hl3x,qn,hnx2];omega
  .have:=m.lowpos;have:=c2.lowpos;rw[q2,hl3x];omega
  .rw[qn];rcases(hT' u).1 hu with h|h
   .have:=m.blackT u h hne k hk;rw[keep2 _ this];exact this
   .exact c2.black u h k hk
  .rw[qn];rcases aw.1 hk with hk|hk
   .have:=m.blackx k hk;rw[keep2 _ this];exact this
   .simp only[au,aR,or_false]at hk;rw[hk,hy'];exact hy2
  .rw[q2,hl3x,qn];rcases(hT' u).1 hu with hu1|hu2
   .have hq:u≠x\/k∈L:=by
     by_cases e:u=x
     .rcases h with h|h
      .exact .inl h
      .rcases aw.1 h with h|h
       .exact .inr h
       .simp only[au,aR,or_false]at h;rw[e,h,hy']at hn;exact absurd ((hT' y).2 (.inr ⟨hy,hy2⟩)) hn
     .exact .inl e
    have hv:s1.num (g.oth k u)≠0:=by
     by_cases e:u=x
     .rcases hq with hq|hq
      .exact absurd e hq
      .rw[e];exact m.blackx k hq
     .exact m.blackT u hu1 e k hk
    have:=m.lowa u k hu1 hk hq hkb λe=>hn ((hT' _).2 (.inl e));rw[keep2 _ hv];omega
   .by_cases e:k=i
    .have hux:u≠x:=λe=>hxv (e▸hu2.1);have:u=y:=by rw[<-hy'];exact fP hi (e▸hk) hux
     rw[e,this,oo]at hn;exact absurd ((hT' x).2 (.inl hxT)) hn
    .have:=c2.lowa u k hu2 hk (λq=>e (Option.some.inj q)) λq=>hn ((hT' _).2 (.inr q));omega
  .rw[q2,hl3x,qn];by_cases hq:s1.low x<=s2.low y
   .rw[dZ hq];rcases m.lowb with h|⟨u,k,a,b,c,d,e⟩
    .exact .inl (by rw[h,m.numx,hnx2])
    .have hv:s1.num (g.oth k u)≠0:=by have:=m.lowpos;omega
     refine .inr ⟨u,k,(hT' u).2 (.inl a),b,c,λq=>?_,by rw[keep2 _ hv];exact e⟩;rcases(hT' _).1 q with q|q
     .exact d q
     .exact hv q.1
   .rw[Nat.min_eq_right om];have h1:=m.lowle;have h2:=m.numx;rcases c2.lowb with h|⟨u,k,a,b,c,d,e⟩
    .omega
    .have hg:=hgray u k a b d;have hwx:g.oth k u≠x:=λq=>by rw[q,hnx2]at e;omega
     have han:g.oth k u∈an:=by
      rcases au.1 hg with q|q
      .exact absurd q hwx
      .exact q
     refine .inr ⟨u,k,(hT' u).2 (.inr a),b,hbT k u b a.1,λq=>?_,e⟩;exact p.gray _ han q.1
  .rw[q9 k];constructor
   .rintro (h|h|h)
    .obtain⟨h1,h2⟩:=(m.part k).1 h;exact⟨h1,h2.imp (λ⟨u,a,b,c⟩=>⟨u,(hT' u).2 (.inl a),b,c⟩) λq=>⟨q.1,bp _ q.2⟩⟩
    .subst h;exact⟨hb.symm,.inr ⟨hi,by simp⟩⟩
    .obtain⟨h1,u,a,c⟩:=(hB k).1 h;exact⟨hbT k u c a.1,.inl ⟨u,(hT' u).2 (.inr a),λe=>hxv (e▸a.1),c⟩⟩
   .rintro⟨h1,⟨u,a,b,c⟩|⟨b,c⟩⟩
    .rcases(hT' u).1 a with a|a
     .exact .inl ((m.part k).2 ⟨h1,.inl ⟨u,a,b,c⟩⟩)
     .by_cases e:k=i
      .exact .inr (.inl e)
      .exact .inr (.inr ((hB k).2 ⟨e,u,a,c⟩))
    .rcases aw.1 c with c|c
     .exact .inl ((m.part k).2 ⟨h1,.inr ⟨b,c⟩⟩)
     .simp only[au,aR,or_false]at c;exact .inr (.inl c)
 have hcls2:∀k∈new2,Cls g k i:=λk hk=>by
  obtain⟨b,e,h⟩:=c2.cls k hk;cases e;exact h
 by_cases hcl:s3.num x<=s3.low y
 ·
  rw[if_pos hcl];rw[hn3,hl3 y one]at hcl;have his:i∉s.stk++new:=λh=>by
   rcases aw.1 h with h|h
   .by_cases q:some i=by_
    .exact hb q.symm
    .exact m.toCom.met (p.stk i h q y oi) hy
   .exact hiA (.inl h)
  have hidx:s3.stk.idxOf i=(s.stk++new).length:=by rw[hs3];exact JJ his
  have hdrop:s3.stk.drop (s3.stk.idxOf i)=i::new2:=by rw[hidx,hs3,ip]
  have htake:s3.stk.take (s3.stk.idxOf i)=s.stk++new:=by rw[hidx,hs3,jz]
  have hsep:∀u k,(s1.num u=0/\s2.num u≠0)->g.inc k u->(s1.num (g.oth k u)=0/\s2.num (g.oth k u)≠0)\/g.oth k u=x:=λu k hu hk=>by
   by_cases q:s1.num (g.oth k u)=0/\s2.num (g.oth k u)≠0
   .exact .inl q
   .right;by_cases e:k=i
    .have hux:u≠x:=λe=>hxv (e▸hu.1);have:u=y:=by rw[<-hy'];exact fP hi (e▸hk) hux
     rw[e,this,oo]
    .have h1:=c2.lowa u k hu hk (λq=>e (Option.some.inj q)) q;have h2:=hgray u k hu hk q;refine Decidable.byContradiction λhc=>?_;have han:g.oth k u∈an:=by
      rcases au.1 h2 with q|q
      .exact absurd q hc
      .exact q
     have h3:=p.gray _ han;have h4:=p.le (g.oth k u);rw[keep2 _ (m.toCom.met h3),m.keep _ h3]at h1;omega
  have hblock:IsBlock g (sort (i::new2)):=by
   have hm:∀k,k∈sort (i::new2)↔k∈i::new2:=λk=>(hsort _).mem_iff;have hinc:∀e∈i::new2,∃u,(s1.num u=0/\s2.num u≠0)/\g.inc e u:=λe he=>by
    rcases au.1 he with rfl|he
    .exact⟨y,⟨hy,hy2⟩,oi⟩
    .obtain⟨_,u,a,b⟩:=(hB e).1 (.inl he);exact⟨u,a,b⟩
   have hci:∀e∈i::new2,Cls g e i:=λe he=>by
    rcases au.1 he with rfl|he
    .exact .refl
    .exact hcls2 e he
   refine⟨λe=>?_,λa ha c hc=>(hci a ((hm a).1 ha)).trans (hci c ((hm c).1 hc)).symm,λe he f hr=>(hm f).2 ?_⟩
   .have:=(hm i).2 (bt ..);rw[e]at this;cases this
   .rw[hm]at he;obtain⟨u,hu,heu⟩:=hinc e he;obtain⟨v,v1,v2,v3⟩:=hr;by_cases hf:∃u,(s1.num u=0/\s2.num u≠0)/\g.inc f u
    .by_cases e1:f=i
     .rw[e1];exact bt ..
     .rcases(hB f).2 ⟨e1,hf⟩with q|⟨b,q1,q2⟩
      .exact aQ _ q
      ·
       exfalso;have hbk:=c2.blks b q1;have heb:e∈b:=hbk.2.2 f q2 e (Rel.symm ⟨v,v1,v2,v3⟩);rcases au.1 he with rfl|he
       .exact hiB (.inr ⟨b,q1,heb⟩)
       .have:=c2.nd;rw[aJ]at this;exact this.2.2 e he e (fJ.2 ⟨b,q1,heb⟩) rfl
    .exfalso;have hvT:¬(s1.num v=0/\s2.num v≠0):=λq=>hf ⟨v,q,v2⟩;have hvu:v≠u:=λe=>hvT (e▸hu);have hv':v=g.oth e u:=fP heu v1 hvu;have hvx:v=x:=by
      rcases hsep u e hu heu with q|q
      .rw[<-hv']at q;exact absurd q hvT
      .rw[hv',q]
     have hou:g.oth e v=u:=by rw[hv'];exact(inc_oth heu).2.2
     rw[hou]at v3;have:=v3.stays (T:=λz=>s1.num z=0/\s2.num z≠0) (λz k hz hk hne=>by
      rcases hsep z k hz hk with q|q
      .exact q
      .exact absurd (q.trans hvx.symm) hne) hu
     exact hf ⟨_,this,(inc_oth v2).1⟩
  refine⟨new,bs++bs2++[sort (i::new2)],com (s3.close sort i) _ _ rfl rfl rfl ?_ ?_ ?_ m.cls ?_ ?_⟩
  .exact htake
  .show s3.blk++[sort (s3.stk.drop (s3.stk.idxOf i))]=_;rw[hdrop,hb3];simp
  .refine(List.Perm.nodup_iff ?_).2 hnd;refine List.perm_iff_count.2 λa=>?_;have:=(hsort (i::new2)).count_eq a;simp only[jR,fD,fk,bW,List.count_append,KB]at *
   omega
  .intro b hb;rcases aw.1 hb with hb|hb
   .rcases aw.1 hb with hb|hb
    .exact m.blks b hb
    .exact c2.blks b hb
   .simp only[au,aR,or_false]at hb;rw[hb];exact hblock
  .intro k;have hm:k∈sort (i::new2)↔k∈i::new2:=(hsort _).mem_iff;simp only[aw,au,aR,or_false]at *
   constructor
   .rintro (h|⟨b,(h|h)|h,hk⟩)
    .exact .inl (.inl h)
    .exact .inl (.inr ⟨b,h,hk⟩)
    .exact .inr (.inr (.inr ⟨b,h,hk⟩))
    .rw[h,hm]at hk;rcases hk with hk|hk
     .exact .inr (.inl hk)
     .exact .inr (.inr (.inl hk))
   .rintro ((h|⟨b,h,hk⟩)|h|h|⟨b,h,hk⟩)
    .exact .inl h
    .exact .inr ⟨b,.inl (.inl h),hk⟩
    .exact .inr ⟨_,.inr rfl,hm.2 (.inl h)⟩
    .exact .inr ⟨_,.inr rfl,hm.2 (.inr h)⟩
    .exact .inr ⟨b,.inl (.inr h),hk⟩
 .rw[if_neg hcl];rw[hn3,hl3 y one]at hcl;have hrel:∃b,by_=some b/\Rel g i b:=by
   rcases c2.lowb with h|⟨u,k,a,b,c,d,e⟩
   .omega
   .have hg:=hgray u k a b d;have hwx:g.oth k u≠x:=λq=>by rw[q,hnx2]at e;omega
    have han:g.oth k u∈an:=by
     rcases au.1 hg with q|q
     .exact absurd q hwx
     .exact q
    have hxan:x∉an:=λh=>p.gray x h p.x0;cases hby:by_ with
    |none=>rw[p.by0 hby]at han;cases han
    |some b0 =>
      obtain⟨b1,b2⟩:=p.by1 b0 hby;refine⟨b0,rfl,x,hi,b1,?_⟩;rw[hy'];have k1:Conn g (·≠x) y u:=(hconnT u a).mono λz hz e=>hxv (e▸hz.1);have k2:Conn g (·≠x) u (g.oth k u):=Conn.edge k1.right b hwx;exact(k1.trans k2).trans (p.chain x hxan _ han _ b2)
  obtain⟨b0,hby,hrel⟩:=hrel;refine⟨new++i::new2,bs++bs2,com s3 _ _ rfl rfl rfl (by rw[hs3];simp) hb3 ?_ ?_ ?_ ?_⟩
  .refine(List.Perm.nodup_iff ?_).2 hnd;refine List.perm_iff_count.2 λa=>?_;simp only[jR,List.count_append,KB]at *
   omega
  .intro k hk;rcases aw.1 hk with hk|hk
   .exact m.cls k hk
   .rcases au.1 hk with rfl|hk
    .exact⟨b0,hby,.one hrel⟩
    .exact⟨b0,hby,(hcls2 k hk).trans (.one hrel)⟩
  .intro b hb;rcases aw.1 hb with hb|hb
   .exact m.blks b hb
   .exact c2.blks b hb
  .intro k;simp only[aw,au];constructor
   .rintro ((h|h|h)|⟨b,h|h,hk⟩)
    .exact .inl (.inl h)
    .exact .inr (.inl h)
    .exact .inr (.inr (.inl h))
    .exact .inl (.inr ⟨b,h,hk⟩)
    .exact .inr (.inr (.inr ⟨b,h,hk⟩))
   .rintro ((h|⟨b,h,hk⟩)|h|h|⟨b,h,hk⟩)
    .exact .inl (.inl h)
    .exact .inr ⟨b,.inl h,hk⟩
    .exact .inl (.inr (.inl h))
    .exact .inl (.inr (.inr h))
    .exact .inr ⟨b,.inr h,hk⟩
end
end Go.Blk
