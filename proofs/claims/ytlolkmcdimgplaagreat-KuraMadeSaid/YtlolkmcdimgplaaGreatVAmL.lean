/- Slices of any elements, as they are read; slices that are gr -/
import Derived.Test.YtlolkmcdimgplaaGreatVAmA
import Derived.Test.YtlolkmcdimgplaaGreatVAmEnd
set_option linter.all false
namespace Go.Am
variable {K:Tm->AH->Prop}{P:RP}{args:List RO}{b bytes c e esz lo n o:Nat}{cs:List AV}{d nm:Option Nat}{g:Option (Nat×Bool)}{h h':AH}{l l2:List ROper}{s:Option (Tm×AH)}{ts:Tm}{v:AV}{x:RO}{xs:List (List AV)}
def Sl(h:AH)(e:Nat)(v:AV)(xs:List (List AV)):Prop :=
 (xs=[]/\(v=.nils\/v=.emp))\/∃b o c cs ro,v=.sl b o xs.length c/\h.get b=some (.cells cs e ro)/\xs.length<=c/\o+xs.length*e<=cs.length/\∀i x,xs[i]?=some x->o+i*e+e<=cs.length/\(cs.drop (o+i*e)).take e=x
theorem Sl.cong(hs:Sl h e v xs)(hk:∀b o n c,v=.sl b o n c->h'.get b=h.get b):Sl h' e v xs:=by
 rcases hs with hs|⟨b,o,c,cs,ro,h1,h2,h3⟩
 .exact .inl hs
 .exact .inr ⟨b,o,c,cs,ro,h1,by rw[hk b o _ c h1];exact h2,h3⟩
theorem Sl.lt(hs:Sl h e v xs)(hv:v=.sl b o n c):b<h.next:=by
 rcases hs with⟨_,rfl|rfl⟩|⟨b',o',c',cs,ro,rfl,h2,h3⟩
 .cases hv
 .cases hv
 .cases hv;exact AH.lt_of_get h2
theorem Sl.ext(hs:Sl h e v xs)(hx:Ext n h h')(hn:h.next<=n):Sl h' e v xs :=
 hs.cong λb o m c hv=>hx.gt b (by have:=hs.lt hv;omega)
theorem Sl.len(hs:Sl h e v xs):ly v=some (.int .i64 (xs.length:Nat)):=by
 rcases hs with⟨rfl,rfl|rfl⟩|⟨b,o,c,cs,ro,rfl,h2,h3⟩<;>rfl
theorem Sl.cells{h:AH}{e:Nat}{v:AV}{xs:List (List AV)}(hs:Sl h e v xs):v.cells=[v]/\v.one=true:=by
 rcases hs with⟨rfl,rfl|rfl⟩|⟨b,o,c,cs,ro,rfl,h2,h3⟩<;>exact⟨rfl,rfl⟩
theorem Sl.at(hs:Sl h e v xs){i:Nat}{x:List AV}(hi:xs[i]?=some x) :
 ∃b q,lz e v (.int .i64 (i:Nat))=some (.ptr b q)/\aA h b q e=some x/\(∀j y,x[j]?=some y->aA h b (q+j) 1=some [y])/\b<h.next:=by
 have hil:i<xs.length:=(aF.1 hi).1;rcases hs with⟨rfl,_⟩|⟨b,o,c,cs,ro,rfl,h2,_,_,h3⟩
 .simp at hil
 .obtain⟨h4,h5⟩:=h3 i x hi;refine⟨b,o+i*e,?_,?_,?_,AH.lt_of_get h2⟩
  .rw[zX,eU hil];rfl
  .rw[bI h2,if_pos h4,h5]
  .intro j y hj;have hje:j<e:=by
    have:=(aF.1 hj).1;rw[<-h5,bK]at this;omega
   rw[bI h2,if_pos om];have h6:(cs.drop (o+i*e))[j]?=some y:=by
    rw[<-h5]at hj;rw[cM,if_pos hje]at hj;exact hj
   rw[eK]at h6;obtain⟨hl,h7⟩:=aF.1 h6;rw[cn hl,h7];rfl
theorem Sl.at1(hs:Sl h 1 v xs){i:Nat}{y:AV}(hi:xs[i]?=some [y]) :
 ∃b q,lz 1 v (.int .i64 (i:Nat))=some (.ptr b q)/\aA h b q 1=some [y]/\b<h.next:=by
 obtain⟨b,q,h1,h2,_,h4⟩:=hs.at hi;exact⟨b,q,h1,h2,h4⟩
theorem cU(he:h'.get b=h.get b):aA h' b o n=aA h b o n:=by
 unfold aA;rw[he]
def eI(n:Int):List AV:=[.int .i64 n]
def eE(p:Int×Int):List AV:=[.int .i64 p.1,.int .i64 p.2]
abbrev SlI(h:AH)(v:AV)(xs:List Int):Prop:=Sl h 1 v (xs.map eI)
abbrev SlE(h:AH)(v:AV)(xs:List (Int×Int)):Prop:=Sl h 2 v (xs.map eE)
theorem fR{α:Type}{f:α->List AV}{xs:List α}{i:Nat}(hi:i<xs.length):(xs.map f)[i]?=some (f xs[i]):=by
 rw[aG,ae hi];rfl
def iB{α:Type}(P:α->Bool):List α->Nat->Int
 |[],_=>-1
 |x::r,i=>if P x then(i:Nat)else iB P r (i+1)
theorem oT{α:Type}(P:α->Bool):∀(l:List α) (i:Nat),-1<=iB P l i/\(iB P l i<0↔l.any P=false)
 |[],i=>by simp[iB]
 |x::r,i=>by
   have:=oT P r (i+1);unfold iB;by_cases h:P x=true
   .simp[h]<;>omega
   .simp only[Jr]at h;simp only[h,bC,if_false,List.any_cons,ir];exact this
theorem ji{α:Type}(P:α->Bool){l:List α}{i:Nat}(hi:i<l.length):iB P (l.drop i) i=if P l[i]then((i:Nat):Int)else iB P (l.drop (i+1)) (i+1):=by
 rw[cn hi];rfl
theorem ku{f:FuncId}{caps:List AV}{vs:List AV}{Q:AV->AH->Prop}(n:Nat)
 (hs:lK b (l.take n) s=some (ts,h)) (hd:l.drop n=⟨d,.callv x args,g,nm,[]⟩::l2) (hw:wanted ts g=some true) (hx:RO.ev ts x=.fn f caps) (ha:args.map (RO.ev ts)=vs) (hc:C P f (vs++caps) h Q)
 (hk:∀v h',Q v h'->G P b l2 (some (eu ts d v,h')) K):G P b l s K:=by
 subst ha;rw[<-cm n l];refine sI ?_;rw[hs,hd];exact G.callv hw hx (hc.mono hk)
theorem G.nocallv(n:Nat)
 (hs:lK b (l.take n) s=some (ts,h)) (hd:l.drop n=⟨d,.callv x args,g,nm,[]⟩::l2) (hw:wanted ts g=some false)
 (hk:G P b l2 (some (eu ts d .un,h)) K):G P b l s K:=by
 rw[<-cm n l];refine sI ?_;rw[hs,hd];refine Cw ?_;rw[nW,hw];exact hk
def IsSl(h:AH)(esz lo:Nat)(v:AV)(cs:List AV):Prop :=
 (v=.nils/\cs=[])\/∃b n,lo<=b/\v=.sl b 0 n n/\h.get b=some (.cells cs esz false)/\cs.length=n*esz
theorem IsSl.cong(hv:IsSl h esz lo v cs)(hk:∀b n,v=.sl b 0 n n->lo<=b->h'.get b=h.get b):IsSl h' esz lo v cs:=by
 rcases hv with hv|⟨b,n,h1,h2,h3,h4⟩
 .exact .inl hv
 .exact .inr ⟨b,n,h1,h2,by rw[hk b n h2 h1];exact h3,h4⟩
theorem IsSl.lt(hv:IsSl h esz lo v cs)(e:v=.sl b o n c):b<h.next:=by
 rcases hv with⟨rfl,_⟩|⟨b',n',_,rfl,h3,_⟩
 .cases e
 .cases e;exact AH.lt_of_get h3
theorem IsSl.ext{hi:Nat}(hv:IsSl h esz lo v cs)(hx:Ext hi h h')(hn:h.next<=hi):IsSl h' esz lo v cs :=
 hv.cong λb n e _=>hx.gt b (by have:=hv.lt e;omega)
theorem IsSl.upd{s:Nat}{o:AO}(hv:IsSl h esz lo v cs)(hu:Upd h h' s o)(hs:s<lo):IsSl h' esz lo v cs :=
 hv.cong λb n _ hb=>hu.ne om
theorem IsSl.cells{h:AH}{esz lo:Nat}{v:AV}{cs:List AV}(hv:IsSl h esz lo v cs):v.cells=[v]/\v.one=true:=by
 rcases hv with⟨rfl,_⟩|⟨b,n,_,rfl,_,_⟩<;>exact⟨rfl,rfl⟩
theorem IsSl.mono{lo':Nat}(hv:IsSl h esz lo v cs)(hl:lo'<=lo):IsSl h esz lo' v cs:=by
 rcases hv with hv|⟨b,n,h1,h2⟩
 .exact .inl hv
 .exact .inr ⟨b,n,om,h2⟩
theorem tn{α:Type}{f:α->List AV}{e:Nat}(hf:∀x,(f x).length=e):∀(xs:List α) (i:Nat) (x:α),xs[i]?=some x->i*e+e<=(xs.flatMap f).length/\((xs.flatMap f).drop (i*e)).take e=f x
 |[],i,x,h=>by simp at h
 |y::r,0,x,h=>by
   simp only[aW,aa]at h;subst h;simp only[bm,lY,bT,aB,hf];exact⟨om,by rw[<-hf y,yG]⟩
 |y::r,i+1,x,h=>by
   simp only[cR]at h;obtain⟨h1,h2⟩:=tn hf r i x h;have e1:(i+1)*e=e+i*e:=by rw[cT,nQ,Nat.add_comm]
   simp only[bm,aB,hf];refine⟨om,?_⟩;rw[e1];have:(f y++r.flatMap f).drop (e+i*e)=(r.flatMap f).drop (i*e):=by
    rw[<-hf y,Jo];simp
   rw[this,h2]
theorem dN{α:Type}{f:α->List AV}(hf:∀x,(f x).length=e)(xs:List α):(xs.flatMap f).length=xs.length*e:=by
 induction xs with
 |nil=>simp
 |cons y r ih=>simp only[bm,aB,hf,ih,ar,cT,nQ];omega
theorem IsSl.sl{α:Type}{f:α->List AV}{h:AH}{e lo:Nat}{v:AV}{xs:List α}(he:0<e)(hf:∀x,(f x).length=e)(hv:IsSl h e lo v (xs.flatMap f)):Sl h e v (xs.map f):=by
 have hl:=dN hf xs;rcases hv with⟨rfl,h0⟩|⟨b,n,h1,rfl,h3,h4⟩
 .refine .inl ⟨?_,.inl rfl⟩;rw[h0]at hl;have:xs.length=0:=by
   simp only[aU]at hl;rcases Nat.mul_eq_zero.1 hl.symm with h|h
   .exact h
   .omega
  rw[bF.1 this];rfl
 .have hn:n=xs.length:=by
   rw[hl]at h4;exact(Nat.eq_of_mul_eq_mul_right he h4).symm
  subst hn;refine .inr ⟨b,0,xs.length,_,false,by rw[ah],h3,by rw[ah];exact ab _,by rw[ah,hl];omega,λi x hx=>?_⟩;rw[aG]at hx;obtain⟨y,hy,rfl⟩:=aE.1 hx;rw[cq];exact tn hf xs i y hy
theorem IsSl.app{new:List AV}{x:Nat}(hv:IsSl h esz lo v cs)(hlo:lo<=h.next)(he:0<esz)(hx:h.get x=some (.cells new esz false))(hxl:lo<=x)(hxv:∀b n,v=.sl b 0 n n->b≠x)(hn:new.length=esz)(ho:new.all AV.one=true)
 (hb:(cs.length/esz+1)*bytes<bq) (hc:cs.length/esz+1<bq):∃v' h',iX h esz bytes v (.sl x 0 1 1)=some (v',h')/\IsSl h' esz lo v' (cs++new)/\Ext lo h h'/\v'=.sl h.next 0 (cs.length/esz+1) (cs.length/esz+1)/\h'.next=h.next+1/\(∀c,c<h.next->(∀b n,v=.sl b 0 n n->c≠b)->h'.get c=h.get c)/\(∀c,h'.tyOf c=h.tyOf c):=by
 have hr:aA h x 0 (1*esz)=some new:=by
  rw[bI hx,nQ,if_pos om,bT,<-hn,cZ]
 rcases hv with⟨rfl,rfl⟩|⟨b,n,h1,rfl,h3,h4⟩
 .refine⟨.sl h.next 0 1 1,h.new (.cells new esz false),?_,.inr ⟨h.next,1,hlo,rfl,by rw[AH.get_new];simp,by simpa using hn⟩,Nt hlo,by simp,by simp,λc hc _=>by rw[AH.get_new,if_neg om],λ_=>rfl⟩;simp only[iX,eT,hr,aC,ho,if_true,kQ,if_false];simp only[aU,Nat.zero_div,cq]at hb hc;rw[if_pos ⟨by simpa using hb,hc⟩]
 .have hnn:cs.length/esz=n:=by rw[h4,Nat.mul_div_cancel _ he]
  rw[hnn]at hb hc;have hr2:aA h b 0 (n*esz)=some cs:=by
   rw[bI h3,if_pos om,bT,<-h4,cZ]
  refine⟨.sl h.next 0 (n+1) (n+1),(h.put b .dead).new (.cells (cs++new) esz false),?_,.inr ⟨h.next,n+1,hlo,rfl,by rw[AH.get_new,AH.next_put];simp,by rw[aB,hn,h4,cT,nQ]⟩,?_,by rw[hnn],by simp,?_,λ_=>rfl⟩
  .simp only[iX,eT,hr,aC,ho,if_true,kQ,if_false];rw[if_neg om,if_pos ⟨hb,hc⟩,h3,hr2];simp only[if_true]
  .exact(Ext.put h1).trans (Nt (by simpa using hlo))
  .intro c hc hne;rw[AH.get_new,AH.next_put,if_neg om,AH.get_put _ _ _ _ (AH.lt_of_get h3),if_neg (Ne.symm (hne b n rfl))]
theorem IsSl.push(new:List AV)(hv:IsSl h esz lo v cs)(hlo:lo<=h.next)(he:0<esz)(hn:new.length=esz)(ho:new.all AV.one=true)
 (hb:(cs.length/esz+1)*bytes<bq) (hc:cs.length/esz+1<bq):∃v' h',iX (h.new (.cells new esz false)) esz bytes v (.sl h.next 0 1 1)=some (v',h')/\IsSl h' esz lo v' (cs++new)/\Ext lo h h'/\h.next<=h'.next:=by
 obtain⟨v',h',h1,h2,h3,_,h5,_,_⟩:=(hv.ext (Nt (o:=.cells new esz false) (ab _)) (ab _)).app (x:=h.next) (new:=new) (bytes:=bytes) (by simp;omega) he (by rw[AH.get_new];simp) hlo
  (λb n hbn=>by have:=hv.lt hbn;omega) hn ho hb hc
 exact⟨v',h',h1,h2,(Nt hlo).trans h3,by simp at h5;omega⟩
def Nq:=@IsSl.sl
end Go.Am
