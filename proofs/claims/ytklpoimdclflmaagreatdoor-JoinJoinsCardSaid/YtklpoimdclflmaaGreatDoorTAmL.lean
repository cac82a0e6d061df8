/- Slices of any elements, as they are read; slices that are gr -/
import Derived.Test.YtklpoimdclflmaaGreatDoorTAmA
import Derived.Test.YtklpoimdclflmaaGreatDoorTAmEnd
set_option linter.all false
namespace Go.Am
variable {K:Tm->AH->Prop}{P:RP}{args:List RO}{b bytes c e esz lo n o:Nat}{cs:List AV}{d nm:Option Nat}{g:Option (Nat×Bool)}{h h':AH}{l l2:List ROper}{s:Option (Tm×AH)}{ts:Tm}{v:AV}{x:RO}{xs:List (List AV)}
def Sl(h:AH)(e:Nat)(v:AV)(xs:List (List AV)):Prop :=
 (xs=[]/\(v=.nils\/v=.emp))\/∃b o c cs ro,v=.sl b o xs.length c/\h.get b=some (.cells cs e ro)/\xs.length<=c/\o+xs.length*e<=cs.length/\∀i x,xs[i]?=some x->o+i*e+e<=cs.length/\(cs.drop (o+i*e)).take e=x
def Sl.cong(hs:Sl h e v xs)(hk:∀b o n c,v=.sl b o n c->h'.get b=h.get b):Sl h' e v xs:=by
 rcases hs with hs|⟨b,o,c,cs,ro,h1,h2,h3⟩
 .exact .inl hs
 .exact .inr ⟨b,o,c,cs,ro,h1,by rw[hk b o _ c h1];exact h2,h3⟩
def Sl.lt(hs:Sl h e v xs)(hv:v=.sl b o n c):b<h.next:=by
 rcases hs with⟨_,rfl|rfl⟩|⟨b',o',c',cs,ro,rfl,h2,h3⟩
 .cases hv
 .cases hv
 .cases hv;exact AH.lt_of_get h2
def Sl.ext(hs:Sl h e v xs)(hx:Ext n h h')(hn:h.next<=n):Sl h' e v xs :=
 hs.cong λb o m c hv=>hx.gt b (by have:=hs.lt hv;omega)
def Sl.len(hs:Sl h e v xs):fP v=some (.int .i64 (xs.length:Nat)):=by
 rcases hs with⟨rfl,rfl|rfl⟩|⟨b,o,c,cs,ro,rfl,h2,h3⟩<;>rfl
def Sl.cells{h:AH}{e:Nat}{v:AV}{xs:List (List AV)}(hs:Sl h e v xs):v.cells=[v]/\v.one=true:=by
 rcases hs with⟨rfl,rfl|rfl⟩|⟨b,o,c,cs,ro,rfl,h2,h3⟩<;>exact⟨rfl,rfl⟩
def Sl.at(hs:Sl h e v xs){i:Nat}{x:List AV}(hi:xs[i]?=some x) :
 ∃b q,jZ e v (.int .i64 (i:Nat))=some (.ptr b q)/\ai h b q e=some x/\(∀j y,x[j]?=some y->ai h b (q+j) 1=some [y])/\b<h.next:=by
 have hil:i<xs.length:=(au.1 hi).1;rcases hs with⟨rfl,_⟩|⟨b,o,c,cs,ro,rfl,h2,_,_,h3⟩
 .simp at hil
 .obtain⟨h4,h5⟩:=h3 i x hi;refine⟨b,o+i*e,?_,?_,?_,AH.lt_of_get h2⟩
  .rw[vg,cK hil];rfl
  .rw[aR h2,if_pos h4,h5]
  .intro j y hj;have hje:j<e:=by
    have:=(au.1 hj).1;rw[<-h5,aS]at this;omega
   rw[aR h2,if_pos om];have h6:(cs.drop (o+i*e))[j]?=some y:=by
    rw[<-h5]at hj;rw[cS,if_pos hje]at hj;exact hj
   rw[fS]at h6;obtain⟨hl,h7⟩:=au.1 h6;rw[cj hl,h7];rfl
def Sl.at1(hs:Sl h 1 v xs){i:Nat}{y:AV}(hi:xs[i]?=some [y]) :
 ∃b q,jZ 1 v (.int .i64 (i:Nat))=some (.ptr b q)/\ai h b q 1=some [y]/\b<h.next:=by
 obtain⟨b,q,h1,h2,_,h4⟩:=hs.at hi;exact⟨b,q,h1,h2,h4⟩
def bi(he:h'.get b=h.get b):ai h' b o n=ai h b o n:=by
 unfold ai;rw[he]
def eI(n:Int):List AV:=[.int .i64 n]
def eE(p:Int×Int):List AV:=[.int .i64 p.1,.int .i64 p.2]
def eT(p:Int×Int×Int):List AV:=[.int .i64 p.1,.int .i64 p.2.1,.int .i64 p.2.2]
abbrev SlI(h:AH)(v:AV)(xs:List Int):Prop:=Sl h 1 v (xs.map eI)
abbrev SlE(h:AH)(v:AV)(xs:List (Int×Int)):Prop:=Sl h 2 v (xs.map eE)
abbrev SlT(h:AH)(v:AV)(xs:List (Int×Int×Int)):Prop:=Sl h 3 v (xs.map eT)
def cm{α:Type}{f:α->List AV}{xs:List α}{i:Nat}(hi:i<xs.length):(xs.map f)[i]?=some (f xs[i]):=by
 rw[aV,aj hi];rfl
def eM{α:Type}(P:α->Bool):List α->Nat->Int
 |[],_=>-1
 |x::r,i=>if P x then(i:Nat)else eM P r (i+1)
def lj{α:Type}(P:α->Bool):∀(l:List α) (i:Nat),-1<=eM P l i/\(eM P l i<0↔l.any P=false)
 |[],i=>by simp[eM]
 |x::r,i=>by
   have:=lj P r (i+1);unfold eM;by_cases h:P x=true
   .simp[h]<;>omega
   .simp only[ow]at h;simp only[h,bT,if_false,List.any_cons,BN];exact this
def fZ{α:Type}(P:α->Bool){l:List α}{i:Nat}(hi:i<l.length):eM P (l.drop i) i=if P l[i]then((i:Nat):Int)else eM P (l.drop (i+1)) (i+1):=by
 rw[cj hi];rfl
def py{f:FuncId}{caps:List AV}{vs:List AV}{Q:AV->AH->Prop}(n:Nat)
 (hs:lF b (l.take n) s=some (ts,h)) (hd:l.drop n=⟨d,.callv x args,g,nm,[]⟩::l2) (hw:wanted ts g=some true) (hx:RO.ev ts x=.fn f caps) (ha:args.map (RO.ev ts)=vs) (hc:C P f (vs++caps) h Q)
 (hk:∀v h',Q v h'->G P b l2 (some (dH ts d v,h')) K):G P b l s K:=by
 subst ha;rw[<-cH n l];refine tO ?_;rw[hs,hd];exact G.callv hw hx (hc.mono hk)
def G.nocallv(n:Nat)
 (hs:lF b (l.take n) s=some (ts,h)) (hd:l.drop n=⟨d,.callv x args,g,nm,[]⟩::l2) (hw:wanted ts g=some false)
 (hk:G P b l2 (some (dH ts d .un,h)) K):G P b l s K:=by
 rw[<-cH n l];refine tO ?_;rw[hs,hd];refine MU ?_;rw[oN,hw];exact hk
def IsSl(h:AH)(esz lo:Nat)(v:AV)(cs:List AV):Prop :=
 (v=.nils/\cs=[])\/∃b n,lo<=b/\v=.sl b 0 n n/\h.get b=some (.cells cs esz false)/\cs.length=n*esz
def IsSl.cong(hv:IsSl h esz lo v cs)(hk:∀b n,v=.sl b 0 n n->lo<=b->h'.get b=h.get b):IsSl h' esz lo v cs:=by
 rcases hv with hv|⟨b,n,h1,h2,h3,h4⟩
 .exact .inl hv
 .exact .inr ⟨b,n,h1,h2,by rw[hk b n h2 h1];exact h3,h4⟩
def IsSl.lt(hv:IsSl h esz lo v cs)(e:v=.sl b o n c):b<h.next:=by
 rcases hv with⟨rfl,_⟩|⟨b',n',_,rfl,h3,_⟩
 .cases e
 .cases e;exact AH.lt_of_get h3
def IsSl.ext{hi:Nat}(hv:IsSl h esz lo v cs)(hx:Ext hi h h')(hn:h.next<=hi):IsSl h' esz lo v cs :=
 hv.cong λb n e _=>hx.gt b (by have:=hv.lt e;omega)
def IsSl.upd{s:Nat}{o:AO}(hv:IsSl h esz lo v cs)(hu:Upd h h' s o)(hs:s<lo):IsSl h' esz lo v cs :=
 hv.cong λb n _ hb=>hu.ne om
def IsSl.cells{h:AH}{esz lo:Nat}{v:AV}{cs:List AV}(hv:IsSl h esz lo v cs):v.cells=[v]/\v.one=true:=by
 rcases hv with⟨rfl,_⟩|⟨b,n,_,rfl,_,_⟩<;>exact⟨rfl,rfl⟩
def IsSl.mono{lo':Nat}(hv:IsSl h esz lo v cs)(hl:lo'<=lo):IsSl h esz lo' v cs:=by
 rcases hv with hv|⟨b,n,h1,h2⟩
 .exact .inl hv
 .exact .inr ⟨b,n,om,h2⟩
def yT{α:Type}{f:α->List AV}{e:Nat}(hf:∀x,(f x).length=e):∀(xs:List α) (i:Nat) (x:α),xs[i]?=some x->i*e+e<=(xs.flatMap f).length/\((xs.flatMap f).drop (i*e)).take e=f x
 |[],i,x,h=>by simp at h
 |y::r,0,x,h=>by
   simp only[bD,aa]at h;subst h;simp only[bH,pV,df,aJ,hf];exact⟨om,by rw[<-hf y,qP]⟩
 |y::r,i+1,x,h=>by
   simp only[cJ]at h;obtain⟨h1,h2⟩:=yT hf r i x h;have e1:(i+1)*e=e+i*e:=by rw[dF,oH,Nat.add_comm]
   simp only[bH,aJ,hf];refine⟨om,?_⟩;rw[e1];have:(f y++r.flatMap f).drop (e+i*e)=(r.flatMap f).drop (i*e):=by
    rw[<-hf y,List.drop_append];simp
   rw[this,h2]
def dE{α:Type}{f:α->List AV}(hf:∀x,(f x).length=e)(xs:List α):(xs.flatMap f).length=xs.length*e:=by
 induction xs with
 |nil=>simp
 |cons y r ih=>simp only[bH,aJ,hf,ih,bd,dF,oH];omega
def IsSl.sl{α:Type}{f:α->List AV}{h:AH}{e lo:Nat}{v:AV}{xs:List α}(he:0<e)(hf:∀x,(f x).length=e)(hv:IsSl h e lo v (xs.flatMap f)):Sl h e v (xs.map f):=by
 have hl:=dE hf xs;rcases hv with⟨rfl,h0⟩|⟨b,n,h1,rfl,h3,h4⟩
 .refine .inl ⟨?_,.inl rfl⟩;rw[h0]at hl;have:xs.length=0:=by
   simp only[bm]at hl;rcases Nat.mul_eq_zero.1 hl.symm with h|h
   .exact h
   .omega
  rw[aW.1 this];rfl
 .have hn:n=xs.length:=by
   rw[hl]at h4;exact(Nat.eq_of_mul_eq_mul_right he h4).symm
  subst hn;refine .inr ⟨b,0,xs.length,_,false,by rw[ah],h3,by rw[ah];exact ab _,by rw[ah,hl];omega,λi x hx=>?_⟩;rw[aV]at hx;obtain⟨y,hy,rfl⟩:=aG.1 hx;rw[bN];exact yT hf xs i y hy
def IsSl.app{new:List AV}{x:Nat}(hv:IsSl h esz lo v cs)(hlo:lo<=h.next)(he:0<esz)(hx:h.get x=some (.cells new esz false))(hxl:lo<=x)(hxv:∀b n,v=.sl b 0 n n->b≠x)(hn:new.length=esz)(ho:new.all AV.one=true)
 (hb:(cs.length/esz+1)*bytes<bf) (hc:cs.length/esz+1<bf):∃v' h',gh h esz bytes v (.sl x 0 1 1)=some (v',h')/\IsSl h' esz lo v' (cs++new)/\Ext lo h h'/\v'=.sl h.next 0 (cs.length/esz+1) (cs.length/esz+1)/\h'.next=h.next+1/\(∀c,c<h.next->(∀b n,v=.sl b 0 n n->c≠b)->h'.get c=h.get c)/\(∀c,h'.tyOf c=h.tyOf c):=by
 have hr:ai h x 0 (1*esz)=some new:=by
  rw[aR hx,oH,if_pos om,df,<-hn,bt]
 rcases hv with⟨rfl,rfl⟩|⟨b,n,h1,rfl,h3,h4⟩
 .refine⟨.sl h.next 0 1 1,h.new (.cells new esz false),?_,.inr ⟨h.next,1,hlo,rfl,by rw[AH.get_new];simp,by simpa using hn⟩,Oe hlo,by simp,by simp,λc hc _=>by rw[AH.get_new,if_neg om],λ_=>rfl⟩;simp only[gh,fz,hr,aQ,ho,if_true,lC,if_false];simp only[bm,vT,bN]at hb hc;rw[if_pos ⟨by simpa using hb,hc⟩]
 .have hnn:cs.length/esz=n:=by rw[h4,cQ _ he]
  rw[hnn]at hb hc;have hr2:ai h b 0 (n*esz)=some cs:=by
   rw[aR h3,if_pos om,df,<-h4,bt]
  refine⟨.sl h.next 0 (n+1) (n+1),(h.put b .dead).new (.cells (cs++new) esz false),?_,.inr ⟨h.next,n+1,hlo,rfl,by rw[AH.get_new,AH.next_put];simp,by rw[aJ,hn,h4,dF,oH]⟩,?_,by rw[hnn],by simp,?_,λ_=>rfl⟩
  .simp only[gh,fz,hr,aQ,ho,if_true,lC,if_false];rw[if_neg om,if_pos ⟨hb,hc⟩,h3,hr2];simp only[if_true]
  .exact(Og h1).trans (Oe (by simpa using hlo))
  .intro c hc hne;rw[AH.get_new,AH.next_put,if_neg om,AH.get_put _ _ _ _ (AH.lt_of_get h3),if_neg (Ne.symm (hne b n rfl))]
def IsSl.push(new:List AV)(hv:IsSl h esz lo v cs)(hlo:lo<=h.next)(he:0<esz)(hn:new.length=esz)(ho:new.all AV.one=true)
 (hb:(cs.length/esz+1)*bytes<bf) (hc:cs.length/esz+1<bf):∃v' h',gh (h.new (.cells new esz false)) esz bytes v (.sl h.next 0 1 1)=some (v',h')/\IsSl h' esz lo v' (cs++new)/\Ext lo h h'/\h.next<=h'.next:=by
 obtain⟨v',h',h1,h2,h3,_,h5,_,_⟩:=(hv.ext (Oe (o:=.cells new esz false) (ab _)) (ab _)).app (x:=h.next) (new:=new) (bytes:=bytes) (by simp;omega) he (by rw[AH.get_new];simp) hlo
  (λb n hbn=>by have:=hv.lt hbn;omega) hn ho hb hc
 exact⟨v',h',h1,h2,(Oe hlo).trans h3,by simp at h5;omega⟩
def Ob:=@IsSl.sl
end Go.Am
