/- Steps of regions, first order -/
import Derived.Test.YtklpoimdclflmaaGreatDoorTAmW
set_option linter.all false
namespace Go.Am
def gd(w:Option Bool)(x:Option (AV×AH))(h:AH):Option (AV×AH) :=
 match w with
 |some true=>x
 |some false=>some (.un,h)
 |none=>none
def Ci(ts:Tm)(d:Option Nat):Option (AV×AH)->Option (Tm×AH)
 |some (v,h)=>some (dH ts d v,h)
 |none=>none
def ckR(cs:List (Nat×ROp×Option (Nat×Bool)))(s:Option (Tm×AH)):Option (Tm×AH) :=
 match cs with
 |[]=>s
 |c::r=>match s with
   |some (ts,h)=>if gZ ts h (c::r)=true then some (ts,h)else none
   |none=>none
def JG{cs:List (Nat×ROp×Option (Nat×Bool))}{s:Option (Tm×AH)}{ts:Tm}{h:AH}(he:ckR cs s=some (ts,h)):s=some (ts,h)/\gZ ts h cs=true:=by
 unfold ckR at he;split at he
 .exact⟨he,rfl⟩
 .split at he
  .split at he
   .rename_i hc
    simp only[aa,aq]at he;obtain⟨rfl,rfl⟩:=he;exact⟨rfl,hc⟩
   .cases he
  .cases he
def stp(b:Nat)(o:ROper):Option (Tm×AH)->Option (Tm×AH)
 |some (ts,h)=>ckR o.cs (Ci ts o.dst (gd (wanted ts o.guard) (evN b (RO.ev ts) h o) h))
 |none=>none
def G(P:RP)(b:Nat)(l:List ROper)(s:Option (Tm×AH))(K:Tm->AH->Prop):Prop:=∃ts h,s=some (ts,h)/\pT P b l ts h K
def Ey{P:RP}{b:Nat}{ts:Tm}{h:AH}{K:AV->AH->Prop}{o:ROper}{v:AV}{h':AH}(he:evN b (RO.ev ts) h o=some (v,h'))(hk:K v h'):wop P b ts h K o:=by
 have hno:o.op.cls≠2->aL (RO.ev ts) h o.op=some (v,h'):=λq=>(yV q he).2;unfold wop;split
 .rename_i ho;rw[ho]at hno;have:=hno (by simp[ROp.cls]);simp[aL]at this
 .rename_i ho;rw[ho]at hno;have:=hno (by simp[ROp.cls]);simp[aL]at this
 .rename_i ho;rw[ho]at hno;have:=hno (by simp[ROp.cls]);simp[aL]at this
 .exact⟨v,h',he,hk⟩
def MU{P:RP}{b:Nat}{o:ROper}{l:List ROper}{s:Option (Tm×AH)}{K:Tm->AH->Prop}(hg:G P b l (stp b o s) K):G P b (o::l) s K:=by
 obtain⟨ts',h',hs,hw⟩:=hg;cases s with
 |none=>cases hs
 |some p =>
   obtain⟨ts,h⟩:=p;refine⟨ts,h,rfl,?_⟩;simp only[stp]at hs;obtain⟨hs,hck⟩:=JG hs;unfold pT;cases hwn:wanted ts o.guard with
   |none=>rw[hwn]at hs;simp[gd,Ci]at hs
   |some t =>
     rw[hwn]at hs;cases t with
     |false =>
       simp only[gd,Ci,aa,aq]at hs;obtain⟨rfl,rfl⟩:=hs;exact hw
     |true =>
       simp only[gd]at hs;cases he:evN b (RO.ev ts) h o with
       |none=>rw[he]at hs;simp[Ci]at hs
       |some q =>
         obtain⟨v,h2⟩:=q;rw[he]at hs;simp only[Ci,aa,aq]at hs;obtain⟨rfl,rfl⟩:=hs;exact Ey he ⟨hw,hck⟩
def lF(b:Nat):List ROper->Option (Tm×AH)->Option (Tm×AH)
 |[],s=>s
 |o::l,s=>lF b l (stp b o s)
def tO{P:RP}{b:Nat}:∀{l l':List ROper}{s:Option (Tm×AH)}{K:Tm->AH->Prop},G P b l' (lF b l s) K->G P b (l++l') s K
 |[],_,_,_,h=>h
 |_::_,_,_,_,h=>MU (tO h)
def G.done{P:RP}{b:Nat}{ts:Tm}{h:AH}{K:Tm->AH->Prop}(hk:K ts h):G P b [] (some (ts,h)) K:=⟨ts,h,rfl,hk⟩
section
variable {args:List RO}{f:FuncId}
variable {P:RP}{b:Nat}{d:Option Nat}{g:Option (Nat×Bool)}{nm:Option Nat}{cs:List (Nat×ROp×Option (Nat×Bool))}{l:List ROper}{ts:Tm}{h:AH}{K:Tm->AH->Prop}
def G.at{ts:Tm}{h:AH}(hg:G P b l (some (ts,h)) K):pT P b l ts h K:=by
 obtain⟨ts',h'',hs,hw⟩:=hg;simp only[aa,aq]at hs;obtain⟨rfl,rfl⟩:=hs;exact hw
def Ew{f:FuncId}(hw:wanted ts g=some true)(hc:C P f (args.map (RO.ev ts)) h λv h'=>gZ (dH ts d v) h' cs=true/\G P b l (some (dH ts d v,h')) K):G P b (⟨d,.call f args,g,nm,cs⟩::l) (some (ts,h)) K:=by
 refine⟨ts,h,rfl,?_⟩;simp only[pT,hw,wop];exact hc.mono λv h' hg=>⟨hg.2.at,hg.1⟩
def zE(hw:wanted ts g=some true)(hc:C P f (args.map (RO.ev ts)) h λv h'=>G P b l (some (dH ts d v,h')) K):G P b (⟨d,.call f args,g,nm,[]⟩::l) (some (ts,h)) K :=
 Ew hw (hc.mono λ_ _ q=>⟨rfl,q⟩)
def G.call{f:FuncId}{args:List RO}(hc:C P f (args.map (RO.ev ts)) h λv h'=>G P b l (some (dH ts d v,h')) K):G P b (⟨d,.call f args,none,nm,[]⟩::l) (some (ts,h)) K:=zE rfl hc
def G.callvc{x:RO}{caps:List AV}(hw:wanted ts g=some true)(hx:RO.ev ts x=.fn f caps)
 (hc:C P f (args.map (RO.ev ts)++caps) h λv h'=>gZ (dH ts d v) h' cs=true/\G P b l (some (dH ts d v,h')) K):G P b (⟨d,.callv x args,g,nm,cs⟩::l) (some (ts,h)) K:=by
 refine⟨ts,h,rfl,?_⟩;simp only[pT,hw,wop];exact .inl ⟨f,caps,hx,hc.mono λv h' hg=>⟨hg.2.at,hg.1⟩⟩
def G.callv{x:RO}{f:FuncId}{caps:List AV}{args:List RO}(hw:wanted ts g=some true)(hx:RO.ev ts x=.fn f caps)
 (hc:C P f (args.map (RO.ev ts)++caps) h λv h'=>G P b l (some (dH ts d v,h')) K):G P b (⟨d,.callv x args,g,nm,[]⟩::l) (some (ts,h)) K:=G.callvc hw hx (hc.mono λ_ _ q=>⟨rfl,q⟩)
def G.yield{x:RO}{c:Nat}(hw:wanted ts g=some true)(hx:RO.ev ts x=.yld c)
 (hc:Y P c (args.map (RO.ev ts)) h λv h'=>gZ (dH ts d v) h' cs=true/\G P b l (some (dH ts d v,h')) K):G P b (⟨d,.callv x args,g,nm,cs⟩::l) (some (ts,h)) K:=by
 refine⟨ts,h,rfl,?_⟩;simp only[pT,hw,wop];exact .inr ⟨c,hx,hc.mono λv h' hg=>⟨hg.2.at,hg.1⟩⟩
end
variable {h':AH}{ops:List ROper}{ts':Tm}
def bM{P:RP}{ts:Tm}{h:AH}{Kn Kr:Tm->AH->Prop}{Kx:Nat->Tm->AH->Prop}(hg:G P h.next ops (some (ts,h)) Kn):W P (.reg ops) ts h Kn Kr Kx:=hg.at
def pw{P:RP}{kn:Nat}{ts:Tm}{h:AH}{Kn Kr:Tm->AH->Prop}{Kx:Nat->Tm->AH->Prop}(hg:G P h.next ops (some (ts,h.keep kn)) Kn):W P (.regK kn ops) ts h Kn Kr Kx:=hg.at
def bI{P:RP}{b:Nat}{s:Option (Tm×AH)}{K:Tm->AH->Prop}(hs:lF b ops s=some (ts',h'))(hk:K ts' h'):G P b ops s K:=by
 have:G P b (ops++[]) s K:=tO (by rw[hs];exact G.done hk);rwa [bF]at this
def ak{P:RP}{ts:Tm}{h:AH}{Kn Kr:Tm->AH->Prop}{Kx:Nat->Tm->AH->Prop}(hs:lF h.next ops (some (ts,h))=some (ts',h'))(hk:Kn ts' h'):W P (.reg ops) ts h Kn Kr Kx:=bM (bI hs hk)
def okR(s:Option (Tm×AH))(Q:Tm->AH->Prop):Prop :=
 match s with
 |some (ts,h)=>Q ts h
 |none=>False
section
variable {c:RO}{i:Nat}{ops:List ROper}
variable {P:RP}{ts:Tm}{h:AH}{Kn Kr:Tm->AH->Prop}{Kx:Nat->Tm->AH->Prop}
def ae{a b:RC}(hw:W P a ts h (λts h=>W P b ts h Kn Kr Kx) Kr Kx):W P (.seq a b) ts h Kn Kr Kx:=hw
def bz(hw:Kn ts h):W P .skip ts h Kn Kr Kx:=hw
def bu(hw:Kr ts h):W P .ret ts h Kn Kr Kx:=hw
def fM(hw:Kx i ts h):W P (.exit i) ts h Kn Kr Kx:=hw
def dl{c:RC}(hw:W P c ts h Kn Kr (λj ts h=>(j=i->Kn ts h)/\(j≠i->Kx j ts h))):W P (.block i c) ts h Kn Kr Kx:=hw
def cZ{a b:RC}(hc:RO.ev ts c=.bool true)(hw:W P a ts h Kn Kr Kx):W P (.cond c a b) ts h Kn Kr Kx:=.inl ⟨hc,hw⟩
def dC{a b:RC}(hc:RO.ev ts c=.bool false)(hw:W P b ts h Kn Kr Kx):W P (.cond c a b) ts h Kn Kr Kx:=.inr ⟨hc,hw⟩
def cF{a b:RC}{t:Bool}(hc:RO.ev ts c=.bool t)(h1:t=true->W P a ts h Kn Kr Kx)(h2:t=false->W P b ts h Kn Kr Kx):W P (.cond c a b) ts h Kn Kr Kx:=by
 cases t
 .exact .inr ⟨hc,h2 rfl⟩
 .exact .inl ⟨hc,h1 rfl⟩
def Kk{b:Nat}{s:Option (Tm×AH)}{K:Tm->AH->Prop}(Q:Tm->AH->Prop)(hs:okR (lF b ops s) Q)(hk:∀ts' h',Q ts' h'->K ts' h'):G P b ops s K:=by
 cases he:lF b ops s with
 |none=>rw[he]at hs;exact hs.elim
 |some p =>
   obtain⟨ts',h'⟩:=p;rw[he]at hs;exact bI he (hk _ _ hs)
def zz(Q:Tm->AH->Prop)(hs:okR (lF h.next ops (some (ts,h))) Q)(hk:∀ts' h',Q ts' h'->Kn ts' h'):W P (.reg ops) ts h Kn Kr Kx:=bM (Kk Q hs hk)
def Et{kn:Nat}(Q:Tm->AH->Prop)(hs:okR (lF h.next ops (some (ts,h.keep kn))) Q)(hk:∀ts' h',Q ts' h'->Kn ts' h'):W P (.regK kn ops) ts h Kn Kr Kx:=pw (Kk Q hs hk)
end
variable {ev:RO->AV}{h':AH}{n s:Nat}{o:AO}{op:ROp}
def jE{P:RP}{b:Nat}:∀{l:List ROper}{ts:Tm}{h:AH}{K K':Tm->AH->Prop},pT P b l ts h K->(∀ts h,K ts h->K' ts h)->pT P b l ts h K'
 |[],_,_,_,_,hw,hk=>hk _ _ hw
 |o::l,ts,h,K,K',hw,hk=>by
   unfold pT at hw |-;split at hw
   .unfold wop at hw |-;split at hw
    .exact hw.mono λv h' q=>⟨jE q.1 hk,q.2⟩
    .rcases hw with⟨f,caps,hx,hc⟩|⟨b,hx,hc⟩
     .exact .inl ⟨f,caps,hx,hc.mono λv h' q=>⟨jE q.1 hk,q.2⟩⟩
     .exact .inr ⟨b,hx,hc.mono λv h' q=>⟨jE q.1 hk,q.2⟩⟩
    .obtain⟨as,h1,h2⟩:=hw;exact⟨as,h1,λv h' hm=>⟨jE (h2 v h' hm).1 hk,(h2 v h' hm).2⟩⟩
    .obtain⟨v,h',he,q⟩:=hw;exact⟨v,h',he,jE q.1 hk,q.2⟩
   .exact jE hw hk
   .exact hw
def vn{Kn Kn' Kr Kr':Tm->AH->Prop}{Kx Kx':Nat->Tm->AH->Prop}(h1:∀ts h,Kn ts h->Kn' ts h)(h2:∀ts h,Kr ts h->Kr' ts h)(h3:∀i ts h,Kx i ts h->Kx' i ts h):∀r,fin Kn Kr Kx r->fin Kn' Kr' Kx' r
 |.norm _ _,q=>h1 _ _ q
 |.exit _ _ _,q=>h3 _ _ _ q
 |.ret _ _,q=>h2 _ _ q
 |.val _ _,q=>q
def kO{P:RP}:∀(c:RC) {ts:Tm}{h:AH}{Kn Kn' Kr Kr':Tm->AH->Prop}{Kx Kx':Nat->Tm->AH->Prop},W P c ts h Kn Kr Kx->(∀ts h,Kn ts h->Kn' ts h)->(∀ts h,Kr ts h->Kr' ts h)->(∀i ts h,Kx i ts h->Kx' i ts h)->W P c ts h Kn' Kr' Kx'
 |.skip,_,_,_,_,_,_,_,_,hw,h1,_,_=>h1 _ _ hw
 |.reg _,_,_,_,_,_,_,_,_,hw,h1,_,_=>jE hw h1
 |.regD _ _ _,_,_,_,_,_,_,_,_,hw,h1,h2,h3=>BS.mono hw (vn h1 h2 h3)
 |.regK _ _,_,_,_,_,_,_,_,_,hw,h1,_,_=>jE hw h1
 |.rangeF _ _ _ _ _ _,_,_,_,_,_,_,_,_,hw,h1,h2,h3=>BS.mono hw (vn h1 h2 h3)
 |.seq a b,_,_,_,_,_,_,_,_,hw,h1,h2,h3=>kO a hw (λ_ _ q=>kO b q h1 h2 h3) h2 h3
 |.cond _ a b,_,_,_,_,_,_,_,_,hw,h1,h2,h3=>by
   rcases hw with⟨x,y⟩|⟨x,y⟩
   .exact .inl ⟨x,kO a y h1 h2 h3⟩
   .exact .inr ⟨x,kO b y h1 h2 h3⟩
 |.block _ c,_,_,_,_,_,_,_,_,hw,h1,h2,h3=>kO c hw h1 h2 λi ts h q=>⟨λe=>h1 _ _ (q.1 e),λe=>h3 _ _ _ (q.2 e)⟩
 |.loop _,_,_,_,_,_,_,_,_,hw,h1,h2,h3=>BS.mono hw (vn h1 h2 h3)
 |.exit _,_,_,_,_,_,_,_,_,hw,_,_,h3=>h3 _ _ _ hw
 |.ret,_,_,_,_,_,_,_,_,hw,_,h2,_=>h2 _ _ hw
 |.bad,_,_,_,_,_,_,_,_,hw,_,_,_=>hw.elim
def qj{P:RP}{c:RC}{ts:Tm}{h:AH}{Kn Kr:Tm->AH->Prop}{Kx:Nat->Tm->AH->Prop}(Q:Tm->AH->Prop)(hw:W P c ts h Q Kr Kx)(hk:∀ts h,Q ts h->Kn ts h):W P c ts h Kn Kr Kx:=kO c hw hk (λ_ _ q=>q) (λ_ _ _ q=>q)
structure Upd(h h':AH)(s:Nat)(o:AO):Prop where
 nx:h'.next=h.next
 gt:∀c,h'.get c=if c=s then some o else h.get c
 ty:∀c,h'.tyOf c=h.tyOf c
def Upd.put{h:AH}{s:Nat}{o1 o:AO}(hg:h.get s=some o1):Upd h (h.put s o) s o:=⟨rfl,λc=>by
 rw[AH.get_put _ _ _ _ (AH.lt_of_get hg)];by_cases e:s=c
 .subst e;simp
 .simp[e,Ne.symm e],λ_=>rfl⟩
def Upd.refl{h:AH}{s:Nat}{o:AO}(hg:h.get s=some o):Upd h h s o:=⟨rfl,λc=>by
 by_cases e:c=s
 .subst e;simp[hg]
 .simp[e],λ_=>rfl⟩
def Upd.trans{h h1 h2:AH}{s:Nat}{o1 o2:AO}(a:Upd h h1 s o1)(b:Upd h1 h2 s o2):Upd h h2 s o2:=⟨b.1.trans a.1,λc=>by
 rw[b.2,a.2];by_cases e:c=s<;>simp[e],λc=>(b.ty c).trans (a.ty c)⟩
def Upd.get{h h':AH}{s:Nat}{o:AO}(a:Upd h h' s o):h'.get s=some o:=by rw[a.2];simp
def Upd.ne{h:AH}{c:Nat}(a:Upd h h' s o)(e:c≠s):h'.get c=h.get c:=by rw[a.2];simp[e]
structure Ext(n:Nat)(h h':AH):Prop where
 nx:h.next<=h'.next
 gt:∀c,c<n->h'.get c=h.get c
 ty:∀c,c<n->h'.tyOf c=h.tyOf c
def Ext.refl{n:Nat}{h:AH}:Ext n h h:=⟨ab _,λ_ _=>rfl,λ_ _=>rfl⟩
def Ext.trans{n:Nat}{h h1 h2:AH}(a:Ext n h h1)(b:Ext n h1 h2):Ext n h h2:=⟨cu a.1 b.1,λc hc=>by rw[b.2 c hc,a.2 c hc],λc hc=>(b.ty c hc).trans (a.ty c hc)⟩
def Ext.new{n:Nat}{h:AH}{o:AO}(hn:n<=h.next):Ext n h (h.new o):=⟨by simp,λc hc=>by rw[AH.get_new,if_neg om],λ_ _=>rfl⟩
def Ext.put{n:Nat}{h:AH}{s:Nat}{o:AO}(hs:n<=s):Ext n h (h.put s o):=⟨by simp,λc hc=>by
 unfold AH.get AH.put;simp only[T.get_set,iM];have e:¬s=c:=om;simp[e],λ_ _=>rfl⟩
def Upd.ext{h:AH}(a:Upd h h' s o)(hs:n<=s):Ext n h h':=⟨by rw[a.1];exact ab _,λc hc=>a.ne om,λc _=>a.ty c⟩
def Ext.mono{m:Nat}{h:AH}(a:Ext n h h')(hm:m<=n):Ext m h h':=⟨a.1,λc hc=>a.2 c om,λc hc=>a.ty c om⟩
def oN{b:Nat}{o:ROper}{ts:Tm}{h:AH}:stp b o (some (ts,h))=ckR o.cs (Ci ts o.dst (gd (wanted ts o.guard) (evN b (RO.ev ts) h o) h)):=rfl
def ul{b:Nat}{s:Option (Tm×AH)}:lF b [] s=s:=rfl
def sy{b:Nat}{o:ROper}{l:List ROper}{s:Option (Tm×AH)}:lF b (o::l) s=lF b l (stp b o s):=rfl
def zd{s:Option (Tm×AH)}:ckR [] s=s:=rfl
def JH{c:Nat×ROp×Option (Nat×Bool)}{r:List (Nat×ROp×Option (Nat×Bool))}{ts:Tm}{h:AH}:ckR (c::r) (some (ts,h))=if gZ ts h (c::r)=true then some (ts,h)else none:=rfl
def vw{b:Nat}{ev:RO->AV}{h:AH}{d:Option Nat}{op:ROp}{g:Option (Nat×Bool)}{cs:List (Nat×ROp×Option (Nat×Bool))}:evN b ev h ⟨d,op,g,none,cs⟩=aL ev h op:=rfl
def eA{b j:Nat}{h:AH}{d:Option Nat}{g:Option (Nat×Bool)}{cs:List (Nat×ROp×Option (Nat×Bool))}:evN b ev h ⟨d,op,g,some j,cs⟩=iV ev h (b+j) op:=rfl
def lU{h:AH}(hg:h.get n=some .resv):iV ev h n op=match lay ev h op with
 |some (f,o,tg)=>some (f n,h.putG n o tg)
 |none=>none:=by simp only[iV,hg];cases lay ev h op<;>rfl
def sD{ts:Tm}{d:Option Nat}{v:AV}{h:AH}:Ci ts d (some (v,h))=some (dH ts d v,h):=rfl
def yQ{x:Option (AV×AH)}{h:AH}:gd (some true) x h=x:=rfl
def Je{x:Option (AV×AH)}{h:AH}:gd (some false) x h=some (.un,h):=rfl
def oK{ts:Tm}:wanted ts none=some true:=rfl
def zH{ts:Tm}{n:Nat}{b:Bool}:wanted ts (some (n,b))=match db ts n with
 |.bool c=>some (c==b)
 |.tup []=>some false
 |_=>none:=rfl
def sT{ts:Tm}{n:Nat}{v:AV}:dH ts (some n) v=qV ts n v:=rfl
def FZ{ts:Tm}{v:AV}:dH ts none v=ts:=rfl
def Jk{ts:Tm}{n:Nat}:RO.ev ts (.t n)=db ts n:=rfl
def ev_c{ts:Tm}{v:AV}:RO.ev ts (.c v)=v:=rfl
def HT{ts:Tm}{h:AH}{Q:Tm->AH->Prop}:okR (some (ts,h)) Q=Q ts h:=rfl
def FA{h:AH}{g:Bool}{n b o:Nat}:qf h g n (.ptr b o)=match ai h b o n with
 |some cs=>(qb g cs).map (·,h)
 |none=>none:=rfl
def FV{off b o:Nat}:Bd off (.ptr b o)=some (.ptr b (o+off)):=rfl
def Cu{b o:Nat}:uP (.ptr b o)=some (.ptr b o):=rfl
def mQ{v:AV}:qb false [v]=some v:=rfl
def Fu{cs:List AV}:qb true cs=some (.agg cs):=rfl
def Ck{a b:AV}:Ar (.bool true) a b=some a:=rfl
def Aq{a b:AV}:Ar (.bool false) a b=some b:=rfl
def Ks{b:Bool}:unA .not (.bool b)=some (.bool !b):=rfl
section
variable {e:RE}{k:IntKind}{a b:Int}
def Ep:fq .add e (.int k a) (.int k b)=some (.int k (k.wrap (a+b))):=by simp[fq,fL]
def MG:fq .sub e (.int k a) (.int k b)=some (.int k (k.wrap (a-b))):=by simp[fq,fL]
def MK:fq .mul e (.int k a) (.int k b)=some (.int k (k.wrap (a*b))):=by simp[fq,fL]
def MI:fq .quo e (.int k a) (.int k b)=if b=0 then none else some (.int k (k.wrap (a.tdiv b))):=by simp[fq,fL]
def MH:fq .rem e (.int k a) (.int k b)=if b=0 then none else some (.int k (a.tmod b)):=by simp[fq,fL]
def MP:fq .eql e (.int k a) (.int k b)=some (.bool (decide (a=b))):=by simp only[fq,fL,reduceCtorEq,or_self,if_false,if_true];rfl
def MJ:fq .neq e (.int k a) (.int k b)=some (.bool (!decide (a=b))):=by simp only[fq,fL,reduceCtorEq,or_self,if_false,if_true];rfl
def Eo:fq .lss e (.int k a) (.int k b)=some (.bool (decide (a<b))):=by simp[fq,fL]
def MM:fq .leq e (.int k a) (.int k b)=some (.bool (decide (a<=b))):=by simp[fq,fL]
def MN:fq .gtr e (.int k a) (.int k b)=some (.bool (decide (b<a))):=by simp[fq,fL]
def MO:fq .geq e (.int k a) (.int k b)=some (.bool (decide (b<=a))):=by simp[fq,fL]
def JT:fq .and e (.int k a) (.int k b)=(bits .and k a b).map (.int k):=by simp[fq,fL]
def JR{x y:List UInt8}:fq .add e (.str x) (.str y)=if x.length+y.length<2^62 then some (.str (x++y))else none:=rfl
def JQ{x y:List UInt8}:fq .eql e (.str x) (.str y)=some (.bool (x==y)):=rfl
def JS{x y:Bool}:fq .eql .bl (.bool x) (.bool y)=some (.bool (x==y)):=rfl
def MQ{ks:List IntKind}{xs ys:List AV}:fq .neq (.flat ks) (.agg xs) (.agg ys)=(fV ks xs ys).map λb=>.bool !b:=by
 simp only[fq,jY,eqF]
end
variable {o:Nat}{p q0 q1 q10 q11 q12 q13 q2 q3 q4 q5 q6 q7 q8 q9:Prop}
def FC{s:List UInt8}:AE (.str s)=some (.int .i64 s.length):=rfl
def Im{b o n c:Nat}:fP (.sl b o n c)=some (.int .i64 n):=rfl
def uW:fP .nils=some (.int .i64 0):=rfl
def Ju{k k':IntKind}{n:Int}:Jv k (.int k' n)=some (.int k (k.wrap n)):=rfl
def Jw{h:AH}{b o n c:Nat}:vJ h (.sl b o n c)=match ai h b o n with
 |some cs=>(ll cs).map .str
 |none=>none:=rfl
def CO{h:AH}:vJ h .nils=some (.str []):=rfl
def vg{e b o n c:Nat}{k:IntKind}{i:Int}:jZ e (.sl b o n c) (.int k i)=(fe i n).map λi=>.ptr b (o+i*e):=rfl
def FM{s:List UInt8}{k:IntKind}{i:Int}:xt (.str s) (.int k i)=if 0<=i then(s[i.toNat]?).map λc=>.int .u8 c.toNat else none:=rfl
def Ji{vs:List AV}{i:Nat}:Jj (.tup vs) i=vs[i]?:=rfl
def BT{h:AH}{n b o:Nat}{v:AV}:my h n (.ptr b o) v=if v.cells.length=n/\v.cells.all AV.one then(bP h b o v.cells).map λh'=>(.un,h')else none:=rfl
def aR{h:AH}{b n e:Nat}{cs:List AV}{ro:Bool}(hg:h.get b=some (.cells cs e ro)):ai h b o n=if o+n<=cs.length then some ((cs.drop o).take n)else none:=by simp[ai,hg]
def dw{h:AH}{b e:Nat}{vs cs:List AV}(hg:h.get b=some (.cells cs e false)):bP h b o vs=if o+vs.length<=cs.length then some (h.put b (.cells (dG cs o vs) e false))else none:=by simp[bP,hg]
def Fh{z:List AV}:cq z 0=[]:=rfl
def Ah{z:List AV}:cq z 1=z:=by simp[cq]
def mx2{k:IntKind}{x y:Int}:lR mxA [.int k x,.int k y]=some (.int k (if x<y then y else x)):=by simp[lR,mxA]
def Gq{k:IntKind}{n:Int}:AV.cells (.int k n)=[.int k n]:=rfl
def DP{k:IntKind}{n:Int}:AV.one (.int k n)=true:=rfl
def Da{b:Bool}:AV.cells (.bool b)=[.bool b]:=rfl
def HP{b:Bool}:AV.one (.bool b)=true:=rfl
def Gn{s:List UInt8}:AV.cells (.str s)=[.str s]:=rfl
def Lz{s:List UInt8}:AV.one (.str s)=true:=rfl
def Gp{b o:Nat}:AV.cells (.ptr b o)=[.ptr b o]:=rfl
def LA{b o:Nat}:AV.one (.ptr b o)=true:=rfl
def CW:AV.cells (.nilp)=[.nilp]:=rfl
def HL:AV.one (.nilp)=true:=rfl
def JJ{b o n c:Nat}:AV.cells (.sl b o n c)=[.sl b o n c]:=rfl
def NA{b o n c:Nat}:AV.one (.sl b o n c)=true:=rfl
def CV:AV.cells (.nils)=[.nils]:=rfl
def HK:AV.one (.nils)=true:=rfl
def JL{b:Nat}:AV.cells (.mp b)=[.mp b]:=rfl
def NB{b:Nat}:AV.one (.mp b)=true:=rfl
def CX:AV.cells (.nilm)=[.nilm]:=rfl
def HM:AV.one (.nilm)=true:=rfl
def JM{f:FuncId}{cs:List AV}:AV.cells (.fn f cs)=[.fn f cs]:=rfl
def NC{f:FuncId}{cs:List AV}:AV.one (.fn f cs)=true:=rfl
def CZ:AV.cells (.nilf)=[.nilf]:=rfl
def HO:AV.one (.nilf)=true:=rfl
def Gs{t:TypeId}{v:AV}:AV.cells (.ifc t v)=[.ifc t v]:=rfl
def LB{t:TypeId}{v:AV}:AV.one (.ifc t v)=true:=rfl
def CY:AV.cells (.nili)=[.nili]:=rfl
def HN:AV.one (.nili)=true:=rfl
def xS{cs:List AV}:AV.cells (.agg cs)=cs:=rfl
def Bu{ts:Tm}{h:AH}:gZ ts h []=true:=rfl
def Gk{ts:Tm}{h:AH}{c:Nat×ROp×Option (Nat×Bool)}{r:List (Nat×ROp×Option (Nat×Bool))}:gZ ts h (c::r)=(sY ts h c&&gZ ts h r):=rfl
def Gl{ts:Tm}{h:AH}{d:Nat}{op:ROp}:sY ts h (d,op,none)=match aL (RO.ev ts) h op with
 |some (v,_)=>AV.same v (db ts d)
 |none=>false:=rfl
def sA:AV.same .nils .nils=true:=rfl
def ES:AV.same .nilp .nilp=true:=rfl
def ET:AV.same .nilm .nilm=true:=rfl
def Hw{k:IntKind}{a:Int}:AV.same (.int k a) (.int k a)=true:=by
 show(k==k&&a==a)=true;simp
def EU{a:Bool}:AV.same (.bool a) (.bool a)=true:=by
 show(a==a)=true;simp
def Hu{a:List UInt8}:AV.same (.str a) (.str a)=true:=by
 show(a==a)=true;simp
def Hv{a b:Nat}:AV.same (.ptr a b) (.ptr a b)=true:=by
 show(a==a&&b==b)=true;simp
def Lj{a:Nat}:AV.same (.mp a) (.mp a)=true:=by
 show(a==a)=true;simp
def lf{a b c d:Nat}:AV.same (.sl a b c d) (.sl a b c d)=true:=by
 show(a==a&&b==b&&c==c&&d==d)=true;simp
@[reducible] def mv (d x:Nat):ROper:=⟨some d,.mov (.t x),none,none,[]⟩
@[reducible] def mi (d:Nat) (n:Int):ROper:=⟨some d,.mov (.c (.int .i64 n)),none,none,[]⟩
@[reducible] def mn (d:Nat):ROper:=⟨some d,.mov (.c .nils),none,none,[]⟩
@[reducible] def mb (d:Nat) (b:Bool):ROper:=⟨some d,.mov (.c (.bool b)),none,none,[]⟩
@[reducible] def ld (d x:Nat):ROper:=⟨some d,.load false 1 (.t x),none,none,[]⟩
@[reducible] def la (d n x:Nat):ROper:=⟨some d,.load true n (.t x),none,none,[]⟩
@[reducible] def fa (d o x:Nat):ROper:=⟨some d,.fadr o (.t x),none,none,[]⟩
@[reducible] def nk (d x:Nat):ROper:=⟨some d,.nilck (.t x),none,none,[]⟩
@[reducible] def ia (d e x i:Nat):ROper:=⟨some d,.iadr e (.t x) (.t i),none,none,[]⟩
@[reducible] def le (d x:Nat):ROper:=⟨some d,.lenL (.t x),none,none,[]⟩
@[reducible] def bn (d:Nat) (o:BinOp) (x y:Nat):ROper:=⟨some d,.bin o .no (.t x) (.t y),none,none,[]⟩
@[reducible] def bc (d:Nat) (o:BinOp) (x:Nat) (n:Int):ROper:=⟨some d,.bin o .no (.t x) (.c (.int .i64 n)),none,none,[]⟩
@[reducible] def nt (d x:Nat):ROper:=⟨some d,.un .not (.t x),none,none,[]⟩
@[reducible] def ex (d x i:Nat):ROper:=⟨some d,.ext (.t x) i,none,none,[]⟩
@[reducible] def so (a v:Nat):ROper:=⟨none,.store 1 (.t a) (.t v),none,none,[]⟩
@[reducible] def o1 (d:Nat) (op:ROp):ROper:=⟨some d,op,none,none,[]⟩
@[reducible] def o0 (op:ROp):ROper:=⟨none,op,none,none,[]⟩
@[reducible] def og (d:Nat) (op:ROp) (n:Nat) (b:Bool):ROper:=⟨some d,op,some (n,b),none,[]⟩
@[reducible] def ci (n:Int):RO:=.c (.int .i64 n)
@[reducible] def cC (d f:Nat) (ts:List Nat):ROper:=⟨some d,.call f (ts.map RO.t),none,none,[]⟩
@[reducible] def kS (r:List ROper) (x:RC):RC:=.seq (.reg r) x
@[reducible] def kT (t:Nat) (a b:RC):RC:=.cond (.t t) a b
@[reducible] def kF (B i n c j B1:Nat) (x:RC):RC:=.block B (.loop (.seq (.reg [bn c .lss i n]) (.seq (.cond (.t c) .skip (.exit B)) (.seq (.block B1 x) (.reg [bc j .add i 1,mv i j])))))
@[reducible] def kW (B c B1:Nat) (T inc:List ROper) (x:RC):RC:=.block B (.loop (.seq (.seq (.reg T) (.cond (.t c) .skip (.exit B))) (.seq (.block B1 x) (.reg inc))))
def mv_eq{d x:Nat}:mv d x=⟨some d,.mov (.t x),none,none,[]⟩:=rfl
def cC_eq{d f:Nat}{ts:List Nat}:cC d f ts=⟨some d,.call f (ts.map RO.t),none,none,[]⟩:=rfl
def mi_eq{d:Nat}{n:Int}:mi d n=⟨some d,.mov (.c (.int .i64 n)),none,none,[]⟩:=rfl
def mn_eq{d:Nat}:mn d=⟨some d,.mov (.c .nils),none,none,[]⟩:=rfl
def mb_eq{d:Nat}{b:Bool}:mb d b=⟨some d,.mov (.c (.bool b)),none,none,[]⟩:=rfl
def ld_eq{d x:Nat}:ld d x=⟨some d,.load false 1 (.t x),none,none,[]⟩:=rfl
def la_eq{d n x:Nat}:la d n x=⟨some d,.load true n (.t x),none,none,[]⟩:=rfl
def fa_eq{d o x:Nat}:fa d o x=⟨some d,.fadr o (.t x),none,none,[]⟩:=rfl
def nk_eq{d x:Nat}:nk d x=⟨some d,.nilck (.t x),none,none,[]⟩:=rfl
def ia_eq{d e x i:Nat}:ia d e x i=⟨some d,.iadr e (.t x) (.t i),none,none,[]⟩:=rfl
def le_eq{d x:Nat}:le d x=⟨some d,.lenL (.t x),none,none,[]⟩:=rfl
def bn_eq{d:Nat}{o:BinOp}{x y:Nat}:bn d o x y=⟨some d,.bin o .no (.t x) (.t y),none,none,[]⟩:=rfl
def bc_eq{d:Nat}{o:BinOp}{x:Nat}{n:Int}:bc d o x n=⟨some d,.bin o .no (.t x) (.c (.int .i64 n)),none,none,[]⟩:=rfl
def nt_eq{d x:Nat}:nt d x=⟨some d,.un .not (.t x),none,none,[]⟩:=rfl
def ex_eq{d x i:Nat}:ex d x i=⟨some d,.ext (.t x) i,none,none,[]⟩:=rfl
def so_eq{a v:Nat}:so a v=⟨none,.store 1 (.t a) (.t v),none,none,[]⟩:=rfl
def o1_eq{d:Nat}{op:ROp}:o1 d op=⟨some d,op,none,none,[]⟩:=rfl
def o0_eq{op:ROp}:o0 op=⟨none,op,none,none,[]⟩:=rfl
def og_eq{d:Nat}{op:ROp}{n:Nat}{b:Bool}:og d op n b=⟨some d,op,some (n,b),none,[]⟩:=rfl
def ci_eq{n:Int}:ci n=.c (.int .i64 n):=rfl
def Jh{ev:RO->AV}{cs:List AV}:fill ev cs []=some cs:=rfl
def FU{ev:RO->AV}{cs:List AV}{off n:Nat}{x:RO}{r:List (Nat×Nat×RO)}:fill ev cs ((off,n,x)::r)=if (ev x).cells.length=n/\off+n<=cs.length then fill ev (dG cs off (ev x).cells) r else none:=rfl
def MC{h:AH}{e n:Nat}{x:AV}:Gy h e n x=if x.cells.length=n then some (.ptr h.next 0,h.new (.cells x.cells e false))else none:=rfl
def EF{cs:List AV}{o:Nat}{vs:List AV}:dG cs o vs=cs.take o++vs++cs.drop (o+vs.length):=rfl
def un_eq:AV.un=.tup []:=rfl
def Cd{f:RF}{ts:Tm}{h:AH}:results f ts h=match jj ts h f.results with
 |some [v]=>some v
 |some vs=>some (.tup vs)
 |none=>none:=rfl
def Fj{ts:Tm}{h:AH}:jj ts h []=some []:=rfl
def Cf{ts:Tm}{h:AH}{r:RR}{rs:List RR}:jj ts h (r::rs)=match kZ ts h r,jj ts h rs with
 |some v,some vs=>some (v::vs)
 |_,_=>none:=rfl
def Lr{ts:Tm}{h:AH}{n:Nat}:kZ ts h (.t n)=some (db ts n):=rfl
def Ce{ts:Tm}{h:AH}{t n:Nat}{ag:Bool}:kZ ts h (.cell t ag n)=match db ts t with
 |.ptr b o=>match ai h b o n with
   |some cs=>qb ag cs
   |none=>none
 |_=>none:=rfl
set_option maxRecDepth 10000 in
def am:=And.intro @cC_eq (And.intro @mv_eq (And.intro @mi_eq (And.intro @mn_eq (And.intro @mb_eq (And.intro @ld_eq (And.intro @la_eq (And.intro @fa_eq (And.intro @nk_eq (And.intro @ia_eq (And.intro @le_eq (And.intro @bn_eq (And.intro @bc_eq (And.intro @nt_eq (And.intro @ex_eq (And.intro @so_eq (And.intro @o1_eq (And.intro @o0_eq (And.intro @og_eq (And.intro @ci_eq (And.intro @Jh (And.intro @FU (And.intro @MC (And.intro @EF (And.intro @un_eq (And.intro @JH (And.intro @Bu (And.intro @Gk (And.intro @Gl (And.intro @sA (And.intro @ES (And.intro @ET (And.intro @Hw (And.intro @EU (And.intro @Hu (And.intro @Hv (And.intro @Lj (And.intro @lf (And.intro @zd (And.intro @vw (And.intro @ul (And.intro @sy (And.intro @oN (And.intro @sD (And.intro @yQ (And.intro @Je (And.intro @oK (And.intro @zH (And.intro @sT (And.intro @FZ (And.intro @Jk (And.intro @ev_c (And.intro @HT (And.intro @fD (And.intro @FA (And.intro @FV (And.intro @Cu (And.intro @mQ (And.intro @Fu (And.intro @Ck (And.intro @Aq (And.intro @Ks (And.intro @Ep (And.intro @MG (And.intro @MK (And.intro @MI (And.intro @MH (And.intro @MP (And.intro @MJ (And.intro @Eo (And.intro @MM (And.intro @MN (And.intro @MO (And.intro @JT (And.intro @JR (And.intro @JQ (And.intro @JS (And.intro @MQ (And.intro @FC (And.intro @Im (And.intro @uW (And.intro @Ju (And.intro @Jw (And.intro @CO (And.intro @vg (And.intro @FM (And.intro @Ji (And.intro @BT (And.intro @aQ.{0,0} (And.intro @beq_true (And.intro @beq_false (And.intro @dp (And.intro @fI (And.intro @bN (And.intro @eB (And.intro @bD.{0} (And.intro @cJ.{0} (And.intro @true_and (And.intro @and_true (And.intro @bO.{0,0} (And.intro @GF.{0,0} (And.intro @Gq (And.intro @DP (And.intro @Da (And.intro @HP (And.intro @Gn (And.intro @Lz (And.intro @Gp (And.intro @LA (And.intro @CW (And.intro @HL (And.intro @JJ (And.intro @NA (And.intro @CV (And.intro @HK (And.intro @JL (And.intro @NB (And.intro @CX (And.intro @HM (And.intro @JM (And.intro @NC (And.intro @CZ (And.intro @HO (And.intro @Gs (And.intro @LB (And.intro @CY (And.intro @HN (And.intro @xS (And.intro @bd.{0} (And.intro @bm.{0} (And.intro @gQ.{0} (And.intro @vW.{0} (And.intro @eH.{0} (And.intro @eD.{0} (And.intro @List.drop_succ_cons.{0} (And.intro @df.{0} (And.intro @bX.{0} (And.intro @cr.{0} (And.intro @Bool.and_true (And.intro @AH.next_new (And.intro @AH.next_put (And.intro @and_self (And.intro @Ah (@Fh)))))))))))))))))))))))))))))))))))))))))))))))))))))))))))))))))))))))))))))))))))))))))))))))))))))))))))))))))))))))))))))))))))))))))))))))
def rs:=And.intro @Cd (And.intro @Fj (And.intro @Cf (And.intro @Lr @Ce)))
def I0(h:p:=by simp only[am,aL,↓reduceIte,Nat.reduceEqDiff,Int.reduceEq,Nat.reduceAdd,Nat.reduceLeDiff,reduceCtorEq]):p:=h
def I1(f0:q0)(h:q0->p:=by intro f0;simp only[am,aL,↓reduceIte,Nat.reduceEqDiff,Int.reduceEq,Nat.reduceAdd,Nat.reduceLeDiff,reduceCtorEq,f0]):p:=h f0
def Ii0(h:p:=by simp only[am,aL,↓reduceIte,Nat.reduceEqDiff,Int.reduceEq,Nat.reduceAdd,Nat.reduceLeDiff,reduceCtorEq,bV]):p:=h
def Ii1(f0:q0)(h:q0->p:=by intro f0;simp only[am,aL,↓reduceIte,Nat.reduceEqDiff,Int.reduceEq,Nat.reduceAdd,Nat.reduceLeDiff,reduceCtorEq,bV,f0]):p:=h f0
def Ii4(f0:q0)(f1:q1)(f2:q2)(f3:q3)(h:q0->q1->q2->q3->p:=by intro f0 f1 f2 f3;simp only[am,aL,↓reduceIte,Nat.reduceEqDiff,Int.reduceEq,Nat.reduceAdd,Nat.reduceLeDiff,reduceCtorEq,bV,f0,f1,f2,f3]):p:=h f0 f1 f2 f3
def J0(h:p:=by simp only[am,aL,↓reduceIte,Nat.reduceEqDiff,Int.reduceEq,Nat.reduceAdd,Nat.reduceLeDiff,reduceCtorEq]<;>rfl):p:=h
def J1(f0:q0)(h:q0->p:=by intro f0;simp only[am,aL,↓reduceIte,Nat.reduceEqDiff,Int.reduceEq,Nat.reduceAdd,Nat.reduceLeDiff,reduceCtorEq,f0]<;>rfl):p:=h f0
def J2(f0:q0)(f1:q1)(h:q0->q1->p:=by intro f0 f1;simp only[am,aL,↓reduceIte,Nat.reduceEqDiff,Int.reduceEq,Nat.reduceAdd,Nat.reduceLeDiff,reduceCtorEq,f0,f1]<;>rfl):p:=h f0 f1
def J3(f0:q0)(f1:q1)(f2:q2)(h:q0->q1->q2->p:=by intro f0 f1 f2;simp only[am,aL,↓reduceIte,Nat.reduceEqDiff,Int.reduceEq,Nat.reduceAdd,Nat.reduceLeDiff,reduceCtorEq,f0,f1,f2]<;>rfl):p:=h f0 f1 f2
def J4(f0:q0)(f1:q1)(f2:q2)(f3:q3)(h:q0->q1->q2->q3->p:=by intro f0 f1 f2 f3;simp only[am,aL,↓reduceIte,Nat.reduceEqDiff,Int.reduceEq,Nat.reduceAdd,Nat.reduceLeDiff,reduceCtorEq,f0,f1,f2,f3]<;>rfl):p:=h f0 f1 f2 f3
def J5(f0:q0)(f1:q1)(f2:q2)(f3:q3)(f4:q4)(h:q0->q1->q2->q3->q4->p:=by intro f0 f1 f2 f3 f4;simp only[am,aL,↓reduceIte,Nat.reduceEqDiff,Int.reduceEq,Nat.reduceAdd,Nat.reduceLeDiff,reduceCtorEq,f0,f1,f2,f3,f4]<;>rfl):p:=h f0 f1 f2 f3 f4
def J6(f0:q0)(f1:q1)(f2:q2)(f3:q3)(f4:q4)(f5:q5)(h:q0->q1->q2->q3->q4->q5->p:=by intro f0 f1 f2 f3 f4 f5;simp only[am,aL,↓reduceIte,Nat.reduceEqDiff,Int.reduceEq,Nat.reduceAdd,Nat.reduceLeDiff,reduceCtorEq,f0,f1,f2,f3,f4,f5]<;>rfl):p:=h f0 f1 f2 f3 f4 f5
def J8(f0:q0)(f1:q1)(f2:q2)(f3:q3)(f4:q4)(f5:q5)(f6:q6)(f7:q7)(h:q0->q1->q2->q3->q4->q5->q6->q7->p:=by intro f0 f1 f2 f3 f4 f5 f6 f7;simp only[am,aL,↓reduceIte,Nat.reduceEqDiff,Int.reduceEq,Nat.reduceAdd,Nat.reduceLeDiff,reduceCtorEq,f0,f1,f2,f3,f4,f5,f6,f7]<;>rfl):p:=h f0 f1 f2 f3 f4 f5 f6 f7
def J10(f0:q0)(f1:q1)(f2:q2)(f3:q3)(f4:q4)(f5:q5)(f6:q6)(f7:q7)(f8:q8)(f9:q9)(h:q0->q1->q2->q3->q4->q5->q6->q7->q8->q9->p:=by intro f0 f1 f2 f3 f4 f5 f6 f7 f8 f9;simp only[am,aL,↓reduceIte,Nat.reduceEqDiff,Int.reduceEq,Nat.reduceAdd,Nat.reduceLeDiff,reduceCtorEq,f0,f1,f2,f3,f4,f5,f6,f7,f8,f9]<;>rfl):p:=h f0 f1 f2 f3 f4 f5 f6 f7 f8 f9
def Ji0(h:p:=by simp only[am,aL,↓reduceIte,Nat.reduceEqDiff,Int.reduceEq,Nat.reduceAdd,Nat.reduceLeDiff,reduceCtorEq,bV]<;>rfl):p:=h
def Ji1(f0:q0)(h:q0->p:=by intro f0;simp only[am,aL,↓reduceIte,Nat.reduceEqDiff,Int.reduceEq,Nat.reduceAdd,Nat.reduceLeDiff,reduceCtorEq,bV,f0]<;>rfl):p:=h f0
def Ji3(f0:q0)(f1:q1)(f2:q2)(h:q0->q1->q2->p:=by intro f0 f1 f2;simp only[am,aL,↓reduceIte,Nat.reduceEqDiff,Int.reduceEq,Nat.reduceAdd,Nat.reduceLeDiff,reduceCtorEq,bV,f0,f1,f2]<;>rfl):p:=h f0 f1 f2
def Ji4(f0:q0)(f1:q1)(f2:q2)(f3:q3)(h:q0->q1->q2->q3->p:=by intro f0 f1 f2 f3;simp only[am,aL,↓reduceIte,Nat.reduceEqDiff,Int.reduceEq,Nat.reduceAdd,Nat.reduceLeDiff,reduceCtorEq,bV,f0,f1,f2,f3]<;>rfl):p:=h f0 f1 f2 f3
def M0(h:p:=by simp only[am,aL,simprocAttr]<;>rfl):p:=h
def M1(f0:q0)(h:q0->p:=by intro f0;simp only[am,aL,simprocAttr,f0]<;>rfl):p:=h f0
def M2(f0:q0)(f1:q1)(h:q0->q1->p:=by intro f0 f1;simp only[am,aL,simprocAttr,f0,f1]<;>rfl):p:=h f0 f1
def M3(f0:q0)(f1:q1)(f2:q2)(h:q0->q1->q2->p:=by intro f0 f1 f2;simp only[am,aL,simprocAttr,f0,f1,f2]<;>rfl):p:=h f0 f1 f2
def M4(f0:q0)(f1:q1)(f2:q2)(f3:q3)(h:q0->q1->q2->q3->p:=by intro f0 f1 f2 f3;simp only[am,aL,simprocAttr,f0,f1,f2,f3]<;>rfl):p:=h f0 f1 f2 f3
def M5(f0:q0)(f1:q1)(f2:q2)(f3:q3)(f4:q4)(h:q0->q1->q2->q3->q4->p:=by intro f0 f1 f2 f3 f4;simp only[am,aL,simprocAttr,f0,f1,f2,f3,f4]<;>rfl):p:=h f0 f1 f2 f3 f4
def M6(f0:q0)(f1:q1)(f2:q2)(f3:q3)(f4:q4)(f5:q5)(h:q0->q1->q2->q3->q4->q5->p:=by intro f0 f1 f2 f3 f4 f5;simp only[am,aL,simprocAttr,f0,f1,f2,f3,f4,f5]<;>rfl):p:=h f0 f1 f2 f3 f4 f5
def M7(f0:q0)(f1:q1)(f2:q2)(f3:q3)(f4:q4)(f5:q5)(f6:q6)(h:q0->q1->q2->q3->q4->q5->q6->p:=by intro f0 f1 f2 f3 f4 f5 f6;simp only[am,aL,simprocAttr,f0,f1,f2,f3,f4,f5,f6]<;>rfl):p:=h f0 f1 f2 f3 f4 f5 f6
def M8(f0:q0)(f1:q1)(f2:q2)(f3:q3)(f4:q4)(f5:q5)(f6:q6)(f7:q7)(h:q0->q1->q2->q3->q4->q5->q6->q7->p:=by intro f0 f1 f2 f3 f4 f5 f6 f7;simp only[am,aL,simprocAttr,f0,f1,f2,f3,f4,f5,f6,f7]<;>rfl):p:=h f0 f1 f2 f3 f4 f5 f6 f7
def M10(f0:q0)(f1:q1)(f2:q2)(f3:q3)(f4:q4)(f5:q5)(f6:q6)(f7:q7)(f8:q8)(f9:q9)(h:q0->q1->q2->q3->q4->q5->q6->q7->q8->q9->p:=by intro f0 f1 f2 f3 f4 f5 f6 f7 f8 f9;simp only[am,aL,simprocAttr,f0,f1,f2,f3,f4,f5,f6,f7,f8,f9]<;>rfl):p:=h f0 f1 f2 f3 f4 f5 f6 f7 f8 f9
def M12(f0:q0)(f1:q1)(f2:q2)(f3:q3)(f4:q4)(f5:q5)(f6:q6)(f7:q7)(f8:q8)(f9:q9)(f10:q10)(f11:q11)(h:q0->q1->q2->q3->q4->q5->q6->q7->q8->q9->q10->q11->p:=by intro f0 f1 f2 f3 f4 f5 f6 f7 f8 f9 f10 f11;simp only[am,aL,simprocAttr,f0,f1,f2,f3,f4,f5,f6,f7,f8,f9,f10,f11]<;>rfl):p:=h f0 f1 f2 f3 f4 f5 f6 f7 f8 f9 f10 f11
def M14(f0:q0)(f1:q1)(f2:q2)(f3:q3)(f4:q4)(f5:q5)(f6:q6)(f7:q7)(f8:q8)(f9:q9)(f10:q10)(f11:q11)(f12:q12)(f13:q13)(h:q0->q1->q2->q3->q4->q5->q6->q7->q8->q9->q10->q11->q12->q13->p:=by intro f0 f1 f2 f3 f4 f5 f6 f7 f8 f9 f10 f11 f12 f13;simp only[am,aL,simprocAttr,f0,f1,f2,f3,f4,f5,f6,f7,f8,f9,f10,f11,f12,f13]<;>rfl):p:=h f0 f1 f2 f3 f4 f5 f6 f7 f8 f9 f10 f11 f12 f13
def Mi0(h:p:=by simp only[am,aL,simprocAttr,bV]<;>rfl):p:=h
def Mi1(f0:q0)(h:q0->p:=by intro f0;simp only[am,aL,simprocAttr,bV,f0]<;>rfl):p:=h f0
def Mi2(f0:q0)(f1:q1)(h:q0->q1->p:=by intro f0 f1;simp only[am,aL,simprocAttr,bV,f0,f1]<;>rfl):p:=h f0 f1
def Mi3(f0:q0)(f1:q1)(f2:q2)(h:q0->q1->q2->p:=by intro f0 f1 f2;simp only[am,aL,simprocAttr,bV,f0,f1,f2]<;>rfl):p:=h f0 f1 f2
def Mi4(f0:q0)(f1:q1)(f2:q2)(f3:q3)(h:q0->q1->q2->q3->p:=by intro f0 f1 f2 f3;simp only[am,aL,simprocAttr,bV,f0,f1,f2,f3]<;>rfl):p:=h f0 f1 f2 f3
def Mi5(f0:q0)(f1:q1)(f2:q2)(f3:q3)(f4:q4)(h:q0->q1->q2->q3->q4->p:=by intro f0 f1 f2 f3 f4;simp only[am,aL,simprocAttr,bV,f0,f1,f2,f3,f4]<;>rfl):p:=h f0 f1 f2 f3 f4
def Mi6(f0:q0)(f1:q1)(f2:q2)(f3:q3)(f4:q4)(f5:q5)(h:q0->q1->q2->q3->q4->q5->p:=by intro f0 f1 f2 f3 f4 f5;simp only[am,aL,simprocAttr,bV,f0,f1,f2,f3,f4,f5]<;>rfl):p:=h f0 f1 f2 f3 f4 f5
def Mi7(f0:q0)(f1:q1)(f2:q2)(f3:q3)(f4:q4)(f5:q5)(f6:q6)(h:q0->q1->q2->q3->q4->q5->q6->p:=by intro f0 f1 f2 f3 f4 f5 f6;simp only[am,aL,simprocAttr,bV,f0,f1,f2,f3,f4,f5,f6]<;>rfl):p:=h f0 f1 f2 f3 f4 f5 f6
def Mi10(f0:q0)(f1:q1)(f2:q2)(f3:q3)(f4:q4)(f5:q5)(f6:q6)(f7:q7)(f8:q8)(f9:q9)(h:q0->q1->q2->q3->q4->q5->q6->q7->q8->q9->p:=by intro f0 f1 f2 f3 f4 f5 f6 f7 f8 f9;simp only[am,aL,simprocAttr,bV,f0,f1,f2,f3,f4,f5,f6,f7,f8,f9]<;>rfl):p:=h f0 f1 f2 f3 f4 f5 f6 f7 f8 f9
def Z0(h:p:=by simp only[am,aL,simprocAttr]):p:=h
def Z1(f0:q0)(h:q0->p:=by intro f0;simp only[am,aL,simprocAttr,f0]):p:=h f0
def Z2(f0:q0)(f1:q1)(h:q0->q1->p:=by intro f0 f1;simp only[am,aL,simprocAttr,f0,f1]):p:=h f0 f1
def Z3(f0:q0)(f1:q1)(f2:q2)(h:q0->q1->q2->p:=by intro f0 f1 f2;simp only[am,aL,simprocAttr,f0,f1,f2]):p:=h f0 f1 f2
def Z4(f0:q0)(f1:q1)(f2:q2)(f3:q3)(h:q0->q1->q2->q3->p:=by intro f0 f1 f2 f3;simp only[am,aL,simprocAttr,f0,f1,f2,f3]):p:=h f0 f1 f2 f3
def Z5(f0:q0)(f1:q1)(f2:q2)(f3:q3)(f4:q4)(h:q0->q1->q2->q3->q4->p:=by intro f0 f1 f2 f3 f4;simp only[am,aL,simprocAttr,f0,f1,f2,f3,f4]):p:=h f0 f1 f2 f3 f4
def Z6(f0:q0)(f1:q1)(f2:q2)(f3:q3)(f4:q4)(f5:q5)(h:q0->q1->q2->q3->q4->q5->p:=by intro f0 f1 f2 f3 f4 f5;simp only[am,aL,simprocAttr,f0,f1,f2,f3,f4,f5]):p:=h f0 f1 f2 f3 f4 f5
def Z7(f0:q0)(f1:q1)(f2:q2)(f3:q3)(f4:q4)(f5:q5)(f6:q6)(h:q0->q1->q2->q3->q4->q5->q6->p:=by intro f0 f1 f2 f3 f4 f5 f6;simp only[am,aL,simprocAttr,f0,f1,f2,f3,f4,f5,f6]):p:=h f0 f1 f2 f3 f4 f5 f6
def Z8(f0:q0)(f1:q1)(f2:q2)(f3:q3)(f4:q4)(f5:q5)(f6:q6)(f7:q7)(h:q0->q1->q2->q3->q4->q5->q6->q7->p:=by intro f0 f1 f2 f3 f4 f5 f6 f7;simp only[am,aL,simprocAttr,f0,f1,f2,f3,f4,f5,f6,f7]):p:=h f0 f1 f2 f3 f4 f5 f6 f7
def Z14(f0:q0)(f1:q1)(f2:q2)(f3:q3)(f4:q4)(f5:q5)(f6:q6)(f7:q7)(f8:q8)(f9:q9)(f10:q10)(f11:q11)(f12:q12)(f13:q13)(h:q0->q1->q2->q3->q4->q5->q6->q7->q8->q9->q10->q11->q12->q13->p:=by intro f0 f1 f2 f3 f4 f5 f6 f7 f8 f9 f10 f11 f12 f13;simp only[am,aL,simprocAttr,f0,f1,f2,f3,f4,f5,f6,f7,f8,f9,f10,f11,f12,f13]):p:=h f0 f1 f2 f3 f4 f5 f6 f7 f8 f9 f10 f11 f12 f13
def Zi0(h:p:=by simp only[am,aL,simprocAttr,bV]):p:=h
def Zi1(f0:q0)(h:q0->p:=by intro f0;simp only[am,aL,simprocAttr,bV,f0]):p:=h f0
def Zi2(f0:q0)(f1:q1)(h:q0->q1->p:=by intro f0 f1;simp only[am,aL,simprocAttr,bV,f0,f1]):p:=h f0 f1
def Zi3(f0:q0)(f1:q1)(f2:q2)(h:q0->q1->q2->p:=by intro f0 f1 f2;simp only[am,aL,simprocAttr,bV,f0,f1,f2]):p:=h f0 f1 f2
def Zi5(f0:q0)(f1:q1)(f2:q2)(f3:q3)(f4:q4)(h:q0->q1->q2->q3->q4->p:=by intro f0 f1 f2 f3 f4;simp only[am,aL,simprocAttr,bV,f0,f1,f2,f3,f4]):p:=h f0 f1 f2 f3 f4
def Zi6(f0:q0)(f1:q1)(f2:q2)(f3:q3)(f4:q4)(f5:q5)(h:q0->q1->q2->q3->q4->q5->p:=by intro f0 f1 f2 f3 f4 f5;simp only[am,aL,simprocAttr,bV,f0,f1,f2,f3,f4,f5]):p:=h f0 f1 f2 f3 f4 f5
def Oe:=@Ext.new
def Og:=@Ext.put
def Oh:=@Ext.refl
def Oi:=@Upd.put
end Go.Am
