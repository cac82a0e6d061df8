/- Steps of regions, first order -/
import Derived.Test.YtlolkmcdimgplaaGreatVAmW
set_option linter.all false
namespace Go.Am
def gd(w:Option Bool)(x:Option (AV×AH))(h:AH):Option (AV×AH) :=
 match w with
 |some true=>x
 |some false=>some (.un,h)
 |none=>none
def Bi(ts:Tm)(d:Option Nat):Option (AV×AH)->Option (Tm×AH)
 |some (v,h)=>some (eu ts d v,h)
 |none=>none
def ckR(cs:List (Nat×ROp×Option (Nat×Bool)))(s:Option (Tm×AH)):Option (Tm×AH) :=
 match cs with
 |[]=>s
 |c::r=>match s with
   |some (ts,h)=>if ja ts h (c::r)=true then some (ts,h)else none
   |none=>none
theorem IE{cs:List (Nat×ROp×Option (Nat×Bool))}{s:Option (Tm×AH)}{ts:Tm}{h:AH}(he:ckR cs s=some (ts,h)):s=some (ts,h)/\ja ts h cs=true:=by
 unfold ckR at he;split at he
 .exact⟨he,rfl⟩
 .split at he
  .split at he
   .rename_i hc
    simp only[aa,ak]at he;obtain⟨rfl,rfl⟩:=he;exact⟨rfl,hc⟩
   .cases he
  .cases he
def stp(b:Nat)(o:ROper):Option (Tm×AH)->Option (Tm×AH)
 |some (ts,h)=>ckR o.cs (Bi ts o.dst (gd (wanted ts o.guard) (evN b (RO.ev ts) h o) h))
 |none=>none
def G(P:RP)(b:Nat)(l:List ROper)(s:Option (Tm×AH))(K:Tm->AH->Prop):Prop:=∃ts h,s=some (ts,h)/\nT P b l ts h K
theorem DQ{P:RP}{b:Nat}{ts:Tm}{h:AH}{K:AV->AH->Prop}{o:ROper}{v:AV}{h':AH}(he:evN b (RO.ev ts) h o=some (v,h'))(hk:K v h'):wop P b ts h K o:=by
 have hno:o.op.cls≠2->aI (RO.ev ts) h o.op=some (v,h'):=λq=>(yg q he).2;unfold wop;split
 .rename_i ho;rw[ho]at hno;have:=hno (by simp[ROp.cls]);simp[aI]at this
 .rename_i ho;rw[ho]at hno;have:=hno (by simp[ROp.cls]);simp[aI]at this
 .rename_i ho;rw[ho]at hno;have:=hno (by simp[ROp.cls]);simp[aI]at this
 .exact⟨v,h',he,hk⟩
theorem Cw{P:RP}{b:Nat}{o:ROper}{l:List ROper}{s:Option (Tm×AH)}{K:Tm->AH->Prop}(hg:G P b l (stp b o s) K):G P b (o::l) s K:=by
 obtain⟨ts',h',hs,hw⟩:=hg;cases s with
 |none=>cases hs
 |some p =>
   obtain⟨ts,h⟩:=p;refine⟨ts,h,rfl,?_⟩;simp only[stp]at hs;obtain⟨hs,hck⟩:=IE hs;unfold nT;cases hwn:wanted ts o.guard with
   |none=>rw[hwn]at hs;simp[gd,Bi]at hs
   |some t =>
     rw[hwn]at hs;cases t with
     |false =>
       simp only[gd,Bi,aa,ak]at hs;obtain⟨rfl,rfl⟩:=hs;exact hw
     |true =>
       simp only[gd]at hs;cases he:evN b (RO.ev ts) h o with
       |none=>rw[he]at hs;simp[Bi]at hs
       |some q =>
         obtain⟨v,h2⟩:=q;rw[he]at hs;simp only[Bi,aa,ak]at hs;obtain⟨rfl,rfl⟩:=hs;exact DQ he ⟨hw,hck⟩
def lK(b:Nat):List ROper->Option (Tm×AH)->Option (Tm×AH)
 |[],s=>s
 |o::l,s=>lK b l (stp b o s)
theorem sI{P:RP}{b:Nat}:∀{l l':List ROper}{s:Option (Tm×AH)}{K:Tm->AH->Prop},G P b l' (lK b l s) K->G P b (l++l') s K
 |[],_,_,_,h=>h
 |_::_,_,_,_,h=>Cw (sI h)
theorem G.done{P:RP}{b:Nat}{ts:Tm}{h:AH}{K:Tm->AH->Prop}(hk:K ts h):G P b [] (some (ts,h)) K:=⟨ts,h,rfl,hk⟩
section
variable {args:List RO}{f:FuncId}
variable {P:RP}{b:Nat}{d:Option Nat}{g:Option (Nat×Bool)}{nm:Option Nat}{cs:List (Nat×ROp×Option (Nat×Bool))}{l:List ROper}{ts:Tm}{h:AH}{K:Tm->AH->Prop}
theorem G.at{ts:Tm}{h:AH}(hg:G P b l (some (ts,h)) K):nT P b l ts h K:=by
 obtain⟨ts',h'',hs,hw⟩:=hg;simp only[aa,ak]at hs;obtain⟨rfl,rfl⟩:=hs;exact hw
theorem DM{f:FuncId}(hw:wanted ts g=some true)(hc:C P f (args.map (RO.ev ts)) h λv h'=>ja (eu ts d v) h' cs=true/\G P b l (some (eu ts d v,h')) K):G P b (⟨d,.call f args,g,nm,cs⟩::l) (some (ts,h)) K:=by
 refine⟨ts,h,rfl,?_⟩;simp only[nT,hw,wop];exact hc.mono λv h' hg=>⟨hg.2.at,hg.1⟩
theorem DL(hw:wanted ts g=some true)(hc:C P f (args.map (RO.ev ts)) h λv h'=>G P b l (some (eu ts d v,h')) K):G P b (⟨d,.call f args,g,nm,[]⟩::l) (some (ts,h)) K :=
 DM hw (hc.mono λ_ _ q=>⟨rfl,q⟩)
theorem G.callvc{x:RO}{caps:List AV}(hw:wanted ts g=some true)(hx:RO.ev ts x=.fn f caps)
 (hc:C P f (args.map (RO.ev ts)++caps) h λv h'=>ja (eu ts d v) h' cs=true/\G P b l (some (eu ts d v,h')) K):G P b (⟨d,.callv x args,g,nm,cs⟩::l) (some (ts,h)) K:=by
 refine⟨ts,h,rfl,?_⟩;simp only[nT,hw,wop];exact .inl ⟨f,caps,hx,hc.mono λv h' hg=>⟨hg.2.at,hg.1⟩⟩
theorem G.callv{x:RO}{f:FuncId}{caps:List AV}{args:List RO}(hw:wanted ts g=some true)(hx:RO.ev ts x=.fn f caps)
 (hc:C P f (args.map (RO.ev ts)++caps) h λv h'=>G P b l (some (eu ts d v,h')) K):G P b (⟨d,.callv x args,g,nm,[]⟩::l) (some (ts,h)) K:=G.callvc hw hx (hc.mono λ_ _ q=>⟨rfl,q⟩)
theorem G.yield{x:RO}{c:Nat}(hw:wanted ts g=some true)(hx:RO.ev ts x=.yld c)
 (hc:Y P c (args.map (RO.ev ts)) h λv h'=>ja (eu ts d v) h' cs=true/\G P b l (some (eu ts d v,h')) K):G P b (⟨d,.callv x args,g,nm,cs⟩::l) (some (ts,h)) K:=by
 refine⟨ts,h,rfl,?_⟩;simp only[nT,hw,wop];exact .inr ⟨c,hx,hc.mono λv h' hg=>⟨hg.2.at,hg.1⟩⟩
theorem G.nxM{x:RO}{as:List (AV×AH)}(hw:wanted ts g=some true)(hx:qZ h (RO.ev ts x)=some as)
 (hc:∀v h',(v,h')∈as->ja (eu ts d v) h' cs=true/\G P b l (some (eu ts d v,h')) K):G P b (⟨d,.nxM x,g,nm,cs⟩::l) (some (ts,h)) K:=by
 refine⟨ts,h,rfl,?_⟩;simp only[nT,hw,wop];exact⟨as,hx,λv h' hm=>⟨(hc v h' hm).2.at,(hc v h' hm).1⟩⟩
end
variable {h':AH}{ops:List ROper}{ts':Tm}
theorem bS{P:RP}{ts:Tm}{h:AH}{Kn Kr:Tm->AH->Prop}{Kx:Nat->Tm->AH->Prop}(hg:G P h.next ops (some (ts,h)) Kn):W P (.reg ops) ts h Kn Kr Kx:=hg.at
theorem pZ{P:RP}{kn:Nat}{ts:Tm}{h:AH}{Kn Kr:Tm->AH->Prop}{Kx:Nat->Tm->AH->Prop}(hg:G P h.next ops (some (ts,h.keep kn)) Kn):W P (.regK kn ops) ts h Kn Kr Kx:=hg.at
theorem bM{P:RP}{b:Nat}{s:Option (Tm×AH)}{K:Tm->AH->Prop}(hs:lK b ops s=some (ts',h'))(hk:K ts' h'):G P b ops s K:=by
 have:G P b (ops++[]) s K:=sI (by rw[hs];exact G.done hk);rwa [bV]at this
theorem aD{P:RP}{ts:Tm}{h:AH}{Kn Kr:Tm->AH->Prop}{Kx:Nat->Tm->AH->Prop}(hs:lK h.next ops (some (ts,h))=some (ts',h'))(hk:Kn ts' h'):W P (.reg ops) ts h Kn Kr Kx:=bS (bM hs hk)
def okR(s:Option (Tm×AH))(Q:Tm->AH->Prop):Prop :=
 match s with
 |some (ts,h)=>Q ts h
 |none=>False
section
variable {c:RO}{i:Nat}{ops:List ROper}
variable {P:RP}{ts:Tm}{h:AH}{Kn Kr:Tm->AH->Prop}{Kx:Nat->Tm->AH->Prop}
theorem ai{a b:RC}(hw:W P a ts h (λts h=>W P b ts h Kn Kr Kx) Kr Kx):W P (.seq a b) ts h Kn Kr Kx:=hw
theorem bQ(hw:Kn ts h):W P .skip ts h Kn Kr Kx:=hw
theorem bU(hw:Kr ts h):W P .ret ts h Kn Kr Kx:=hw
theorem fp(hw:Kx i ts h):W P (.exit i) ts h Kn Kr Kx:=hw
theorem cA{c:RC}(hw:W P c ts h Kn Kr (λj ts h=>(j=i->Kn ts h)/\(j≠i->Kx j ts h))):W P (.block i c) ts h Kn Kr Kx:=hw
theorem dv{a b:RC}(hc:RO.ev ts c=.bool true)(hw:W P a ts h Kn Kr Kx):W P (.cond c a b) ts h Kn Kr Kx:=.inl ⟨hc,hw⟩
theorem dR{a b:RC}(hc:RO.ev ts c=.bool false)(hw:W P b ts h Kn Kr Kx):W P (.cond c a b) ts h Kn Kr Kx:=.inr ⟨hc,hw⟩
theorem io{a b:RC}{t:Bool}(hc:RO.ev ts c=.bool t)(h1:t=true->W P a ts h Kn Kr Kx)(h2:t=false->W P b ts h Kn Kr Kx):W P (.cond c a b) ts h Kn Kr Kx:=by
 cases t
 .exact .inr ⟨hc,h2 rfl⟩
 .exact .inl ⟨hc,h1 rfl⟩
theorem mc{b:Nat}{s:Option (Tm×AH)}{K:Tm->AH->Prop}(Q:Tm->AH->Prop)(hs:okR (lK b ops s) Q)(hk:∀ts' h',Q ts' h'->K ts' h'):G P b ops s K:=by
 cases he:lK b ops s with
 |none=>rw[he]at hs;exact hs.elim
 |some p =>
   obtain⟨ts',h'⟩:=p;rw[he]at hs;exact bM he (hk _ _ hs)
theorem bW(Q:Tm->AH->Prop)(hs:okR (lK h.next ops (some (ts,h))) Q)(hk:∀ts' h',Q ts' h'->Kn ts' h'):W P (.reg ops) ts h Kn Kr Kx:=bS (mc Q hs hk)
theorem DH{kn:Nat}(Q:Tm->AH->Prop)(hs:okR (lK h.next ops (some (ts,h.keep kn))) Q)(hk:∀ts' h',Q ts' h'->Kn ts' h'):W P (.regK kn ops) ts h Kn Kr Kx:=pZ (mc Q hs hk)
end
variable {ev:RO->AV}{h':AH}{n s:Nat}{o:AO}{op:ROp}
theorem jg{P:RP}{b:Nat}:∀{l:List ROper}{ts:Tm}{h:AH}{K K':Tm->AH->Prop},nT P b l ts h K->(∀ts h,K ts h->K' ts h)->nT P b l ts h K'
 |[],_,_,_,_,hw,hk=>hk _ _ hw
 |o::l,ts,h,K,K',hw,hk=>by
   unfold nT at hw |-;split at hw
   .unfold wop at hw |-;split at hw
    .exact hw.mono λv h' q=>⟨jg q.1 hk,q.2⟩
    .rcases hw with⟨f,caps,hx,hc⟩|⟨b,hx,hc⟩
     .exact .inl ⟨f,caps,hx,hc.mono λv h' q=>⟨jg q.1 hk,q.2⟩⟩
     .exact .inr ⟨b,hx,hc.mono λv h' q=>⟨jg q.1 hk,q.2⟩⟩
    .obtain⟨as,h1,h2⟩:=hw;exact⟨as,h1,λv h' hm=>⟨jg (h2 v h' hm).1 hk,(h2 v h' hm).2⟩⟩
    .obtain⟨v,h',he,q⟩:=hw;exact⟨v,h',he,jg q.1 hk,q.2⟩
   .exact jg hw hk
   .exact hw
theorem uy{Kn Kn' Kr Kr':Tm->AH->Prop}{Kx Kx':Nat->Tm->AH->Prop}(h1:∀ts h,Kn ts h->Kn' ts h)(h2:∀ts h,Kr ts h->Kr' ts h)(h3:∀i ts h,Kx i ts h->Kx' i ts h):∀r,fin Kn Kr Kx r->fin Kn' Kr' Kx' r
 |.norm _ _,q=>h1 _ _ q
 |.exit _ _ _,q=>h3 _ _ _ q
 |.ret _ _,q=>h2 _ _ q
 |.val _ _,q=>q
theorem oJ{P:RP}:∀(c:RC) {ts:Tm}{h:AH}{Kn Kn' Kr Kr':Tm->AH->Prop}{Kx Kx':Nat->Tm->AH->Prop},W P c ts h Kn Kr Kx->(∀ts h,Kn ts h->Kn' ts h)->(∀ts h,Kr ts h->Kr' ts h)->(∀i ts h,Kx i ts h->Kx' i ts h)->W P c ts h Kn' Kr' Kx'
 |.skip,_,_,_,_,_,_,_,_,hw,h1,_,_=>h1 _ _ hw
 |.reg _,_,_,_,_,_,_,_,_,hw,h1,_,_=>jg hw h1
 |.regD _ _ _,_,_,_,_,_,_,_,_,hw,h1,h2,h3=>BS.mono hw (uy h1 h2 h3)
 |.regK _ _,_,_,_,_,_,_,_,_,hw,h1,_,_=>jg hw h1
 |.rangeF _ _ _ _ _ _,_,_,_,_,_,_,_,_,hw,h1,h2,h3=>BS.mono hw (uy h1 h2 h3)
 |.seq a b,_,_,_,_,_,_,_,_,hw,h1,h2,h3=>oJ a hw (λ_ _ q=>oJ b q h1 h2 h3) h2 h3
 |.cond _ a b,_,_,_,_,_,_,_,_,hw,h1,h2,h3=>by
   rcases hw with⟨x,y⟩|⟨x,y⟩
   .exact .inl ⟨x,oJ a y h1 h2 h3⟩
   .exact .inr ⟨x,oJ b y h1 h2 h3⟩
 |.block _ c,_,_,_,_,_,_,_,_,hw,h1,h2,h3=>oJ c hw h1 h2 λi ts h q=>⟨λe=>h1 _ _ (q.1 e),λe=>h3 _ _ _ (q.2 e)⟩
 |.loop _,_,_,_,_,_,_,_,_,hw,h1,h2,h3=>BS.mono hw (uy h1 h2 h3)
 |.exit _,_,_,_,_,_,_,_,_,hw,_,_,h3=>h3 _ _ _ hw
 |.ret,_,_,_,_,_,_,_,_,hw,_,h2,_=>h2 _ _ hw
 |.bad,_,_,_,_,_,_,_,_,hw,_,_,_=>hw.elim
theorem jB{P:RP}{c:RC}{ts:Tm}{h:AH}{Kn Kr:Tm->AH->Prop}{Kx:Nat->Tm->AH->Prop}(Q:Tm->AH->Prop)(hw:W P c ts h Q Kr Kx)(hk:∀ts h,Q ts h->Kn ts h):W P c ts h Kn Kr Kx:=oJ c hw hk (λ_ _ q=>q) (λ_ _ _ q=>q)
structure Upd(h h':AH)(s:Nat)(o:AO):Prop where
 nx:h'.next=h.next
 gt:∀c,h'.get c=if c=s then some o else h.get c
 ty:∀c,h'.tyOf c=h.tyOf c
theorem Upd.put{h:AH}{s:Nat}{o1 o:AO}(hg:h.get s=some o1):Upd h (h.put s o) s o:=⟨rfl,λc=>by
 rw[AH.get_put _ _ _ _ (AH.lt_of_get hg)];by_cases e:s=c
 .subst e;simp
 .simp[e,Ne.symm e],λ_=>rfl⟩
theorem Upd.refl{h:AH}{s:Nat}{o:AO}(hg:h.get s=some o):Upd h h s o:=⟨rfl,λc=>by
 by_cases e:c=s
 .subst e;simp[hg]
 .simp[e],λ_=>rfl⟩
theorem Upd.trans{h h1 h2:AH}{s:Nat}{o1 o2:AO}(a:Upd h h1 s o1)(b:Upd h1 h2 s o2):Upd h h2 s o2:=⟨b.1.trans a.1,λc=>by
 rw[b.2,a.2];by_cases e:c=s<;>simp[e],λc=>(b.ty c).trans (a.ty c)⟩
theorem Upd.get{h h':AH}{s:Nat}{o:AO}(a:Upd h h' s o):h'.get s=some o:=by rw[a.2];simp
theorem Upd.ne{h:AH}{c:Nat}(a:Upd h h' s o)(e:c≠s):h'.get c=h.get c:=by rw[a.2];simp[e]
structure Ext(n:Nat)(h h':AH):Prop where
 nx:h.next<=h'.next
 gt:∀c,c<n->h'.get c=h.get c
 ty:∀c,c<n->h'.tyOf c=h.tyOf c
theorem Ext.refl{n:Nat}{h:AH}:Ext n h h:=⟨ab _,λ_ _=>rfl,λ_ _=>rfl⟩
theorem Ext.trans{n:Nat}{h h1 h2:AH}(a:Ext n h h1)(b:Ext n h1 h2):Ext n h h2:=⟨cI a.1 b.1,λc hc=>by rw[b.2 c hc,a.2 c hc],λc hc=>(b.ty c hc).trans (a.ty c hc)⟩
theorem Ext.new{n:Nat}{h:AH}{o:AO}(hn:n<=h.next):Ext n h (h.new o):=⟨by simp,λc hc=>by rw[AH.get_new,if_neg om],λ_ _=>rfl⟩
theorem Ext.put{n:Nat}{h:AH}{s:Nat}{o:AO}(hs:n<=s):Ext n h (h.put s o):=⟨by simp,λc hc=>by
 unfold AH.get AH.put;simp only[T.get_set,iQ];have e:¬s=c:=om;simp[e],λ_ _=>rfl⟩
theorem Upd.ext{h:AH}(a:Upd h h' s o)(hs:n<=s):Ext n h h':=⟨by rw[a.1];exact ab _,λc hc=>a.ne om,λc _=>a.ty c⟩
theorem Ext.mono{m:Nat}{h:AH}(a:Ext n h h')(hm:m<=n):Ext m h h':=⟨a.1,λc hc=>a.2 c om,λc hc=>a.ty c om⟩
theorem nW{b:Nat}{o:ROper}{ts:Tm}{h:AH}:stp b o (some (ts,h))=ckR o.cs (Bi ts o.dst (gd (wanted ts o.guard) (evN b (RO.ev ts) h o) h)):=rfl
theorem tD{b:Nat}{s:Option (Tm×AH)}:lK b [] s=s:=rfl
theorem qU{b:Nat}{o:ROper}{l:List ROper}{s:Option (Tm×AH)}:lK b (o::l) s=lK b l (stp b o s):=rfl
theorem ym{s:Option (Tm×AH)}:ckR [] s=s:=rfl
theorem IG{c:Nat×ROp×Option (Nat×Bool)}{r:List (Nat×ROp×Option (Nat×Bool))}{ts:Tm}{h:AH}:ckR (c::r) (some (ts,h))=if ja ts h (c::r)=true then some (ts,h)else none:=rfl
theorem uD{b:Nat}{ev:RO->AV}{h:AH}{d:Option Nat}{op:ROp}{g:Option (Nat×Bool)}{cs:List (Nat×ROp×Option (Nat×Bool))}:evN b ev h ⟨d,op,g,none,cs⟩=aI ev h op:=rfl
theorem fz{b j:Nat}{h:AH}{d:Option Nat}{g:Option (Nat×Bool)}{cs:List (Nat×ROp×Option (Nat×Bool))}:evN b ev h ⟨d,op,g,some j,cs⟩=jJ ev h (b+j) op:=rfl
theorem ng{h:AH}(hg:h.get n=some .resv):jJ ev h n op=match lay ev h op with
 |some (f,o,tg)=>some (f n,h.putG n o tg)
 |none=>none:=by simp only[jJ,hg];cases lay ev h op<;>rfl
theorem qX{ts:Tm}{d:Option Nat}{v:AV}{h:AH}:Bi ts d (some (v,h))=some (eu ts d v,h):=rfl
theorem yb{x:Option (AV×AH)}{h:AH}:gd (some true) x h=x:=rfl
theorem Ig{x:Option (AV×AH)}{h:AH}:gd (some false) x h=some (.un,h):=rfl
theorem nU{ts:Tm}:wanted ts none=some true:=rfl
theorem yQ{ts:Tm}{n:Nat}{b:Bool}:wanted ts (some (n,b))=match aR ts n with
 |.bool c=>some (c==b)
 |.tup []=>some false
 |_=>none:=rfl
theorem rP{ts:Tm}{n:Nat}{v:AV}:eu ts (some n) v=qj ts n v:=rfl
theorem Fq{ts:Tm}{v:AV}:eu ts none v=ts:=rfl
theorem Fl{ts:Tm}{n:Nat}:RO.ev ts (.t n)=aR ts n:=rfl
theorem ev_c{ts:Tm}{v:AV}:RO.ev ts (.c v)=v:=rfl
theorem Hm{ts:Tm}{h:AH}{Q:Tm->AH->Prop}:okR (some (ts,h)) Q=Q ts h:=rfl
theorem EJ{h:AH}{g:Bool}{n b o:Nat}:zM h g n (.ptr b o)=match aA h b o n with
 |some cs=>(py g cs).map (·,h)
 |none=>none:=rfl
theorem Fh{off b o:Nat}:Dp off (.ptr b o)=some (.ptr b (o+off)):=rfl
theorem BC{b o:Nat}:xI (.ptr b o)=some (.ptr b o):=rfl
theorem iw{v:AV}:py false [v]=some v:=rfl
theorem EC{cs:List AV}:py true cs=some (.agg cs):=rfl
theorem Bm{a b:AV}:CR (.bool true) a b=some a:=rfl
theorem zp{a b:AV}:CR (.bool false) a b=some b:=rfl
theorem Jx{b:Bool}:unA .not (.bool b)=some (.bool !b):=rfl
section
variable {e:RE}{k:IntKind}{a b:Int}
theorem DD:iL .add e (.int k a) (.int k b)=some (.int k (k.wrap (a+b))):=by simp[iL,jc]
theorem LC:iL .sub e (.int k a) (.int k b)=some (.int k (k.wrap (a-b))):=by simp[iL,jc]
theorem LH:iL .mul e (.int k a) (.int k b)=some (.int k (k.wrap (a*b))):=by simp[iL,jc]
theorem LF:iL .quo e (.int k a) (.int k b)=if b=0 then none else some (.int k (k.wrap (a.tdiv b))):=by simp[iL,jc]
theorem LD:iL .rem e (.int k a) (.int k b)=if b=0 then none else some (.int k (a.tmod b)):=by simp[iL,jc]
theorem LM:iL .eql e (.int k a) (.int k b)=some (.bool (decide (a=b))):=by simp only[iL,jc,reduceCtorEq,or_self,if_false,if_true];rfl
theorem LG:iL .neq e (.int k a) (.int k b)=some (.bool (!decide (a=b))):=by simp only[iL,jc,reduceCtorEq,or_self,if_false,if_true];rfl
theorem DC:iL .lss e (.int k a) (.int k b)=some (.bool (decide (a<b))):=by simp[iL,jc]
theorem LI:iL .leq e (.int k a) (.int k b)=some (.bool (decide (a<=b))):=by simp[iL,jc]
theorem LJ:iL .gtr e (.int k a) (.int k b)=some (.bool (decide (b<a))):=by simp[iL,jc]
theorem LK:iL .geq e (.int k a) (.int k b)=some (.bool (decide (b<=a))):=by simp[iL,jc]
theorem qM:iL .and e (.int k a) (.int k b)=(bits .and k a b).map (.int k):=by simp[iL,jc]
theorem Ja{x y:List UInt8}:iL .add e (.str x) (.str y)=if x.length+y.length<2^62 then some (.str (x++y))else none:=rfl
theorem IZ{x y:List UInt8}:iL .eql e (.str x) (.str y)=some (.bool (x==y)):=rfl
theorem Jb{x y:Bool}:iL .eql .bl (.bool x) (.bool y)=some (.bool (x==y)):=rfl
theorem LN{ks:List IntKind}{xs ys:List AV}:iL .neq (.flat ks) (.agg xs) (.agg ys)=(fN ks xs ys).map λb=>.bool !b:=by
 simp only[iL,ka,eqF]
end
variable {o:Nat}{p q0 q1 q2 q3 q4 q5 q6 q7 q8 q9:Prop}
theorem EL{s:List UInt8}:De (.str s)=some (.int .i64 s.length):=rfl
theorem HE{b o n c:Nat}:ly (.sl b o n c)=some (.int .i64 n):=rfl
theorem mT:ly .nils=some (.int .i64 0):=rfl
theorem Ix{k k':IntKind}{n:Int}:Lr k (.int k' n)=some (.int k (k.wrap n)):=rfl
theorem Iy{h:AH}{b o n c:Nat}:wX h (.sl b o n c)=match aA h b o n with
 |some cs=>(kJ cs).map .str
 |none=>none:=rfl
theorem BT{h:AH}:wX h .nils=some (.str []):=rfl
theorem zX{e b o n c:Nat}{k:IntKind}{i:Int}:lz e (.sl b o n c) (.int k i)=(iV i n).map λi=>.ptr b (o+i*e):=rfl
theorem EW{s:List UInt8}{k:IntKind}{i:Int}:zW (.str s) (.int k i)=if 0<=i then(s[i.toNat]?).map λc=>.int .u8 c.toNat else none:=rfl
theorem Ik{vs:List AV}{i:Nat}:Lk (.tup vs) i=vs[i]?:=rfl
theorem AW{h:AH}{n b o:Nat}{v:AV}:tE h n (.ptr b o) v=if v.cells.length=n/\v.cells.all AV.one then(cj h b o v.cells).map λh'=>(.un,h')else none:=rfl
theorem bI{h:AH}{b n e:Nat}{cs:List AV}{ro:Bool}(hg:h.get b=some (.cells cs e ro)):aA h b o n=if o+n<=cs.length then some ((cs.drop o).take n)else none:=by simp[aA,hg]
theorem ez{h:AH}{b e:Nat}{vs cs:List AV}(hg:h.get b=some (.cells cs e false)):cj h b o vs=if o+vs.length<=cs.length then some (h.put b (.cells (dD cs o vs) e false))else none:=by simp[cj,hg]
theorem Et{z:List AV}:dA z 0=[]:=rfl
theorem GK{z:List AV}:dA z 1=z:=by simp[dA]
theorem mx2{k:IntKind}{x y:Int}:lA mxA [.int k x,.int k y]=some (.int k (if x<y then y else x)):=by simp[lA,mxA]
theorem FF{k:IntKind}{n:Int}:AV.cells (.int k n)=[.int k n]:=rfl
theorem KB{k:IntKind}{n:Int}:AV.one (.int k n)=true:=rfl
theorem Cd{b:Bool}:AV.cells (.bool b)=[.bool b]:=rfl
theorem Hl{b:Bool}:AV.one (.bool b)=true:=rfl
theorem FD{s:List UInt8}:AV.cells (.str s)=[.str s]:=rfl
theorem Kz{s:List UInt8}:AV.one (.str s)=true:=rfl
theorem FE{b o:Nat}:AV.cells (.ptr b o)=[.ptr b o]:=rfl
theorem KA{b o:Nat}:AV.one (.ptr b o)=true:=rfl
theorem BX:AV.cells (.nilp)=[.nilp]:=rfl
theorem He:AV.one (.nilp)=true:=rfl
theorem IK{b o n c:Nat}:AV.cells (.sl b o n c)=[.sl b o n c]:=rfl
theorem MA{b o n c:Nat}:AV.one (.sl b o n c)=true:=rfl
theorem BW:AV.cells (.nils)=[.nils]:=rfl
theorem Hd:AV.one (.nils)=true:=rfl
theorem IL{b:Nat}:AV.cells (.mp b)=[.mp b]:=rfl
theorem MB{b:Nat}:AV.one (.mp b)=true:=rfl
theorem BZ:AV.cells (.nilm)=[.nilm]:=rfl
theorem Hf:AV.one (.nilm)=true:=rfl
theorem IM{f:FuncId}{cs:List AV}:AV.cells (.fn f cs)=[.fn f cs]:=rfl
theorem MC{f:FuncId}{cs:List AV}:AV.one (.fn f cs)=true:=rfl
theorem Cb:AV.cells (.nilf)=[.nilf]:=rfl
theorem Hj:AV.one (.nilf)=true:=rfl
theorem FG{t:TypeId}{v:AV}:AV.cells (.ifc t v)=[.ifc t v]:=rfl
theorem KC{t:TypeId}{v:AV}:AV.one (.ifc t v)=true:=rfl
theorem Ca:AV.cells (.nili)=[.nili]:=rfl
theorem Hh:AV.one (.nili)=true:=rfl
theorem xe{cs:List AV}:AV.cells (.agg cs)=cs:=rfl
theorem II{ts:Tm}{h:AH}:ja ts h []=true:=rfl
theorem FA{ts:Tm}{h:AH}{c:Nat×ROp×Option (Nat×Bool)}{r:List (Nat×ROp×Option (Nat×Bool))}:ja ts h (c::r)=(uM ts h c&&ja ts h r):=rfl
theorem FB{ts:Tm}{h:AH}{d:Nat}{op:ROp}:uM ts h (d,op,none)=match aI (RO.ev ts) h op with
 |some (v,_)=>AV.same v (aR ts d)
 |none=>false:=rfl
theorem Ek:AV.same .nils .nils=true:=rfl
theorem El:AV.same .nilp .nilp=true:=rfl
theorem Em:AV.same .nilm .nilm=true:=rfl
theorem GH{k:IntKind}{a:Int}:AV.same (.int k a) (.int k a)=true:=by
 show(k==k&&a==a)=true;simp
theorem En{a:Bool}:AV.same (.bool a) (.bool a)=true:=by
 show(a==a)=true;simp
theorem GF{a:List UInt8}:AV.same (.str a) (.str a)=true:=by
 show(a==a)=true;simp
theorem GG{a b:Nat}:AV.same (.ptr a b) (.ptr a b)=true:=by
 show(a==a&&b==b)=true;simp
theorem Km{a:Nat}:AV.same (.mp a) (.mp a)=true:=by
 show(a==a)=true;simp
theorem CG{a b c d:Nat}:AV.same (.sl a b c d) (.sl a b c d)=true:=by
 show(a==a&&b==b&&c==c&&d==d)=true;simp
@[reducible] def mv (d x:Nat):ROper:=⟨some d,.mov (.t x),none,none,[]⟩
@[reducible] def mi (d:Nat) (n:Int):ROper:=⟨some d,.mov (.c (.int .i64 n)),none,none,[]⟩
@[reducible] def mn (d:Nat):ROper:=⟨some d,.mov (.c .nils),none,none,[]⟩
@[reducible] def mb (d:Nat) (b:Bool):ROper:=⟨some d,.mov (.c (.bool b)),none,none,[]⟩
@[reducible] def ld (d x:Nat):ROper:=⟨some d,.load false 1 (.t x),none,none,[]⟩
@[reducible] def la (d n x:Nat):ROper:=⟨some d,.load true n (.t x),none,none,[]⟩
@[reducible] def fa (d o x:Nat):ROper:=⟨some d,.fadr o (.t x),none,none,[]⟩
@[reducible] def nk (d x:Nat):ROper:=⟨some d,.nilck (.t x),none,none,[]⟩
@[reducible] def ia (d e x i:Nat):ROper:=⟨some d,.iadr e (.t x) (.t i),none,none,[]⟩
@[reducible] def le (d x:Nat):ROper:=⟨some d,.lenL (.t x),none,none,[]⟩
@[reducible] def bn (d:Nat) (o:BinOp) (x y:Nat):ROper:=⟨some d,.bin o .no (.t x) (.t y),none,none,[]⟩
@[reducible] def bc (d:Nat) (o:BinOp) (x:Nat) (n:Int):ROper:=⟨some d,.bin o .no (.t x) (.c (.int .i64 n)),none,none,[]⟩
@[reducible] def nt (d x:Nat):ROper:=⟨some d,.un .not (.t x),none,none,[]⟩
@[reducible] def ex (d x i:Nat):ROper:=⟨some d,.ext (.t x) i,none,none,[]⟩
@[reducible] def so (a v:Nat):ROper:=⟨none,.store 1 (.t a) (.t v),none,none,[]⟩
@[reducible] def o1 (d:Nat) (op:ROp):ROper:=⟨some d,op,none,none,[]⟩
@[reducible] def o0 (op:ROp):ROper:=⟨none,op,none,none,[]⟩
@[reducible] def og (d:Nat) (op:ROp) (n:Nat) (b:Bool):ROper:=⟨some d,op,some (n,b),none,[]⟩
@[reducible] def ci (n:Int):RO:=.c (.int .i64 n)
@[reducible] def cC (d f:Nat) (ts:List Nat):ROper:=⟨some d,.call f (ts.map RO.t),none,none,[]⟩
@[reducible] def kS (r:List ROper) (x:RC):RC:=.seq (.reg r) x
@[reducible] def kT (t:Nat) (a b:RC):RC:=.cond (.t t) a b
@[reducible] def kF (B i n c j B1:Nat) (x:RC):RC:=.block B (.loop (.seq (.reg [bn c .lss i n]) (.seq (.cond (.t c) .skip (.exit B)) (.seq (.block B1 x) (.reg [bc j .add i 1,mv i j])))))
@[reducible] def kW (B c B1:Nat) (T inc:List ROper) (x:RC):RC:=.block B (.loop (.seq (.seq (.reg T) (.cond (.t c) .skip (.exit B))) (.seq (.block B1 x) (.reg inc))))
theorem mv_eq{d x:Nat}:mv d x=⟨some d,.mov (.t x),none,none,[]⟩:=rfl
theorem cC_eq{d f:Nat}{ts:List Nat}:cC d f ts=⟨some d,.call f (ts.map RO.t),none,none,[]⟩:=rfl
theorem mi_eq{d:Nat}{n:Int}:mi d n=⟨some d,.mov (.c (.int .i64 n)),none,none,[]⟩:=rfl
theorem mn_eq{d:Nat}:mn d=⟨some d,.mov (.c .nils),none,none,[]⟩:=rfl
theorem mb_eq{d:Nat}{b:Bool}:mb d b=⟨some d,.mov (.c (.bool b)),none,none,[]⟩:=rfl
theorem ld_eq{d x:Nat}:ld d x=⟨some d,.load false 1 (.t x),none,none,[]⟩:=rfl
theorem la_eq{d n x:Nat}:la d n x=⟨some d,.load true n (.t x),none,none,[]⟩:=rfl
theorem fa_eq{d o x:Nat}:fa d o x=⟨some d,.fadr o (.t x),none,none,[]⟩:=rfl
theorem nk_eq{d x:Nat}:nk d x=⟨some d,.nilck (.t x),none,none,[]⟩:=rfl
theorem ia_eq{d e x i:Nat}:ia d e x i=⟨some d,.iadr e (.t x) (.t i),none,none,[]⟩:=rfl
theorem le_eq{d x:Nat}:le d x=⟨some d,.lenL (.t x),none,none,[]⟩:=rfl
theorem bn_eq{d:Nat}{o:BinOp}{x y:Nat}:bn d o x y=⟨some d,.bin o .no (.t x) (.t y),none,none,[]⟩:=rfl
theorem bc_eq{d:Nat}{o:BinOp}{x:Nat}{n:Int}:bc d o x n=⟨some d,.bin o .no (.t x) (.c (.int .i64 n)),none,none,[]⟩:=rfl
theorem nt_eq{d x:Nat}:nt d x=⟨some d,.un .not (.t x),none,none,[]⟩:=rfl
theorem ex_eq{d x i:Nat}:ex d x i=⟨some d,.ext (.t x) i,none,none,[]⟩:=rfl
theorem so_eq{a v:Nat}:so a v=⟨none,.store 1 (.t a) (.t v),none,none,[]⟩:=rfl
theorem o1_eq{d:Nat}{op:ROp}:o1 d op=⟨some d,op,none,none,[]⟩:=rfl
theorem o0_eq{op:ROp}:o0 op=⟨none,op,none,none,[]⟩:=rfl
theorem og_eq{d:Nat}{op:ROp}{n:Nat}{b:Bool}:og d op n b=⟨some d,op,some (n,b),none,[]⟩:=rfl
theorem ci_eq{n:Int}:ci n=.c (.int .i64 n):=rfl
theorem Ij{ev:RO->AV}{cs:List AV}:fill ev cs []=some cs:=rfl
theorem Fg{ev:RO->AV}{cs:List AV}{off n:Nat}{x:RO}{r:List (Nat×Nat×RO)}:fill ev cs ((off,n,x)::r)=if (ev x).cells.length=n/\off+n<=cs.length then fill ev (dD cs off (ev x).cells) r else none:=rfl
theorem LB{h:AH}{e n:Nat}{x:AV}:IU h e n x=if x.cells.length=n then some (.ptr h.next 0,h.new (.cells x.cells e false))else none:=rfl
theorem DV{cs:List AV}{o:Nat}{vs:List AV}:dD cs o vs=cs.take o++vs++cs.drop (o+vs.length):=rfl
theorem un_eq:AV.un=.tup []:=rfl
theorem Be{f:RF}{ts:Tm}{h:AH}:results f ts h=match lu ts h f.results with
 |some [v]=>some v
 |some vs=>some (.tup vs)
 |none=>none:=rfl
theorem Eu{ts:Tm}{h:AH}:lu ts h []=some []:=rfl
theorem Bg{ts:Tm}{h:AH}{r:RR}{rs:List RR}:lu ts h (r::rs)=match px ts h r,lu ts h rs with
 |some v,some vs=>some (v::vs)
 |_,_=>none:=rfl
theorem Kq{ts:Tm}{h:AH}{n:Nat}:px ts h (.t n)=some (aR ts n):=rfl
theorem Bf{ts:Tm}{h:AH}{t n:Nat}{ag:Bool}:px ts h (.cell t ag n)=match aR ts t with
 |.ptr b o=>match aA h b o n with
   |some cs=>py ag cs
   |none=>none
 |_=>none:=rfl
set_option maxRecDepth 10000 in
def am:=And.intro @cC_eq (And.intro @mv_eq (And.intro @mi_eq (And.intro @mn_eq (And.intro @mb_eq (And.intro @ld_eq (And.intro @la_eq (And.intro @fa_eq (And.intro @nk_eq (And.intro @ia_eq (And.intro @le_eq (And.intro @bn_eq (And.intro @bc_eq (And.intro @nt_eq (And.intro @ex_eq (And.intro @so_eq (And.intro @o1_eq (And.intro @o0_eq (And.intro @og_eq (And.intro @ci_eq (And.intro @Ij (And.intro @Fg (And.intro @LB (And.intro @DV (And.intro @un_eq (And.intro @IG (And.intro @II (And.intro @FA (And.intro @FB (And.intro @Ek (And.intro @El (And.intro @Em (And.intro @GH (And.intro @En (And.intro @GF (And.intro @GG (And.intro @Km (And.intro @CG (And.intro @ym (And.intro @uD (And.intro @tD (And.intro @qU (And.intro @nW (And.intro @qX (And.intro @yb (And.intro @Ig (And.intro @nU (And.intro @yQ (And.intro @rP (And.intro @Fq (And.intro @Fl (And.intro @ev_c (And.intro @Hm (And.intro @fC (And.intro @EJ (And.intro @Fh (And.intro @BC (And.intro @iw (And.intro @EC (And.intro @Bm (And.intro @zp (And.intro @Jx (And.intro @DD (And.intro @LC (And.intro @LH (And.intro @LF (And.intro @LD (And.intro @LM (And.intro @LG (And.intro @DC (And.intro @LI (And.intro @LJ (And.intro @LK (And.intro @qM (And.intro @Ja (And.intro @IZ (And.intro @Jb (And.intro @LN (And.intro @EL (And.intro @HE (And.intro @mT (And.intro @Ix (And.intro @Iy (And.intro @BT (And.intro @zX (And.intro @EW (And.intro @Ik (And.intro @AW (And.intro @aC.{0,0} (And.intro @beq_true (And.intro @beq_false (And.intro @cD (And.intro @cr (And.intro @cq (And.intro @dX (And.intro @aW.{0} (And.intro @cR.{0} (And.intro @true_and (And.intro @and_true (And.intro @aS.{0,0} (And.intro @jf.{0,0} (And.intro @FF (And.intro @KB (And.intro @Cd (And.intro @Hl (And.intro @FD (And.intro @Kz (And.intro @FE (And.intro @KA (And.intro @BX (And.intro @He (And.intro @IK (And.intro @MA (And.intro @BW (And.intro @Hd (And.intro @IL (And.intro @MB (And.intro @BZ (And.intro @Hf (And.intro @IM (And.intro @MC (And.intro @Cb (And.intro @Hj (And.intro @FG (And.intro @KC (And.intro @Ca (And.intro @Hh (And.intro @xe (And.intro @ar.{0} (And.intro @aU.{0} (And.intro @rY.{0} (And.intro @List.all_nil.{0} (And.intro @oY.{0} (And.intro @eZ.{0} (And.intro @cN.{0} (And.intro @bT.{0} (And.intro @aH.{0} (And.intro @bt.{0} (And.intro @fW (And.intro @AH.next_new (And.intro @AH.next_put (And.intro @and_self (And.intro @GK (@Et)))))))))))))))))))))))))))))))))))))))))))))))))))))))))))))))))))))))))))))))))))))))))))))))))))))))))))))))))))))))))))))))))))))))))))))))
def rs:=And.intro @Be (And.intro @Eu (And.intro @Bg (And.intro @Kq @Bf)))
theorem I0(h:p:=by simp only[am,aI,↓reduceIte,Nat.reduceEqDiff,Int.reduceEq,Nat.reduceAdd,Nat.reduceLeDiff,reduceCtorEq]):p:=h
theorem I1(f0:q0)(h:q0->p:=by intro f0;simp only[am,aI,↓reduceIte,Nat.reduceEqDiff,Int.reduceEq,Nat.reduceAdd,Nat.reduceLeDiff,reduceCtorEq,f0]):p:=h f0
theorem Ii0(h:p:=by simp only[am,aI,↓reduceIte,Nat.reduceEqDiff,Int.reduceEq,Nat.reduceAdd,Nat.reduceLeDiff,reduceCtorEq,bP]):p:=h
theorem J0(h:p:=by simp only[am,aI,↓reduceIte,Nat.reduceEqDiff,Int.reduceEq,Nat.reduceAdd,Nat.reduceLeDiff,reduceCtorEq]<;>rfl):p:=h
theorem J2(f0:q0)(f1:q1)(h:q0->q1->p:=by intro f0 f1;simp only[am,aI,↓reduceIte,Nat.reduceEqDiff,Int.reduceEq,Nat.reduceAdd,Nat.reduceLeDiff,reduceCtorEq,f0,f1]<;>rfl):p:=h f0 f1
theorem J4(f0:q0)(f1:q1)(f2:q2)(f3:q3)(h:q0->q1->q2->q3->p:=by intro f0 f1 f2 f3;simp only[am,aI,↓reduceIte,Nat.reduceEqDiff,Int.reduceEq,Nat.reduceAdd,Nat.reduceLeDiff,reduceCtorEq,f0,f1,f2,f3]<;>rfl):p:=h f0 f1 f2 f3
theorem Ji0(h:p:=by simp only[am,aI,↓reduceIte,Nat.reduceEqDiff,Int.reduceEq,Nat.reduceAdd,Nat.reduceLeDiff,reduceCtorEq,bP]<;>rfl):p:=h
theorem Ji1(f0:q0)(h:q0->p:=by intro f0;simp only[am,aI,↓reduceIte,Nat.reduceEqDiff,Int.reduceEq,Nat.reduceAdd,Nat.reduceLeDiff,reduceCtorEq,bP,f0]<;>rfl):p:=h f0
theorem Ji2(f0:q0)(f1:q1)(h:q0->q1->p:=by intro f0 f1;simp only[am,aI,↓reduceIte,Nat.reduceEqDiff,Int.reduceEq,Nat.reduceAdd,Nat.reduceLeDiff,reduceCtorEq,bP,f0,f1]<;>rfl):p:=h f0 f1
theorem Ji3(f0:q0)(f1:q1)(f2:q2)(h:q0->q1->q2->p:=by intro f0 f1 f2;simp only[am,aI,↓reduceIte,Nat.reduceEqDiff,Int.reduceEq,Nat.reduceAdd,Nat.reduceLeDiff,reduceCtorEq,bP,f0,f1,f2]<;>rfl):p:=h f0 f1 f2
theorem M0(h:p:=by simp only[am,aI,simprocAttr]<;>rfl):p:=h
theorem M1(f0:q0)(h:q0->p:=by intro f0;simp only[am,aI,simprocAttr,f0]<;>rfl):p:=h f0
theorem M2(f0:q0)(f1:q1)(h:q0->q1->p:=by intro f0 f1;simp only[am,aI,simprocAttr,f0,f1]<;>rfl):p:=h f0 f1
theorem M3(f0:q0)(f1:q1)(f2:q2)(h:q0->q1->q2->p:=by intro f0 f1 f2;simp only[am,aI,simprocAttr,f0,f1,f2]<;>rfl):p:=h f0 f1 f2
theorem M4(f0:q0)(f1:q1)(f2:q2)(f3:q3)(h:q0->q1->q2->q3->p:=by intro f0 f1 f2 f3;simp only[am,aI,simprocAttr,f0,f1,f2,f3]<;>rfl):p:=h f0 f1 f2 f3
theorem M5(f0:q0)(f1:q1)(f2:q2)(f3:q3)(f4:q4)(h:q0->q1->q2->q3->q4->p:=by intro f0 f1 f2 f3 f4;simp only[am,aI,simprocAttr,f0,f1,f2,f3,f4]<;>rfl):p:=h f0 f1 f2 f3 f4
theorem M6(f0:q0)(f1:q1)(f2:q2)(f3:q3)(f4:q4)(f5:q5)(h:q0->q1->q2->q3->q4->q5->p:=by intro f0 f1 f2 f3 f4 f5;simp only[am,aI,simprocAttr,f0,f1,f2,f3,f4,f5]<;>rfl):p:=h f0 f1 f2 f3 f4 f5
theorem M7(f0:q0)(f1:q1)(f2:q2)(f3:q3)(f4:q4)(f5:q5)(f6:q6)(h:q0->q1->q2->q3->q4->q5->q6->p:=by intro f0 f1 f2 f3 f4 f5 f6;simp only[am,aI,simprocAttr,f0,f1,f2,f3,f4,f5,f6]<;>rfl):p:=h f0 f1 f2 f3 f4 f5 f6
theorem M8(f0:q0)(f1:q1)(f2:q2)(f3:q3)(f4:q4)(f5:q5)(f6:q6)(f7:q7)(h:q0->q1->q2->q3->q4->q5->q6->q7->p:=by intro f0 f1 f2 f3 f4 f5 f6 f7;simp only[am,aI,simprocAttr,f0,f1,f2,f3,f4,f5,f6,f7]<;>rfl):p:=h f0 f1 f2 f3 f4 f5 f6 f7
theorem M10(f0:q0)(f1:q1)(f2:q2)(f3:q3)(f4:q4)(f5:q5)(f6:q6)(f7:q7)(f8:q8)(f9:q9)(h:q0->q1->q2->q3->q4->q5->q6->q7->q8->q9->p:=by intro f0 f1 f2 f3 f4 f5 f6 f7 f8 f9;simp only[am,aI,simprocAttr,f0,f1,f2,f3,f4,f5,f6,f7,f8,f9]<;>rfl):p:=h f0 f1 f2 f3 f4 f5 f6 f7 f8 f9
theorem M12{q10 q11:Prop}(f0:q0)(f1:q1)(f2:q2)(f3:q3)(f4:q4)(f5:q5)(f6:q6)(f7:q7)(f8:q8)(f9:q9)(f10:q10)(f11:q11)(h:q0->q1->q2->q3->q4->q5->q6->q7->q8->q9->q10->q11->p:=by intro f0 f1 f2 f3 f4 f5 f6 f7 f8 f9 f10 f11;simp only[am,aI,simprocAttr,f0,f1,f2,f3,f4,f5,f6,f7,f8,f9,f10,f11]<;>rfl):p:=h f0 f1 f2 f3 f4 f5 f6 f7 f8 f9 f10 f11
theorem Mi0(h:p:=by simp only[am,aI,simprocAttr,bP]<;>rfl):p:=h
theorem Mi1(f0:q0)(h:q0->p:=by intro f0;simp only[am,aI,simprocAttr,bP,f0]<;>rfl):p:=h f0
theorem Mi2(f0:q0)(f1:q1)(h:q0->q1->p:=by intro f0 f1;simp only[am,aI,simprocAttr,bP,f0,f1]<;>rfl):p:=h f0 f1
theorem Mi3(f0:q0)(f1:q1)(f2:q2)(h:q0->q1->q2->p:=by intro f0 f1 f2;simp only[am,aI,simprocAttr,bP,f0,f1,f2]<;>rfl):p:=h f0 f1 f2
theorem Mi4(f0:q0)(f1:q1)(f2:q2)(f3:q3)(h:q0->q1->q2->q3->p:=by intro f0 f1 f2 f3;simp only[am,aI,simprocAttr,bP,f0,f1,f2,f3]<;>rfl):p:=h f0 f1 f2 f3
theorem Mi5(f0:q0)(f1:q1)(f2:q2)(f3:q3)(f4:q4)(h:q0->q1->q2->q3->q4->p:=by intro f0 f1 f2 f3 f4;simp only[am,aI,simprocAttr,bP,f0,f1,f2,f3,f4]<;>rfl):p:=h f0 f1 f2 f3 f4
theorem Mi6(f0:q0)(f1:q1)(f2:q2)(f3:q3)(f4:q4)(f5:q5)(h:q0->q1->q2->q3->q4->q5->p:=by intro f0 f1 f2 f3 f4 f5;simp only[am,aI,simprocAttr,bP,f0,f1,f2,f3,f4,f5]<;>rfl):p:=h f0 f1 f2 f3 f4 f5
theorem Mi7(f0:q0)(f1:q1)(f2:q2)(f3:q3)(f4:q4)(f5:q5)(f6:q6)(h:q0->q1->q2->q3->q4->q5->q6->p:=by intro f0 f1 f2 f3 f4 f5 f6;simp only[am,aI,simprocAttr,bP,f0,f1,f2,f3,f4,f5,f6]<;>rfl):p:=h f0 f1 f2 f3 f4 f5 f6
theorem Z0(h:p:=by simp only[am,aI,simprocAttr]):p:=h
theorem Z1(f0:q0)(h:q0->p:=by intro f0;simp only[am,aI,simprocAttr,f0]):p:=h f0
theorem Z2(f0:q0)(f1:q1)(h:q0->q1->p:=by intro f0 f1;simp only[am,aI,simprocAttr,f0,f1]):p:=h f0 f1
theorem Z3(f0:q0)(f1:q1)(f2:q2)(h:q0->q1->q2->p:=by intro f0 f1 f2;simp only[am,aI,simprocAttr,f0,f1,f2]):p:=h f0 f1 f2
theorem Z4(f0:q0)(f1:q1)(f2:q2)(f3:q3)(h:q0->q1->q2->q3->p:=by intro f0 f1 f2 f3;simp only[am,aI,simprocAttr,f0,f1,f2,f3]):p:=h f0 f1 f2 f3
theorem Z5(f0:q0)(f1:q1)(f2:q2)(f3:q3)(f4:q4)(h:q0->q1->q2->q3->q4->p:=by intro f0 f1 f2 f3 f4;simp only[am,aI,simprocAttr,f0,f1,f2,f3,f4]):p:=h f0 f1 f2 f3 f4
theorem Z6(f0:q0)(f1:q1)(f2:q2)(f3:q3)(f4:q4)(f5:q5)(h:q0->q1->q2->q3->q4->q5->p:=by intro f0 f1 f2 f3 f4 f5;simp only[am,aI,simprocAttr,f0,f1,f2,f3,f4,f5]):p:=h f0 f1 f2 f3 f4 f5
theorem Z7(f0:q0)(f1:q1)(f2:q2)(f3:q3)(f4:q4)(f5:q5)(f6:q6)(h:q0->q1->q2->q3->q4->q5->q6->p:=by intro f0 f1 f2 f3 f4 f5 f6;simp only[am,aI,simprocAttr,f0,f1,f2,f3,f4,f5,f6]):p:=h f0 f1 f2 f3 f4 f5 f6
theorem Zi0(h:p:=by simp only[am,aI,simprocAttr,bP]):p:=h
theorem Zi1(f0:q0)(h:q0->p:=by intro f0;simp only[am,aI,simprocAttr,bP,f0]):p:=h f0
theorem Zi2(f0:q0)(f1:q1)(h:q0->q1->p:=by intro f0 f1;simp only[am,aI,simprocAttr,bP,f0,f1]):p:=h f0 f1
theorem Zi3(f0:q0)(f1:q1)(f2:q2)(h:q0->q1->q2->p:=by intro f0 f1 f2;simp only[am,aI,simprocAttr,bP,f0,f1,f2]):p:=h f0 f1 f2
theorem Zi4(f0:q0)(f1:q1)(f2:q2)(f3:q3)(h:q0->q1->q2->q3->p:=by intro f0 f1 f2 f3;simp only[am,aI,simprocAttr,bP,f0,f1,f2,f3]):p:=h f0 f1 f2 f3
theorem Zi6(f0:q0)(f1:q1)(f2:q2)(f3:q3)(f4:q4)(f5:q5)(h:q0->q1->q2->q3->q4->q5->p:=by intro f0 f1 f2 f3 f4 f5;simp only[am,aI,simprocAttr,bP,f0,f1,f2,f3,f4,f5]):p:=h f0 f1 f2 f3 f4 f5
def Nt:=@Ext.new
def Nu:=@Ext.refl
def Nv:=@Upd.put
end Go.Am
