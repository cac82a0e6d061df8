/-
  Steps of regions, first order: for simp.
-/
import Derived.Test.YtpeemonpdlifbaaQAmW
set_option linter.all false
namespace Go.Am
def gd (w:Option Bool) (x:Option (AV×AH)) (h:AH):Option (AV×AH) :=
 match w with
 | some true=>x
 | some false=>some (.un,h)
 | none=>none
def putR (ts:Tm) (d:Option Nat):Option (AV×AH)→Option (Tm×AH)
 | some (v,h)=>some (dput ts d v,h)
 | none=>none
def ckR (cs:List (Nat×ROp×Option (Nat×Bool))) (s:Option (Tm×AH)):Option (Tm×AH) :=
 match cs with
 | []=>s
 | c::r=>match s with
   | some (ts,h)=>if chks ts h (c::r)=true then some (ts,h) else none
   | none=>none
theorem ckR_spec {cs:List (Nat×ROp×Option (Nat×Bool))}{s:Option (Tm×AH)}{ts:Tm}{h:AH} (he:ckR cs s=some (ts,h)):s=some (ts,h)∧chks ts h cs=true:=by
 unfold ckR at he
 split at he
 ·exact⟨he,rfl⟩
 ·split at he
  ·split at he
   ·rename_i hc
    simp only[Option.some.injEq,Prod.mk.injEq] at he
    obtain⟨rfl,rfl⟩:=he
    exact⟨rfl,hc⟩
   ·cases he
  ·cases he
def stp (b:Nat) (o:ROper):Option (Tm×AH)→Option (Tm×AH)
 | some (ts,h)=>ckR o.cs (putR ts o.dst (gd (wanted ts o.guard) (evN b (RO.ev ts) h o) h))
 | none=>none
def G (P:RP) (b:Nat) (l:List ROper) (s:Option (Tm×AH)) (K:Tm→AH→Prop):Prop:=∃ ts h,s=some (ts,h)∧wops P b l ts h K
theorem wop_of_ev {P:RP}{b:Nat}{ts:Tm}{h:AH}{K:AV→AH→Prop}{o:ROper}{v:AV}{h':AH} (he:evN b (RO.ev ts) h o=some (v,h')) (hk:K v h'):wop P b ts h K o:=by
 have hno:o.op.cls≠2→evOp (RO.ev ts) h o.op=some (v,h'):=fun q=>(evN_un q he).2
 unfold wop
 split
 ·rename_i ho; rw[ho] at hno; have:=hno (by simp [ROp.cls]); simp [evOp] at this
 ·rename_i ho; rw[ho] at hno; have:=hno (by simp [ROp.cls]); simp [evOp] at this
 ·rename_i ho; rw[ho] at hno; have:=hno (by simp [ROp.cls]); simp [evOp] at this
 ·exact⟨v,h',he,hk⟩
theorem G.op {P:RP}{b:Nat}{o:ROper}{l:List ROper}{s:Option (Tm×AH)}{K:Tm→AH→Prop} (hg:G P b l (stp b o s) K):G P b (o::l) s K:=by
 obtain⟨ts',h',hs,hw⟩:=hg
 cases s with
 | none=>cases hs
 | some p =>
   obtain⟨ts,h⟩:=p
   refine⟨ts,h,rfl,?_⟩
   simp only[stp] at hs
   obtain⟨hs,hck⟩:=ckR_spec hs
   unfold wops
   cases hwn:wanted ts o.guard with
   | none=>rw[hwn] at hs; simp [gd,putR] at hs
   | some t =>
     rw[hwn] at hs
     cases t with
     | false =>
       simp only[gd,putR,Option.some.injEq,Prod.mk.injEq] at hs
       obtain⟨rfl,rfl⟩:=hs
       exact hw
     | true =>
       simp only[gd] at hs
       cases he:evN b (RO.ev ts) h o with
       | none=>rw[he] at hs; simp [putR] at hs
       | some q =>
         obtain⟨v,h2⟩:=q
         rw[he] at hs
         simp only[putR,Option.some.injEq,Prod.mk.injEq] at hs
         obtain⟨rfl,rfl⟩:=hs
         exact wop_of_ev he ⟨hw,hck⟩
def stps (b:Nat):List ROper→Option (Tm×AH)→Option (Tm×AH)
 | [],s=>s
 | o::l,s=>stps b l (stp b o s)
theorem G.ops {P:RP}{b:Nat}:∀ {l l':List ROper}{s:Option (Tm×AH)}{K:Tm→AH→Prop},G P b l' (stps b l s) K→G P b (l++l') s K
 | [],_,_,_,h=>h
 | _::_,_,_,_,h=>G.op (G.ops h)
theorem G.done {P:RP}{b:Nat}{ts:Tm}{h:AH}{K:Tm→AH→Prop} (hk:K ts h):G P b [] (some (ts,h)) K:=⟨ts,h,rfl,hk⟩
section
variable {P:RP}{b:Nat}{d:Option Nat}{g:Option (Nat×Bool)}{nm:Option Nat}{cs:List (Nat×ROp×Option (Nat×Bool))}{l:List ROper}{ts:Tm}{h:AH}{K:Tm→AH→Prop}
theorem G.at {ts:Tm}{h:AH} (hg:G P b l (some (ts,h)) K):wops P b l ts h K:=by
 obtain⟨ts',h'',hs,hw⟩:=hg
 simp only[Option.some.injEq,Prod.mk.injEq] at hs
 obtain⟨rfl,rfl⟩:=hs
 exact hw
theorem G.callc {f:FuncId}{args:List RO} (hw:wanted ts g=some true) (hc:C P f (args.map (RO.ev ts)) h fun v h'=>chks (dput ts d v) h' cs=true∧G P b l (some (dput ts d v,h')) K):G P b (⟨d,.call f args,g,nm,cs⟩::l) (some (ts,h)) K:=by
 refine⟨ts,h,rfl,?_⟩
 simp only[wops,hw,wop]
 exact hc.mono fun v h' hg=>⟨hg.2.at,hg.1⟩
theorem G.callg {f:FuncId}{args:List RO} (hw:wanted ts g=some true) (hc:C P f (args.map (RO.ev ts)) h fun v h'=>G P b l (some (dput ts d v,h')) K):G P b (⟨d,.call f args,g,nm,[]⟩::l) (some (ts,h)) K :=
 G.callc hw (hc.mono fun _ _ q=>⟨rfl,q⟩)
theorem G.callvc {x:RO}{f:FuncId}{caps:List AV}{args:List RO} (hw:wanted ts g=some true) (hx:RO.ev ts x=.fn f caps)
 (hc:C P f (args.map (RO.ev ts)++caps) h fun v h'=>chks (dput ts d v) h' cs=true∧G P b l (some (dput ts d v,h')) K):G P b (⟨d,.callv x args,g,nm,cs⟩::l) (some (ts,h)) K:=by
 refine⟨ts,h,rfl,?_⟩
 simp only[wops,hw,wop]
 exact .inl ⟨f,caps,hx,hc.mono fun v h' hg=>⟨hg.2.at,hg.1⟩⟩
theorem G.callv {x:RO}{f:FuncId}{caps:List AV}{args:List RO} (hw:wanted ts g=some true) (hx:RO.ev ts x=.fn f caps)
 (hc:C P f (args.map (RO.ev ts)++caps) h fun v h'=>G P b l (some (dput ts d v,h')) K):G P b (⟨d,.callv x args,g,nm,[]⟩::l) (some (ts,h)) K:=G.callvc hw hx (hc.mono fun _ _ q=>⟨rfl,q⟩)
theorem G.yield {x:RO}{c:Nat}{args:List RO} (hw:wanted ts g=some true) (hx:RO.ev ts x=.yld c)
 (hc:Y P c (args.map (RO.ev ts)) h fun v h'=>chks (dput ts d v) h' cs=true∧G P b l (some (dput ts d v,h')) K):G P b (⟨d,.callv x args,g,nm,cs⟩::l) (some (ts,h)) K:=by
 refine⟨ts,h,rfl,?_⟩
 simp only[wops,hw,wop]
 exact .inr ⟨c,hx,hc.mono fun v h' hg=>⟨hg.2.at,hg.1⟩⟩
end
theorem W.reg {P:RP}{ops:List ROper}{ts:Tm}{h:AH}{Kn Kr:Tm→AH→Prop}{Kx:Nat→Tm→AH→Prop} (hg:G P h.next ops (some (ts,h)) Kn):W P (.reg ops) ts h Kn Kr Kx:=hg.at
theorem W.regK {P:RP}{kn:Nat}{ops:List ROper}{ts:Tm}{h:AH}{Kn Kr:Tm→AH→Prop}{Kx:Nat→Tm→AH→Prop} (hg:G P h.next ops (some (ts,h.keep kn)) Kn):W P (.regK kn ops) ts h Kn Kr Kx:=hg.at
theorem G.run {P:RP}{b:Nat}{ops:List ROper}{s:Option (Tm×AH)}{K:Tm→AH→Prop}{ts':Tm}{h':AH} (hs:stps b ops s=some (ts',h')) (hk:K ts' h'):G P b ops s K:=by
 have:G P b (ops++[]) s K:=G.ops (by rw[hs]; exact G.done hk)
 rwa [List.append_nil] at this
theorem W.run {P:RP}{ops:List ROper}{ts:Tm}{h:AH}{Kn Kr:Tm→AH→Prop}{Kx:Nat→Tm→AH→Prop}{ts':Tm}{h':AH} (hs:stps h.next ops (some (ts,h))=some (ts',h')) (hk:Kn ts' h'):W P (.reg ops) ts h Kn Kr Kx:=W.reg (G.run hs hk)
def okR (s:Option (Tm×AH)) (Q:Tm→AH→Prop):Prop :=
 match s with
 | some (ts,h)=>Q ts h
 | none=>False
section
variable {P:RP}{ts:Tm}{h:AH}{Kn Kr:Tm→AH→Prop}{Kx:Nat→Tm→AH→Prop}
theorem W.seq {a b:RC} (hw:W P a ts h (fun ts h=>W P b ts h Kn Kr Kx) Kr Kx):W P (.seq a b) ts h Kn Kr Kx:=hw
theorem W.skip (hw:Kn ts h):W P .skip ts h Kn Kr Kx:=hw
theorem W.ret (hw:Kr ts h):W P .ret ts h Kn Kr Kx:=hw
theorem W.exit {i:Nat} (hw:Kx i ts h):W P (.exit i) ts h Kn Kr Kx:=hw
theorem W.block {i:Nat}{c:RC} (hw:W P c ts h Kn Kr (fun j ts h=>(j=i→Kn ts h)∧(j≠i→Kx j ts h))):W P (.block i c) ts h Kn Kr Kx:=hw
theorem W.yes {c:RO}{a b:RC} (hc:RO.ev ts c=.bool true) (hw:W P a ts h Kn Kr Kx):W P (.cond c a b) ts h Kn Kr Kx:=.inl ⟨hc,hw⟩
theorem W.no {c:RO}{a b:RC} (hc:RO.ev ts c=.bool false) (hw:W P b ts h Kn Kr Kx):W P (.cond c a b) ts h Kn Kr Kx:=.inr ⟨hc,hw⟩
theorem W.cond {c:RO}{a b:RC}{t:Bool} (hc:RO.ev ts c=.bool t) (h1:t=true→W P a ts h Kn Kr Kx) (h2:t=false→W P b ts h Kn Kr Kx):W P (.cond c a b) ts h Kn Kr Kx:=by
 cases t
 ·exact .inr ⟨hc,h2 rfl⟩
 ·exact .inl ⟨hc,h1 rfl⟩
theorem G.runs {b:Nat}{ops:List ROper}{s:Option (Tm×AH)}{K:Tm→AH→Prop} (Q:Tm→AH→Prop) (hs:okR (stps b ops s) Q) (hk:∀ ts' h',Q ts' h'→K ts' h'):G P b ops s K:=by
 cases he:stps b ops s with
 | none=>rw[he] at hs; exact hs.elim
 | some p =>
   obtain⟨ts',h'⟩:=p
   rw[he] at hs
   exact G.run he (hk _ _ hs)
theorem W.runs {ops:List ROper} (Q:Tm→AH→Prop) (hs:okR (stps h.next ops (some (ts,h))) Q) (hk:∀ ts' h',Q ts' h'→Kn ts' h'):W P (.reg ops) ts h Kn Kr Kx:=W.reg (G.runs Q hs hk)
theorem W.runsK {kn:Nat}{ops:List ROper} (Q:Tm→AH→Prop) (hs:okR (stps h.next ops (some (ts,h.keep kn))) Q) (hk:∀ ts' h',Q ts' h'→Kn ts' h'):W P (.regK kn ops) ts h Kn Kr Kx:=W.regK (G.runs Q hs hk)
end
theorem wops_mono {P:RP}{b:Nat}:∀ {l:List ROper}{ts:Tm}{h:AH}{K K':Tm→AH→Prop},wops P b l ts h K→(∀ ts h,K ts h→K' ts h)→wops P b l ts h K'
 | [],_,_,_,_,hw,hk=>hk _ _ hw
 | o::l,ts,h,K,K',hw,hk=>by
   unfold wops at hw ⊢
   split at hw
   ·unfold wop at hw ⊢
    split at hw
    ·exact hw.mono fun v h' q=>⟨wops_mono q.1 hk,q.2⟩
    ·rcases hw with ⟨f,caps,hx,hc⟩|⟨b,hx,hc⟩
     ·exact .inl ⟨f,caps,hx,hc.mono fun v h' q=>⟨wops_mono q.1 hk,q.2⟩⟩
     ·exact .inr ⟨b,hx,hc.mono fun v h' q=>⟨wops_mono q.1 hk,q.2⟩⟩
    ·obtain⟨as,h1,h2⟩:=hw
     exact⟨as,h1,fun v h' hm=>⟨wops_mono (h2 v h' hm).1 hk,(h2 v h' hm).2⟩⟩
    ·obtain⟨v,h',he,q⟩:=hw
     exact⟨v,h',he,wops_mono q.1 hk,q.2⟩
   ·exact wops_mono hw hk
   ·exact hw
theorem fin_mono {Kn Kn' Kr Kr':Tm→AH→Prop}{Kx Kx':Nat→Tm→AH→Prop} (h1:∀ ts h,Kn ts h→Kn' ts h) (h2:∀ ts h,Kr ts h→Kr' ts h) (h3:∀ i ts h,Kx i ts h→Kx' i ts h):∀ r,fin Kn Kr Kx r→fin Kn' Kr' Kx' r
 | .norm _ _,q=>h1 _ _ q
 | .exit _ _ _,q=>h3 _ _ _ q
 | .ret _ _,q=>h2 _ _ q
 | .val _ _,q=>q
theorem W.mono {P:RP}:∀ (c:RC) {ts:Tm}{h:AH}{Kn Kn' Kr Kr':Tm→AH→Prop}{Kx Kx':Nat→Tm→AH→Prop},W P c ts h Kn Kr Kx→(∀ ts h,Kn ts h→Kn' ts h)→(∀ ts h,Kr ts h→Kr' ts h)→(∀ i ts h,Kx i ts h→Kx' i ts h)→W P c ts h Kn' Kr' Kx'
 | .skip,_,_,_,_,_,_,_,_,hw,h1,_,_=>h1 _ _ hw
 | .reg _,_,_,_,_,_,_,_,_,hw,h1,_,_=>wops_mono hw h1
 | .regD _ _ _,_,_,_,_,_,_,_,_,hw,h1,h2,h3=>BS.mono hw (fin_mono h1 h2 h3)
 | .regK _ _,_,_,_,_,_,_,_,_,hw,h1,_,_=>wops_mono hw h1
 | .rangeF _ _ _ _ _ _,_,_,_,_,_,_,_,_,hw,h1,h2,h3=>BS.mono hw (fin_mono h1 h2 h3)
 | .seq a b,_,_,_,_,_,_,_,_,hw,h1,h2,h3=>W.mono a hw (fun _ _ q=>W.mono b q h1 h2 h3) h2 h3
 | .cond _ a b,_,_,_,_,_,_,_,_,hw,h1,h2,h3=>by
   rcases hw with ⟨x,y⟩|⟨x,y⟩
   ·exact .inl ⟨x,W.mono a y h1 h2 h3⟩
   ·exact .inr ⟨x,W.mono b y h1 h2 h3⟩
 | .block _ c,_,_,_,_,_,_,_,_,hw,h1,h2,h3=>W.mono c hw h1 h2 fun i ts h q=>⟨fun e=>h1 _ _ (q.1 e),fun e=>h3 _ _ _ (q.2 e)⟩
 | .loop _,_,_,_,_,_,_,_,_,hw,h1,h2,h3=>BS.mono hw (fin_mono h1 h2 h3)
 | .exit _,_,_,_,_,_,_,_,_,hw,_,_,h3=>h3 _ _ _ hw
 | .ret,_,_,_,_,_,_,_,_,hw,_,h2,_=>h2 _ _ hw
 | .bad,_,_,_,_,_,_,_,_,hw,_,_,_=>hw.elim
theorem W.cut {P:RP}{c:RC}{ts:Tm}{h:AH}{Kn Kr:Tm→AH→Prop}{Kx:Nat→Tm→AH→Prop} (Q:Tm→AH→Prop) (hw:W P c ts h Q Kr Kx) (hk:∀ ts h,Q ts h→Kn ts h):W P c ts h Kn Kr Kx:=W.mono c hw hk (fun _ _ q=>q) (fun _ _ _ q=>q)
structure Upd (h h':AH) (s:Nat) (o:AO):Prop where
 nx:h'.next=h.next
 gt:∀ c,h'.get c=if c=s then some o else h.get c
 ty:∀ c,h'.tyOf c=h.tyOf c
theorem Upd.put {h:AH}{s:Nat}{o1 o:AO} (hg:h.get s=some o1):Upd h (h.put s o) s o:=⟨rfl,fun c=>by
 rw[AH.get_put _ _ _ _ (AH.lt_of_get hg)]
 by_cases e:s=c
 ·subst e; simp
 ·simp [e,Ne.symm e],fun _=>rfl⟩
theorem Upd.refl {h:AH}{s:Nat}{o:AO} (hg:h.get s=some o):Upd h h s o:=⟨rfl,fun c=>by
 by_cases e:c=s
 ·subst e; simp [hg]
 ·simp [e],fun _=>rfl⟩
theorem Upd.trans {h h1 h2:AH}{s:Nat}{o1 o2:AO} (a:Upd h h1 s o1) (b:Upd h1 h2 s o2):Upd h h2 s o2:=⟨b.1.trans a.1,fun c=>by
 rw[b.2,a.2]
 by_cases e:c=s<;>simp [e],fun c=>(b.ty c).trans (a.ty c)⟩
theorem Upd.get {h h':AH}{s:Nat}{o:AO} (a:Upd h h' s o):h'.get s=some o:=by rw[a.2]; simp
theorem Upd.ne {h h':AH}{s c:Nat}{o:AO} (a:Upd h h' s o) (e:c≠s):h'.get c=h.get c:=by rw[a.2]; simp [e]
structure Ext (n:Nat) (h h':AH):Prop where
 nx:h.next≤h'.next
 gt:∀ c,c<n→h'.get c=h.get c
 ty:∀ c,c<n→h'.tyOf c=h.tyOf c
theorem Ext.refl {n:Nat}{h:AH}:Ext n h h:=⟨Nat.le_refl _,fun _ _=>rfl,fun _ _=>rfl⟩
theorem Ext.trans {n:Nat}{h h1 h2:AH} (a:Ext n h h1) (b:Ext n h1 h2):Ext n h h2:=⟨Nat.le_trans a.1 b.1,fun c hc=>by rw[b.2 c hc,a.2 c hc],fun c hc=>(b.ty c hc).trans (a.ty c hc)⟩
theorem Ext.new {n:Nat}{h:AH}{o:AO} (hn:n≤h.next):Ext n h (h.new o):=⟨by simp,fun c hc=>by rw[AH.get_new,if_neg (by omega)],fun _ _=>rfl⟩
theorem Ext.put {n:Nat}{h:AH}{s:Nat}{o:AO} (hs:n≤s):Ext n h (h.put s o):=⟨by simp,fun c hc=>by
 unfold AH.get AH.put
 simp only[T.get_set,path_inj]
 have e:¬ s=c:=by omega
 simp [e],fun _ _=>rfl⟩
theorem Upd.ext {n:Nat}{h h':AH}{s:Nat}{o:AO} (a:Upd h h' s o) (hs:n≤s):Ext n h h':=⟨by rw[a.1]; exact Nat.le_refl _,fun c hc=>a.ne (by omega),fun c _=>a.ty c⟩
theorem Ext.mono {n m:Nat}{h h':AH} (a:Ext n h h') (hm:m≤n):Ext m h h':=⟨a.1,fun c hc=>a.2 c (by omega),fun c hc=>a.ty c (by omega)⟩
theorem stp_some {b:Nat}{o:ROper}{ts:Tm}{h:AH}:stp b o (some (ts,h))=ckR o.cs (putR ts o.dst (gd (wanted ts o.guard) (evN b (RO.ev ts) h o) h)):=rfl
theorem stps_nil {b:Nat}{s:Option (Tm×AH)}:stps b [] s=s:=rfl
theorem stps_cons {b:Nat}{o:ROper}{l:List ROper}{s:Option (Tm×AH)}:stps b (o::l) s=stps b l (stp b o s):=rfl
theorem ckR_nil {s:Option (Tm×AH)}:ckR [] s=s:=rfl
theorem ckR_cons {c:Nat×ROp×Option (Nat×Bool)}{r:List (Nat×ROp×Option (Nat×Bool))}{ts:Tm}{h:AH}:ckR (c::r) (some (ts,h))=if chks ts h (c::r)=true then some (ts,h) else none:=rfl
theorem evN_none {b:Nat}{ev:RO→AV}{h:AH}{d:Option Nat}{op:ROp}{g:Option (Nat×Bool)}{cs:List (Nat×ROp×Option (Nat×Bool))}:evN b ev h ⟨d,op,g,none,cs⟩=evOp ev h op:=rfl
theorem evN_some {b j:Nat}{ev:RO→AV}{h:AH}{d:Option Nat}{op:ROp}{g:Option (Nat×Bool)}{cs:List (Nat×ROp×Option (Nat×Bool))}:evN b ev h ⟨d,op,g,some j,cs⟩=evNew ev h (b+j) op:=rfl
theorem evNew_resv {ev:RO→AV}{h:AH}{n:Nat}{op:ROp} (hg:h.get n=some .resv):evNew ev h n op=match lay ev h op with
 | some (f,o,tg)=>some (f n,h.putG n o tg)
 | none=>none:=by simp only[evNew,hg]; cases lay ev h op<;>rfl
theorem putR_some {ts:Tm}{d:Option Nat}{v:AV}{h:AH}:putR ts d (some (v,h))=some (dput ts d v,h):=rfl
theorem gd_true {x:Option (AV×AH)}{h:AH}:gd (some true) x h=x:=rfl
theorem gd_false {x:Option (AV×AH)}{h:AH}:gd (some false) x h=some (.un,h):=rfl
theorem wanted_none {ts:Tm}:wanted ts none=some true:=rfl
theorem wanted_some {ts:Tm}{n:Nat}{b:Bool}:wanted ts (some (n,b))=match tget ts n with
 | .bool c=>some (c==b)
 | .tup []=>some false
 | _=>none:=rfl
theorem dput_some {ts:Tm}{n:Nat}{v:AV}:dput ts (some n) v=tput ts n v:=rfl
theorem dput_none {ts:Tm}{v:AV}:dput ts none v=ts:=rfl
theorem ev_t {ts:Tm}{n:Nat}:RO.ev ts (.t n)=tget ts n:=rfl
theorem ev_c {ts:Tm}{v:AV}:RO.ev ts (.c v)=v:=rfl
theorem okR_some {ts:Tm}{h:AH}{Q:Tm→AH→Prop}:okR (some (ts,h)) Q=Q ts h:=rfl
theorem loadA_ptr {h:AH}{g:Bool}{n b o:Nat}:loadA h g n (.ptr b o)=match rdCells h b o n with
 | some cs=>(packA g cs).map (·,h)
 | none=>none:=rfl
theorem fadrA_ptr {off b o:Nat}:fadrA off (.ptr b o)=some (.ptr b (o+off)):=rfl
theorem nilckA_ptr {b o:Nat}:nilckA (.ptr b o)=some (.ptr b o):=rfl
theorem packA_one {v:AV}:packA false [v]=some v:=rfl
theorem packA_agg {cs:List AV}:packA true cs=some (.agg cs):=rfl
theorem pickA_true {a b:AV}:pickA (.bool true) a b=some a:=rfl
theorem pickA_false {a b:AV}:pickA (.bool false) a b=some b:=rfl
theorem unA_not {b:Bool}:unA .not (.bool b)=some (.bool !b):=rfl
section
variable {e:RE}{k:IntKind}{a b:Int}
theorem bin_add:binA .add e (.int k a) (.int k b)=some (.int k (k.wrap (a+b))):=by simp [binA,binInt]
theorem bin_sub:binA .sub e (.int k a) (.int k b)=some (.int k (k.wrap (a-b))):=by simp [binA,binInt]
theorem bin_mul:binA .mul e (.int k a) (.int k b)=some (.int k (k.wrap (a*b))):=by simp [binA,binInt]
theorem bin_quo:binA .quo e (.int k a) (.int k b)=if b=0 then none else some (.int k (k.wrap (a.tdiv b))):=by simp [binA,binInt]
theorem bin_rem:binA .rem e (.int k a) (.int k b)=if b=0 then none else some (.int k (a.tmod b)):=by simp [binA,binInt]
theorem bin_eql:binA .eql e (.int k a) (.int k b)=some (.bool (decide (a=b))):=by simp only[binA,binInt,reduceCtorEq,or_self,if_false,if_true]; rfl
theorem bin_neq:binA .neq e (.int k a) (.int k b)=some (.bool (!decide (a=b))):=by simp only[binA,binInt,reduceCtorEq,or_self,if_false,if_true]; rfl
theorem bin_lss:binA .lss e (.int k a) (.int k b)=some (.bool (decide (a<b))):=by simp [binA,binInt]
theorem bin_leq:binA .leq e (.int k a) (.int k b)=some (.bool (decide (a≤b))):=by simp [binA,binInt]
theorem bin_gtr:binA .gtr e (.int k a) (.int k b)=some (.bool (decide (b<a))):=by simp [binA,binInt]
theorem bin_geq:binA .geq e (.int k a) (.int k b)=some (.bool (decide (b≤a))):=by simp [binA,binInt]
theorem bin_band:binA .and e (.int k a) (.int k b)=(bits .and k a b).map (.int k):=by simp [binA,binInt]
theorem bin_sadd {x y:List UInt8}:binA .add e (.str x) (.str y)=if x.length+y.length<2 ^ 62 then some (.str (x++y)) else none:=rfl
theorem bin_seql {x y:List UInt8}:binA .eql e (.str x) (.str y)=some (.bool (x==y)):=rfl
theorem bin_beql {x y:Bool}:binA .eql .bl (.bool x) (.bool y)=some (.bool (x==y)):=rfl
theorem bin_agg {ks:List IntKind}{xs ys:List AV}:binA .neq (.flat ks) (.agg xs) (.agg ys)=(flatEq ks xs ys).map fun b=>.bool !b:=by
 simp only[binA,eqAV,eqF]
end
theorem lenSA_str {s:List UInt8}:lenSA (.str s)=some (.int .i64 s.length):=rfl
theorem lenLA_sl {b o n c:Nat}:lenLA (.sl b o n c)=some (.int .i64 n):=rfl
theorem lenLA_nils:lenLA .nils=some (.int .i64 0):=rfl
theorem cvIA_int {k k':IntKind}{n:Int}:cvIA k (.int k' n)=some (.int k (k.wrap n)):=rfl
theorem cvBSA_sl {h:AH}{b o n c:Nat}:cvBSA h (.sl b o n c)=match rdCells h b o n with
 | some cs=>(bytesOf cs).map .str
 | none=>none:=rfl
theorem cvBSA_nils {h:AH}:cvBSA h .nils=some (.str []):=rfl
theorem iadrL_sl {e b o n c:Nat}{k:IntKind}{i:Int}:iadrL e (.sl b o n c) (.int k i)=(idx? i n).map fun i=>.ptr b (o+i*e):=rfl
theorem idxSA_str {s:List UInt8}{k:IntKind}{i:Int}:idxSA (.str s) (.int k i)=if 0≤i then (s[i.toNat]?).map fun c=>.int .u8 c.toNat else none:=rfl
theorem extA_tup {vs:List AV}{i:Nat}:extA (.tup vs) i=vs[i]?:=rfl
theorem storeA_ptr {h:AH}{n b o:Nat}{v:AV}:storeA h n (.ptr b o) v=if v.cells.length=n∧v.cells.all AV.one then (wrCells h b o v.cells).map fun h'=>(.un,h') else none:=rfl
theorem rdCells_of {h:AH}{b o n e:Nat}{cs:List AV}{ro:Bool} (hg:h.get b=some (.cells cs e ro)):rdCells h b o n=if o+n≤cs.length then some ((cs.drop o).take n) else none:=by simp [rdCells,hg]
theorem wrCells_of {h:AH}{b o e:Nat}{vs cs:List AV} (hg:h.get b=some (.cells cs e false)):wrCells h b o vs=if o+vs.length≤cs.length then some (h.put b (.cells (splice cs o vs) e false)) else none:=by simp [wrCells,hg]
theorem repl_zero {z:List AV}:repl z 0=[]:=rfl
theorem repl_one {z:List AV}:repl z 1=z:=by simp [repl]
theorem cells_int {k:IntKind}{n:Int}:AV.cells (.int k n)=[.int k n]:=rfl
theorem one_int {k:IntKind}{n:Int}:AV.one (.int k n)=true:=rfl
theorem cells_bool {b:Bool}:AV.cells (.bool b)=[.bool b]:=rfl
theorem one_bool {b:Bool}:AV.one (.bool b)=true:=rfl
theorem cells_str {s:List UInt8}:AV.cells (.str s)=[.str s]:=rfl
theorem one_str {s:List UInt8}:AV.one (.str s)=true:=rfl
theorem cells_ptr {b o:Nat}:AV.cells (.ptr b o)=[.ptr b o]:=rfl
theorem one_ptr {b o:Nat}:AV.one (.ptr b o)=true:=rfl
theorem cells_nilp:AV.cells (.nilp)=[.nilp]:=rfl
theorem one_nilp:AV.one (.nilp)=true:=rfl
theorem cells_sl {b o n c:Nat}:AV.cells (.sl b o n c)=[.sl b o n c]:=rfl
theorem one_sl {b o n c:Nat}:AV.one (.sl b o n c)=true:=rfl
theorem cells_nils:AV.cells (.nils)=[.nils]:=rfl
theorem one_nils:AV.one (.nils)=true:=rfl
theorem cells_mp {b:Nat}:AV.cells (.mp b)=[.mp b]:=rfl
theorem one_mp {b:Nat}:AV.one (.mp b)=true:=rfl
theorem cells_nilm:AV.cells (.nilm)=[.nilm]:=rfl
theorem one_nilm:AV.one (.nilm)=true:=rfl
theorem cells_fn {f:FuncId}{cs:List AV}:AV.cells (.fn f cs)=[.fn f cs]:=rfl
theorem one_fn {f:FuncId}{cs:List AV}:AV.one (.fn f cs)=true:=rfl
theorem cells_nilf:AV.cells (.nilf)=[.nilf]:=rfl
theorem one_nilf:AV.one (.nilf)=true:=rfl
theorem cells_ifc {t:TypeId}{v:AV}:AV.cells (.ifc t v)=[.ifc t v]:=rfl
theorem one_ifc {t:TypeId}{v:AV}:AV.one (.ifc t v)=true:=rfl
theorem cells_nili:AV.cells (.nili)=[.nili]:=rfl
theorem one_nili:AV.one (.nili)=true:=rfl
theorem cells_agg {cs:List AV}:AV.cells (.agg cs)=cs:=rfl
theorem chks_nil {ts:Tm}{h:AH}:chks ts h []=true:=rfl
theorem chks_cons {ts:Tm}{h:AH}{c:Nat×ROp×Option (Nat×Bool)}{r:List (Nat×ROp×Option (Nat×Bool))}:chks ts h (c::r)=(chk1 ts h c&&chks ts h r):=rfl
theorem chk1_none {ts:Tm}{h:AH}{d:Nat}{op:ROp}:chk1 ts h (d,op,none)=match evOp (RO.ev ts) h op with
 | some (v,_)=>AV.same v (tget ts d)
 | none=>false:=rfl
theorem same_nils:AV.same .nils .nils=true:=rfl
theorem same_nilp:AV.same .nilp .nilp=true:=rfl
theorem same_nilm:AV.same .nilm .nilm=true:=rfl
theorem same_int {k:IntKind}{a:Int}:AV.same (.int k a) (.int k a)=true:=by
 show (k==k&&a==a)=true
 simp
theorem same_bool {a:Bool}:AV.same (.bool a) (.bool a)=true:=by
 show (a==a)=true
 simp
theorem same_str {a:List UInt8}:AV.same (.str a) (.str a)=true:=by
 show (a==a)=true
 simp
theorem same_ptr {a b:Nat}:AV.same (.ptr a b) (.ptr a b)=true:=by
 show (a==a&&b==b)=true
 simp
theorem same_mp {a:Nat}:AV.same (.mp a) (.mp a)=true:=by
 show (a==a)=true
 simp
theorem same_sl {a b c d:Nat}:AV.same (.sl a b c d) (.sl a b c d)=true:=by
 show (a==a&&b==b&&c==c&&d==d)=true
 simp
@[reducible] def mv (d x:Nat):ROper:=⟨some d,.mov (.t x),none,none,[]⟩
@[reducible] def mi (d:Nat) (n:Int):ROper:=⟨some d,.mov (.c (.int .i64 n)),none,none,[]⟩
@[reducible] def mn (d:Nat):ROper:=⟨some d,.mov (.c .nils),none,none,[]⟩
@[reducible] def mb (d:Nat) (b:Bool):ROper:=⟨some d,.mov (.c (.bool b)),none,none,[]⟩
@[reducible] def ld (d x:Nat):ROper:=⟨some d,.load false 1 (.t x),none,none,[]⟩
@[reducible] def la (d n x:Nat):ROper:=⟨some d,.load true n (.t x),none,none,[]⟩
@[reducible] def fa (d o x:Nat):ROper:=⟨some d,.fadr o (.t x),none,none,[]⟩
@[reducible] def nk (d x:Nat):ROper:=⟨some d,.nilck (.t x),none,none,[]⟩
@[reducible] def ia (d e x i:Nat):ROper:=⟨some d,.iadr e (.t x) (.t i),none,none,[]⟩
@[reducible] def le (d x:Nat):ROper:=⟨some d,.lenL (.t x),none,none,[]⟩
@[reducible] def bn (d:Nat) (o:BinOp) (x y:Nat):ROper:=⟨some d,.bin o .no (.t x) (.t y),none,none,[]⟩
@[reducible] def bc (d:Nat) (o:BinOp) (x:Nat) (n:Int):ROper:=⟨some d,.bin o .no (.t x) (.c (.int .i64 n)),none,none,[]⟩
@[reducible] def nt (d x:Nat):ROper:=⟨some d,.un .not (.t x),none,none,[]⟩
@[reducible] def ex (d x i:Nat):ROper:=⟨some d,.ext (.t x) i,none,none,[]⟩
@[reducible] def so (a v:Nat):ROper:=⟨none,.store 1 (.t a) (.t v),none,none,[]⟩
@[reducible] def o1 (d:Nat) (op:ROp):ROper:=⟨some d,op,none,none,[]⟩
@[reducible] def o0 (op:ROp):ROper:=⟨none,op,none,none,[]⟩
@[reducible] def og (d:Nat) (op:ROp) (n:Nat) (b:Bool):ROper:=⟨some d,op,some (n,b),none,[]⟩
@[reducible] def ci (n:Int):RO:=.c (.int .i64 n)
@[reducible] def cC (d f:Nat) (ts:List Nat):ROper:=⟨some d,.call f (ts.map RO.t),none,none,[]⟩
@[reducible] def kS (r:List ROper) (x:RC):RC:=.seq (.reg r) x
@[reducible] def kT (t:Nat) (a b:RC):RC:=.cond (.t t) a b
@[reducible] def kF (B i n c j B1:Nat) (x:RC):RC:=.block B (.loop (.seq (.reg [bn c .lss i n]) (.seq (.cond (.t c) .skip (.exit B)) (.seq (.block B1 x) (.reg [bc j .add i 1,mv i j])))))
@[reducible] def kW (B c B1:Nat) (T inc:List ROper) (x:RC):RC:=.block B (.loop (.seq (.seq (.reg T) (.cond (.t c) .skip (.exit B))) (.seq (.block B1 x) (.reg inc))))
theorem mv_eq {d x:Nat}:mv d x=⟨some d,.mov (.t x),none,none,[]⟩:=rfl
theorem cC_eq {d f:Nat}{ts:List Nat}:cC d f ts=⟨some d,.call f (ts.map RO.t),none,none,[]⟩:=rfl
theorem mi_eq {d:Nat}{n:Int}:mi d n=⟨some d,.mov (.c (.int .i64 n)),none,none,[]⟩:=rfl
theorem mn_eq {d:Nat}:mn d=⟨some d,.mov (.c .nils),none,none,[]⟩:=rfl
theorem mb_eq {d:Nat}{b:Bool}:mb d b=⟨some d,.mov (.c (.bool b)),none,none,[]⟩:=rfl
theorem ld_eq {d x:Nat}:ld d x=⟨some d,.load false 1 (.t x),none,none,[]⟩:=rfl
theorem la_eq {d n x:Nat}:la d n x=⟨some d,.load true n (.t x),none,none,[]⟩:=rfl
theorem fa_eq {d o x:Nat}:fa d o x=⟨some d,.fadr o (.t x),none,none,[]⟩:=rfl
theorem nk_eq {d x:Nat}:nk d x=⟨some d,.nilck (.t x),none,none,[]⟩:=rfl
theorem ia_eq {d e x i:Nat}:ia d e x i=⟨some d,.iadr e (.t x) (.t i),none,none,[]⟩:=rfl
theorem le_eq {d x:Nat}:le d x=⟨some d,.lenL (.t x),none,none,[]⟩:=rfl
theorem bn_eq {d:Nat}{o:BinOp}{x y:Nat}:bn d o x y=⟨some d,.bin o .no (.t x) (.t y),none,none,[]⟩:=rfl
theorem bc_eq {d:Nat}{o:BinOp}{x:Nat}{n:Int}:bc d o x n=⟨some d,.bin o .no (.t x) (.c (.int .i64 n)),none,none,[]⟩:=rfl
theorem nt_eq {d x:Nat}:nt d x=⟨some d,.un .not (.t x),none,none,[]⟩:=rfl
theorem ex_eq {d x i:Nat}:ex d x i=⟨some d,.ext (.t x) i,none,none,[]⟩:=rfl
theorem so_eq {a v:Nat}:so a v=⟨none,.store 1 (.t a) (.t v),none,none,[]⟩:=rfl
theorem o1_eq {d:Nat}{op:ROp}:o1 d op=⟨some d,op,none,none,[]⟩:=rfl
theorem o0_eq {op:ROp}:o0 op=⟨none,op,none,none,[]⟩:=rfl
theorem og_eq {d:Nat}{op:ROp}{n:Nat}{b:Bool}:og d op n b=⟨some d,op,some (n,b),none,[]⟩:=rfl
theorem ci_eq {n:Int}:ci n=.c (.int .i64 n):=rfl
theorem fill_nil {ev:RO→AV}{cs:List AV}:fill ev cs []=some cs:=rfl
theorem fill_cons {ev:RO→AV}{cs:List AV}{off n:Nat}{x:RO}{r:List (Nat×Nat×RO)}:fill ev cs ((off,n,x)::r)=if (ev x).cells.length=n∧off+n≤cs.length then fill ev (splice cs off (ev x).cells) r else none:=rfl
theorem boxA_eq {h:AH}{e n:Nat}{x:AV}:boxA h e n x=if x.cells.length=n then some (.ptr h.next 0,h.new (.cells x.cells e false)) else none:=rfl
theorem splice_eq {cs:List AV}{o:Nat}{vs:List AV}:splice cs o vs=cs.take o++vs++cs.drop (o+vs.length):=rfl
theorem un_eq:AV.un=.tup []:=rfl
theorem results_eq {f:RF}{ts:Tm}{h:AH}:results f ts h=match rdAll ts h f.results with
 | some [v]=>some v
 | some vs=>some (.tup vs)
 | none=>none:=rfl
theorem rdAll_nil {ts:Tm}{h:AH}:rdAll ts h []=some []:=rfl
theorem rdAll_cons {ts:Tm}{h:AH}{r:RR}{rs:List RR}:rdAll ts h (r::rs)=match rdRes ts h r,rdAll ts h rs with
 | some v,some vs=>some (v::vs)
 | _,_=>none:=rfl
theorem rdRes_t {ts:Tm}{h:AH}{n:Nat}:rdRes ts h (.t n)=some (tget ts n):=rfl
theorem rdRes_cell {ts:Tm}{h:AH}{t n:Nat}{ag:Bool}:rdRes ts h (.cell t ag n)=match tget ts t with
 | .ptr b o=>match rdCells h b o n with
   | some cs=>packA ag cs
   | none=>none
 | _=>none:=rfl
set_option maxRecDepth 10000 in
def am:=And.intro @cC_eq (And.intro @mv_eq (And.intro @mi_eq (And.intro @mn_eq (And.intro @mb_eq (And.intro @ld_eq (And.intro @la_eq (And.intro @fa_eq (And.intro @nk_eq (And.intro @ia_eq (And.intro @le_eq (And.intro @bn_eq (And.intro @bc_eq (And.intro @nt_eq (And.intro @ex_eq (And.intro @so_eq (And.intro @o1_eq (And.intro @o0_eq (And.intro @og_eq (And.intro @ci_eq (And.intro @fill_nil (And.intro @fill_cons (And.intro @boxA_eq (And.intro @splice_eq (And.intro @un_eq (And.intro @ckR_cons (And.intro @chks_nil (And.intro @chks_cons (And.intro @chk1_none (And.intro @same_nils (And.intro @same_nilp (And.intro @same_nilm (And.intro @same_int (And.intro @same_bool (And.intro @same_str (And.intro @same_ptr (And.intro @same_mp (And.intro @same_sl (And.intro @ckR_nil (And.intro @evN_none (And.intro @stps_nil (And.intro @stps_cons (And.intro @stp_some (And.intro @putR_some (And.intro @gd_true (And.intro @gd_false (And.intro @wanted_none (And.intro @wanted_some (And.intro @dput_some (And.intro @dput_none (And.intro @ev_t (And.intro @ev_c (And.intro @okR_some (And.intro @tget_tput (And.intro @loadA_ptr (And.intro @fadrA_ptr (And.intro @nilckA_ptr (And.intro @packA_one (And.intro @packA_agg (And.intro @pickA_true (And.intro @pickA_false (And.intro @unA_not (And.intro @bin_add (And.intro @bin_sub (And.intro @bin_mul (And.intro @bin_quo (And.intro @bin_rem (And.intro @bin_eql (And.intro @bin_neq (And.intro @bin_lss (And.intro @bin_leq (And.intro @bin_gtr (And.intro @bin_geq (And.intro @bin_band (And.intro @bin_sadd (And.intro @bin_seql (And.intro @bin_beql (And.intro @bin_agg (And.intro @lenSA_str (And.intro @lenLA_sl (And.intro @lenLA_nils (And.intro @cvIA_int (And.intro @cvBSA_sl (And.intro @cvBSA_nils (And.intro @iadrL_sl (And.intro @idxSA_str (And.intro @extA_tup (And.intro @storeA_ptr (And.intro @Option.map_some.{0,0} (And.intro @beq_true (And.intro @beq_false (And.intro @Bool.not_true (And.intro @Bool.not_false (And.intro @Nat.zero_add (And.intro @Nat.add_zero (And.intro @List.getElem?_cons_zero.{0} (And.intro @List.getElem?_cons_succ.{0} (And.intro @true_and (And.intro @and_true (And.intro @List.map_cons.{0,0} (And.intro @List.map_nil.{0,0} (And.intro @cells_int (And.intro @one_int (And.intro @cells_bool (And.intro @one_bool (And.intro @cells_str (And.intro @one_str (And.intro @cells_ptr (And.intro @one_ptr (And.intro @cells_nilp (And.intro @one_nilp (And.intro @cells_sl (And.intro @one_sl (And.intro @cells_nils (And.intro @one_nils (And.intro @cells_mp (And.intro @one_mp (And.intro @cells_nilm (And.intro @one_nilm (And.intro @cells_fn (And.intro @one_fn (And.intro @cells_nilf (And.intro @one_nilf (And.intro @cells_ifc (And.intro @one_ifc (And.intro @cells_nili (And.intro @one_nili (And.intro @cells_agg (And.intro @List.length_cons.{0} (And.intro @List.length_nil.{0} (And.intro @List.all_cons.{0} (And.intro @List.all_nil.{0} (And.intro @List.take_succ_cons.{0} (And.intro @List.take_zero.{0} (And.intro @List.drop_succ_cons.{0} (And.intro @List.drop_zero.{0} (And.intro @List.cons_append.{0} (And.intro @List.nil_append.{0} (And.intro @Bool.and_true (And.intro @AH.next_new (And.intro @AH.next_put (And.intro @and_self (And.intro @repl_one (@repl_zero)))))))))))))))))))))))))))))))))))))))))))))))))))))))))))))))))))))))))))))))))))))))))))))))))))))))))))))))))))))))))))))))))))))))))))))))
def rs:=And.intro @results_eq (And.intro @rdAll_nil (And.intro @rdAll_cons (And.intro @rdRes_t @rdRes_cell)))
end Go.Am
