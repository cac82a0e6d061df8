/- What an operation looks at; memory with one more block at a -/
import Derived.Test.YtklpoimdclflmaaGreatDoorTAmDefs
set_option linter.all false
namespace Go.Am
variable {d:Option Nat}{ev ev':RO->AV}{h':AH}{op:ROp}{ts:Tm}{v:AV}
def T.set_comm{α:Type}(x y:α):∀(t:T α) (p q:List Bool),p≠q->(t.set p x).set q y=(t.set q y).set p x
 |.nil,[],[],h=>absurd rfl h
 |.nil,[],true::q,_=>by simp[T.set,T.fresh]
 |.nil,[],false::q,_=>by simp[T.set,T.fresh]
 |.nil,true::p,[],_=>by simp[T.set,T.fresh]
 |.nil,false::p,[],_=>by simp[T.set,T.fresh]
 |.nil,true::p,true::q,h=>by
   have:=T.set_comm x y .nil p q (by simpa using h);simp only[T.set]at this;simp[T.set,T.fresh,this]
 |.nil,false::p,false::q,h=>by
   have:=T.set_comm x y .nil p q (by simpa using h);simp only[T.set]at this;simp[T.set,T.fresh,this]
 |.nil,true::p,false::q,_=>by simp[T.set,T.fresh]
 |.nil,false::p,true::q,_=>by simp[T.set,T.fresh]
 |.node l v r,[],[],h=>absurd rfl h
 |.node l v r,[],true::q,_=>by simp[T.set]
 |.node l v r,[],false::q,_=>by simp[T.set]
 |.node l v r,true::p,[],_=>by simp[T.set]
 |.node l v r,false::p,[],_=>by simp[T.set]
 |.node l v r,true::p,true::q,h=>by simp[T.set,T.set_comm x y l p q (by simpa using h)]
 |.node l v r,false::p,false::q,h=>by simp[T.set,T.set_comm x y r p q (by simpa using h)]
 |.node l v r,true::p,false::q,_=>by simp[T.set]
 |.node l v r,false::p,true::q,_=>by simp[T.set]
def RO.tm:RO->List Nat
 |.t n=>[n]
 |_=>[]
def ROp.ros:ROp->List RO
 |.mov x | .box _ _ x | .load _ _ x | .nilck x | .un _ x | .cvI _ x | .cvBS x | .cvSB x | .cvSS x | .mki _ x | .fadr _ x | .fld _ _ _ x | .ext x _ | .lenL x | .lenS x | .lenM x | .capL x | .mcl x | .rgM x | .nxM x | .ent x | .scl _ x | .cvU x | .cvP _ _ x | .sdat x | .mkz _ x=>[x]
 |.pick c a b=>[c,a,b]
 |.new _ _ | .newT _ _ _ | .bad | .mkmap=>[]
 |.build _ ps | .mksl _ _ _ ps=>ps.map (·.2.2)
 |.store _ a v | .bin _ _ a v | .mks _ _ _ a v | .iadr _ a v | .iadrA _ _ a v | .idxS a v | .idxA _ _ _ a v | .app _ _ a v | .cpy _ a v | .mlk _ _ _ a v | .men _ _ a v | .apz _ _ a v | .appB _ a v | .ustr _ a v=>[a,v]
 |.mup _ a k v | .mst a k v=>[a,k,v]
 |.mkf _ cs=>cs
 |.slS x lo hi=>x::(lo.toList++hi.toList)
 |.slL _ x lo hi m3 | .slA _ _ x lo hi m3=>x::(lo.toList++hi.toList++m3.toList)
 |.mx xs | .mn xs=>xs
 |.call _ as=>as
 |.callv f as=>f::as
def ROper.looks(o:ROper):List Nat:=(o.op.ros.flatMap RO.tm)++(match o.guard with|some (n,_)=>[n]|none=>[])
def ROp.cls:ROp->Nat
 |.load _ _ _ | .cvBS _ | .slL _ _ _ _ _ | .cvSS _ | .lenM _ | .mlk _ _ _ _ _ | .ent _ | .cvU _=>1
 |.new _ _ | .newT _ _ _ | .box _ _ _ | .mksl _ _ _ _ | .cvSB _ | .mks _ _ _ _ _ | .mkmap | .rgM _=>2
 |.store _ _ _ | .app _ _ _ _ | .call _ _ | .callv _ _ | .cpy _ _ _ | .bad | .scl _ _ | .apz _ _ _ _ | .appB _ _ _ | .mkz _ _ | .cvP _ _ _ | .ustr _ _ _ | .mup _ _ _ _ | .men _ _ _ _ | .mst _ _ _ | .mcl _ | .nxM _=>3
 |_=>0
def pB{m:Nat}(h:∀n,d=some n->n≠m):db (dH ts d v) m=db ts m:=by
 cases d with
 |none=>rfl
 |some n=>simp[dH,fD,h n rfl]
def yU{ts':Tm}{x:RO}(h:∀n∈x.tm,db ts' n=db ts n):RO.ev ts' x=RO.ev ts x:=by
 cases x with
 |t m=>exact h m (by simp[RO.tm])
 |_=>rfl
def Ga{e:Option Nat}{u:AV}(h:∀n m,d=some n->e=some m->n≠m):dH (dH ts d u) e v=dH (dH ts e v) d u:=by
 cases d with
 |none=>rfl
 |some n =>
   cases e with
   |none=>rfl
   |some m=>exact T.set_comm _ _ _ _ _ λq=>h n m rfl rfl (iM.1 q)
def nN{ev ev':RO->AV}:∀(ps:List (Nat×Nat×RO)) (cs:List AV),(∀x∈ps.map (·.2.2),ev' x=ev x)->fill ev' cs ps=fill ev cs ps
 |[],cs,_=>rfl
 |(o,n,x)::r,cs,h=>by
   have h1:=h x (by simp);simp only[fill,h1];split
   .exact nN r _ λy hy=>h y (by simp only[bO,aF];exact .inr hy)
   .rfl
def jS{lo hi mx:Option RO}(h:∀x∈lo.toList++hi.toList++mx.toList,ev' x=ev x)(len cap:Nat):bounds ev' lo hi mx len cap=bounds ev lo hi mx len cap:=by
 unfold bounds;have h1:∀x,lo=some x->ev' x=ev x:=λx e=>h x (by simp[e]);have h2:∀x,hi=some x->ev' x=ev x:=λx e=>h x (by simp[e]);have h3:∀x,mx=some x->ev' x=ev x:=λx e=>h x (by simp[e]);cases lo<;>cases hi<;>cases mx<;>simp_all
def qF{h:AH}(hx:∀x∈op.ros,ev' x=ev x):aL ev' h op=aL ev h op:=by
 cases op<;>simp only[ROp.ros,aF,bA,or_false,forall_eq_or_imp,forall_eq]at hx<;>simp only[aL]
 case build z ps=>rw[nN ps z hx]
 case mksl z e n ps=>rw[nN ps _ hx]
 case mkf f cs=>rw[cT hx]
 case mx xs=>rw[cT hx]
 case mn xs=>rw[cT hx]
 case slS x lo hi =>
  rw[hx.1];unfold GZ;split
  .rw[jS (by simpa using hx.2)]
  .rfl
 case slL e x lo hi mx =>
  rw[hx.1];unfold BW;split
  .rw[jS (by simpa using hx.2)]
  .rw[jS (by simpa using hx.2)]
  .split
   .split
    .rw[jS (by simpa using hx.2)]
    .rfl
   .rfl
  .rfl
 case slA n e x lo hi mx =>
  rw[hx.1];unfold Ha;split
  .rw[jS (by simpa using hx.2)]
  .rfl
 all_goals first|rfl|simp only[hx]
def xy{h:AH}(hc:op.cls=0)(he:aL ev h op=some (v,h')):h'=h/\∀h2,aL ev h2 op=some (v,h2):=by
 cases op<;>(try (exfalso;simp[ROp.cls]at hc;done))<;>simp only[aL]at he |-
 all_goals
  first
   |(simp only[aa,aq]at he;obtain⟨rfl,rfl⟩:=he;exact⟨rfl,λ_=>rfl⟩)
   |(rw[aG]at he
     obtain⟨x,hx,he⟩:=he;simp only[aq]at he;obtain⟨rfl,rfl⟩:=he;exact⟨rfl,λ_=>by rw[hx];rfl⟩)
def Keeps(h h2:AH):Prop:=∀c ob,h.get c=some ob->ob≠.resv->h2.get c=some ob
def Keeps.refl(h:AH):Keeps h h:=λ_ _ a _=>a
def fN{h h2:AH}{b o n:Nat}{cs:List AV}(hx:Keeps h h2)(hr:ai h b o n=some cs):ai h2 b o n=some cs:=by
 unfold ai at hr |-;split at hr
 .rename_i hg
  rw[hx _ _ hg (by simp)];exact hr
 .cases hr
def pM{h:AH}(hc:op.cls=1)(he:aL ev h op=some (v,h')):h'=h/\∀h2:AH,Keeps h h2->aL ev h2 op=some (v,h2):=by
 cases op<;>(try (exfalso;simp[ROp.cls]at hc;done))<;>simp only[aL]at he |-
 case load g n a =>
  unfold qf at he |-;split at he
  .split at he
   .rename_i hr
    rw[aG]at he;obtain⟨x,hx,he⟩:=he;simp only[aq]at he;obtain⟨rfl,rfl⟩:=he;refine⟨rfl,λh2 h3=>?_⟩;rw[fN h3 hr];simp[hx]
   .cases he
  .cases he
 case cvBS a =>
  rw[aG]at he;obtain⟨x,hx,he⟩:=he;simp only[aq]at he;obtain⟨rfl,rfl⟩:=he;refine⟨rfl,λh2 h3=>?_⟩;unfold vJ at hx |-;split at hx
  .simp_all
  .split at hx
   .rename_i hr
    rw[fN h3 hr];simp[hx]
   .cases hx
  .cases hx
 case slL e x lo hi mx =>
  rw[aG]at he;obtain⟨y,hy,he⟩:=he;simp only[aq]at he;obtain⟨rfl,rfl⟩:=he;refine⟨rfl,λh2 h3=>?_⟩;unfold BW at hy |-;split at hy
  .simp[hy]
  .simp[hy]
  .split at hy
   .rename_i hg
    rw[h3 _ _ hg (by simp)];simp only;simp[hy]
   .cases hy
  .cases hy
 case cvSS a =>
  rw[aG]at he;obtain⟨y,hy,he⟩:=he;simp only[aq]at he;obtain⟨rfl,rfl⟩:=he;refine⟨rfl,λh2 h3=>?_⟩;unfold Bp at hy |-;split at hy
  .split at hy
   .rename_i hg
    rw[h3 _ _ hg (by simp)];simp[hy]
   .cases hy
  .cases hy
 case lenM a =>
  rw[aG]at he;obtain⟨y,hy,he⟩:=he;simp only[aq]at he;obtain⟨rfl,rfl⟩:=he;refine⟨rfl,λh2 h3=>?_⟩;unfold AF at hy |-;split at hy
  .simp[hy]
  .split at hy
   .rename_i hg
    rw[h3 _ _ hg (by simp)];simp[hy]
   .cases hy
  .cases hy
 case cvU a =>
  rw[aG]at he;obtain⟨y,hy,he⟩:=he;simp only[aq]at he;obtain⟨rfl,rfl⟩:=he;refine⟨rfl,λh2 h3=>?_⟩;have:Gd h2 (ev a)=some y:=by
   unfold Gd at hy |-;cases hm:ev a<;>simp only[hm,reduceCtorEq]at hy |-
   .rename_i b o
    split at hy
    .rename_i hg
     rw[h3 _ _ hg (by simp)];exact hy
    .cases hy
   .exact hy
  rw[this];rfl
 case ent a =>
  rw[aG]at he;obtain⟨y,hy,he⟩:=he;simp only[aq]at he;obtain⟨rfl,rfl⟩:=he;refine⟨rfl,λh2 h3=>?_⟩;have:FX h2 (ev a)=some y:=by
   unfold FX at hy |-;split at hy
   .rename_i b hb
    split at hy
    .rename_i m s1 seen last hg
     rw[h3 _ _ hg (by simp)];simp only;split at hy
     .rename_i es c n hm hl
      rw[h3 _ _ hm (by simp),hl];exact hy
     .cases hy
    .cases hy
   .cases hy
  rw[this];rfl
 case mlk e ok z m k =>
  rw[aG]at he;obtain⟨y,hy,he⟩:=he;simp only[aq]at he;obtain⟨rfl,rfl⟩:=he;refine⟨rfl,λh2 h3=>?_⟩;have:oX h2 e ok z (ev m) (ev k)=some y:=by
   unfold oX at hy |-;cases hm:ev m<;>simp only[hm,reduceCtorEq]at hy |-
   .rename_i b
    split at hy
    .rename_i hg
     rw[h3 _ _ hg (by simp)];exact hy
    .cases hy
   .exact hy
  rw[this];rfl
def T.set_same{α:Type}:∀(t:T α) (p:List Bool) (x:α),t.get p=some x->t.set p x=t
 |.nil,_,_,h=>by simp[T.get]at h
 |.node l v r,[],x,h=>by simp only[T.get]at h;simp[T.set,h]
 |.node l v r,true::p,x,h=>by simp only[T.get]at h;simp[T.set,T.set_same l p x h]
 |.node l v r,false::p,x,h=>by simp only[T.get]at h;simp[T.set,T.set_same r p x h]
namespace AH
variable {h:AH}{n m c:Nat}{o o':AO}{tg tg':Option Nat}
@[simp] def next_putG:(h.putG n o tg).next=h.next:=by cases tg<;>rfl
@[simp] def Oa:(h.newG o tg).next=h.next+1:=by cases tg<;>rfl
def get_putG(hn:n<h.next):(h.putG n o tg).get c=if n=c then some o else h.get c:=by
 cases tg
 .exact get_put h n c o hn
 .exact get_put h n c o hn
def get_newG:(h.newG o tg).get c=if c=h.next then some o else h.get c:=by
 cases tg
 .exact get_new h c o
 .exact Jb h c o _
def tyOf_putG:(h.putG n o tg).tyOf c=if n=c/\tg.isSome=true then tg else h.tyOf c:=by
 cases tg with
 |none=>simp[putG,GM]
 |some t =>
   show(h.ty.set (gC n) t).get (gC c)=_;rw[T.get_set];simp only[iM];by_cases e:n=c<;>simp[e,tyOf]
def putG_comm(hnm:n≠m):(h.putG n o tg).putG m o' tg'=(h.putG m o' tg').putG n o tg:=by
 have h1:∀{α:Type} (t:T α) (x y:α),(t.set (gC n) x).set (gC m) y=(t.set (gC m) y).set (gC n) x:=λt x y=>T.set_comm x y t _ _ λq=>hnm (iM.1 q);cases tg<;>cases tg'<;>simp[putG,put,h1]
def putG_newG(hn:n<h.next):(h.putG n o tg).newG o' tg'=(h.newG o' tg').putG n o tg:=by
 have h1:∀{α:Type} (t:T α) (x y:α),(t.set (gC n) x).set (gC h.next) y=(t.set (gC h.next) y).set (gC n) x:=λt x y=>T.set_comm x y t _ _ λq=>by have:=iM.1 q;omega
 cases tg<;>cases tg'<;>simp[putG,put,newG,new,newT,h1]
def put_putG{b:Nat}(hb:b≠n):(h.putG n o tg).put b o'=(h.put b o').putG n o tg:=putG_comm (tg':=none) (λq=>hb q.symm)
def putG_same(hg:h.get n=some o):h.putG n o none=h:=by
 show({ h with t:=h.t.set (gC n) o}:AH)=h;have h1:n<h.next:=lt_of_get hg;unfold get at hg;rw[if_pos h1]at hg;rw[T.set_same _ _ _ hg]
def keep_next:∀(k:Nat) (h:AH),(h.keep k).next=h.next+k
 |0,h=>rfl
 |k+1,h=>by rw[keep,keep_next k,next_new];omega
def keep_get:∀(k:Nat) (h:AH),(h.keep k).get c=if h.next<=c/\c<h.next+k then some .resv else h.get c
 |0,h=>by rw[if_neg om];rfl
 |k+1,h=>by
   rw[keep,keep_get k,next_new,get_new];by_cases h1:c=h.next
   .rw[if_neg om,if_pos h1,if_pos om]
   .by_cases h2:h.next<=c/\c<h.next+(k+1)
    .rw[if_pos om,if_pos h2]
    .rw[if_neg om,if_neg h2,if_neg h1]
def putG_keep:∀(k:Nat) (h:AH),n<h.next->(h.putG n o tg).keep k=(h.keep k).putG n o tg
 |0,h,_=>rfl
 |k+1,h,hn=>by
   have:=putG_newG (o':=.resv) (tg':=none) (o:=o) (tg:=tg) hn;simp only[newG]at this;rw[keep,keep,this,putG_keep k (h.new .resv) (by rw[next_new];omega)]
end AH
variable {ev:RO->AV}{h2:AH}{op:ROp}{p:(Nat->AV)×AO×Option Nat}
def vt{h:AH}(hl:op.cls=2):aL ev h op=(lay ev h op).map λp=>(p.1 h.next,h.newG p.2.1 p.2.2):=by
 cases op<;>(try (exfalso;simp[ROp.cls]at hl;done))<;>simp only[aL,lay]
 case new=>rfl
 case newT=>rfl
 case mkmap=>rfl
 case box e n x=>unfold Gy;split<;>simp_all[AH.newG]
 case mksl z e n ps=>cases fill ev (cq z n) ps<;>simp[AH.newG]
 case cvSB x=>unfold Bq;split<;>simp_all[AH.newG]
 case mks z e b l c =>
  unfold wg;split
  .split<;>simp_all[AH.newG]
  .rfl
 case rgM m =>
  unfold HB;split
  .rfl
  .split<;>simp[AH.newG]
  .rfl
def LN{h:AH}(hl:lay ev h op=some p):op.cls=2:=by
 cases op<;>first|rfl|(simp[lay]at hl)
def ROp.isRg:ROp->Bool
 |.rgM _=>true
 |_=>false
def yH{h:AH}(hr:op.isRg=false):lay ev h2 op=lay ev h op:=by
 cases op<;>first|rfl|(simp[ROp.isRg]at hr)
def yG{h:AH}(hx:Keeps h h2)(hl:lay ev h op=some p):lay ev h2 op=some p:=by
 by_cases hr:op.isRg=false
 .rw[yH hr];exact hl
 .cases op<;>simp[ROp.isRg]at hr
  rename_i m
  simp only[lay]at hl |-;split at hl
  .exact hl
  .split at hl
   .rename_i hg
    rw[hx _ _ hg (by simp)];exact hl
   .cases hl
  .cases hl
section
variable {b e:Nat}{ev:RO->AV}{ob:AO}{op:ROp}{ts:Tm}{v x:AV}
variable {h:AH}{n:Nat}{o:AO}{tg:Option Nat}
def dK(hn:h.get n=some .resv):Keeps h (h.putG n o tg):=by
 intro c ob hc hr;rw[AH.get_putG (AH.lt_of_get hn)];by_cases e:n=c
 .subst e;rw[hn]at hc;simp only[aa]at hc;exact absurd hc.symm hr
 .rw[if_neg e];exact hc
def CB{o':AO}{tg':Option Nat}:Keeps h (h.newG o' tg'):=by
 intro c ob hc _;rw[AH.get_newG,if_neg (Nat.ne_of_lt (AH.lt_of_get hc))];exact hc
def mh(hn:h.get n=some .resv)(hb:h.get b=some ob)(hr:ob≠.resv):b≠n:=by
 rintro rfl;rw[hn]at hb;exact hr (Option.some.inj hb).symm
def gf(hn:h.get n=some .resv)(hb:b≠n)(hbn:b<h.next):(h.put b ob).get n=some .resv:=by
 rw[AH.get_put _ _ _ _ hbn,if_neg hb];exact hn
def mR(hn:h.get n=some .resv){tg':Option Nat}:(h.newG ob tg').get n=some .resv:=by
 rw[AH.get_newG,if_neg (Nat.ne_of_lt (AH.lt_of_get hn))];exact hn
def Frm(n:Nat)(o:AO)(tg:Option Nat)(x y:Option (AV×AH)):Prop:=∀v h',x=some (v,h')->h'.get n=some .resv/\y=some (v,h'.putG n o tg)
def mM(hn:h.get n=some .resv){k:Nat}{vs:List AV}{h':AH}(hw:bP h b k vs=some h'):h'.get n=some .resv/\bP (h.putG n o tg) b k vs=some (h'.putG n o tg):=by
 unfold bP at hw |-;split at hw
 .rename_i cs e hg
  have hb:=mh hn hg (by simp);rw[dK hn _ _ hg (by simp)];simp only;split at hw
  .simp only[aa]at hw;subst hw
   rename_i hc
   exact⟨gf hn hb (AH.lt_of_get hg),by rw[if_pos hc,AH.put_putG hb]⟩
  .cases hw
 .cases hw
def wC(hn:h.get n=some .resv){r:Nat×List AV}(hs:fz h e x=some r):fz (h.putG n o tg) e x=some r:=by
 unfold fz at hs |-;split at hs
 .exact hs
 .exact hs
 .rw[aG]at hs;obtain⟨cs,h1,rfl⟩:=hs;rw[fN (dK hn) h1];rfl
 .exact hs
 .cases hs
def od(hn:h.get n=some .resv){t2:Option Nat}{s:AV}:Frm n o tg (rZ h t2 e b s x) (rZ (h.putG n o tg) t2 e b s x):=by
 intro v h' he;unfold rZ at he |-;split at he
 .rename_i k new hs
  rw[wC hn hs];simp only;split at he
  .rename_i ha
   rw[if_pos ha];split at he
   .split at he
    .rename_i hk
     simp only[aa,aq]at he;obtain⟨rfl,rfl⟩:=he;rw[if_pos hk];exact⟨hn,rfl⟩
    .rename_i hk
     rw[if_neg hk];split at he
     .rename_i hc
      rw[if_pos hc];simp only[aa,aq]at he;obtain⟨rfl,rfl⟩:=he;rw[AH.next_putG];exact⟨mR hn,by rw[AH.putG_newG (AH.lt_of_get hn)]⟩
     .cases he
   .split at he
    .rename_i hk
     simp only[aa,aq]at he;obtain⟨rfl,rfl⟩:=he;rw[if_pos hk];exact⟨hn,rfl⟩
    .cases he
   .rename_i bb oo len cap
    split at he
    .rename_i hk
     simp only[aa,aq]at he;obtain⟨rfl,rfl⟩:=he;rw[if_pos hk];exact⟨hn,rfl⟩
    .rename_i hk
     rw[if_neg hk];split at he
     .rename_i hc
      rw[if_pos hc];rw[aG]at he;obtain⟨h1,hw,he⟩:=he;simp only[aq]at he;obtain⟨rfl,rfl⟩:=he;obtain⟨w1,w2⟩:=mM (o:=o) (tg:=tg) hn hw;exact⟨w1,by rw[w2];rfl⟩
     .rename_i hc
      rw[if_neg hc];split at he
      .rename_i hm
       rw[if_pos hm];split at he
       .rename_i e' old hg hr
        have hb:=mh hn hg (by simp);rw[dK hn _ _ hg (by simp),fN (dK hn) hr];simp only;split at he
        .rename_i hee
         rw[if_pos hee];split at he
         .rename_i htt
          have hty:(h.putG n o tg).tyOf bb=h.tyOf bb:=by
           rw[AH.tyOf_putG,if_neg (λq=>hb q.1.symm)]
          rw[hty,if_pos htt];simp only[aa,aq]at he;obtain⟨rfl,rfl⟩:=he;have hn2:=gf hn hb (ob:=.dead) (AH.lt_of_get hg);refine⟨mR hn2,?_⟩;rw[AH.put_putG hb,AH.putG_newG (by simpa using AH.lt_of_get hn),AH.next_putG]
         .cases he
        .cases he
       .cases he
      .cases he
   .cases he
  .cases he
 .cases he
def vu(hn:h.get n=some .resv):Frm n o tg (aL ev h op) (aL ev (h.putG n o tg) op):=by
 intro v h' he;have hk:=dK (o:=o) (tg:=tg) hn;have hlt:=AH.lt_of_get hn;by_cases c0:op.cls=0
 .obtain⟨rfl,q⟩:=xy c0 he;exact⟨hn,q _⟩
 by_cases c1:op.cls=1
 .obtain⟨rfl,q⟩:=pM c1 he;exact⟨hn,q _ hk⟩
 by_cases c2:op.cls=2
 .rw[vt c2,aG]at he;obtain⟨p,hp,he⟩:=he;simp only[aq]at he;obtain⟨rfl,rfl⟩:=he;refine⟨mR hn,?_⟩;rw[vt c2,yG hk hp,aQ,AH.next_putG,AH.putG_newG hlt]
 have hmap:∀{b:Nat}{es:List (AV×AV×Nat)}{c:Nat},h.get b=some (.mapo es c)->b≠n/\b<h.next/\(h.putG n o tg).get b=some (.mapo es c):=λhg=>⟨mh hn hg (by simp),AH.lt_of_get hg,hk _ _ hg (by simp)⟩
 have hty:∀b,b≠n->(h.putG n o tg).tyOf b=h.tyOf b:=λb hb=>by rw[AH.tyOf_putG,if_neg (λq=>hb q.1.symm)]
 cases op<;>(try (exfalso;first|exact c0 rfl|exact c1 rfl|exact c2 rfl;done))<;>simp only[aL]at he |-
 case store m a x =>
  unfold my at he |-;split at he
  .split at he
   .rename_i hc
    rw[if_pos hc];rw[aG]at he;obtain⟨h1,hw,he⟩:=he;simp only[aq]at he;obtain⟨rfl,rfl⟩:=he;obtain⟨w1,w2⟩:=mM (o:=o) (tg:=tg) hn hw;exact⟨w1,by rw[w2];rfl⟩
   .cases he
  .cases he
 case app e b s x =>
  rw[<-yh]at he |-;exact od hn v h' he
 case appB t s x =>
  unfold Es at he |-;split at he
  .rename_i b k m c hs
   by_cases hb:b=n
   ·
    subst hb;have key:∀t2,rZ h t2 1 1 (.sl b k m c) (ev x)=some (v,h')->∀t3,h'=h/\rZ (h.putG b o tg) t3 1 1 (.sl b k m c) (ev x)=some (v,h.putG b o tg):=by
     intro t2 he t3;unfold rZ at he |-;split at he
     .rename_i j new hsr
      rw[wC hn hsr];simp only at he |-;split at he
      .rename_i ha
       rw[if_pos ha];split at he
       .rename_i hj
        simp only[aa,aq]at he;obtain⟨rfl,rfl⟩:=he;rw[if_pos hj];exact⟨rfl,rfl⟩
       .split at he
        .rw[aG]at he;obtain⟨h1,hw,_⟩:=he;unfold bP at hw;rw[hn]at hw;simp at hw
        .rw[hn]at he;simp at he
      .cases he
     .cases he
    have:∀t3,h'=h/\rZ (h.putG b o tg) t3 1 1 (.sl b k m c) (ev x)=some (v,h.putG b o tg):=by
     intro t3;split at he
     .exact key _ he t3
     .exact key _ he t3
    obtain⟨rfl,_⟩:=this none;refine⟨hn,?_⟩;split
    .exact(this _).2
    .exact(this _).2
   .have hty:(h.putG n o tg).tyOf b=h.tyOf b:=by
     rw[AH.tyOf_putG,if_neg (λq=>hb q.1.symm)]
    rw[hty];split at he
    .rename_i ht
     rw[if_pos ht];exact od hn v h' he
    .rename_i ht
     rw[if_neg ht];exact od hn v h' he
  .exact od hn v h' he
 case cpy e d s =>
  unfold JA at he |-;split at he
  .simp only[aa,aq]at he;obtain⟨rfl,rfl⟩:=he;exact⟨hn,rfl⟩
  .simp only[aa,aq]at he;obtain⟨rfl,rfl⟩:=he;exact⟨hn,rfl⟩
  .simp only[aa,aq]at he;obtain⟨rfl,rfl⟩:=he;exact⟨hn,rfl⟩
  .split at he
   .rename_i hr
    rw[fN hk hr];simp only;split at he
    .rename_i ha
     rw[if_pos ha];rw[aG]at he;obtain⟨h1,hw,he⟩:=he;simp only[aq]at he;obtain⟨rfl,rfl⟩:=he;obtain⟨w1,w2⟩:=mM (o:=o) (tg:=tg) hn hw;exact⟨w1,by rw[w2];rfl⟩
    .cases he
   .cases he
  .cases he
 case scl z x =>
  unfold Cb at he |-;split at he
  .simp only[aa,aq]at he;obtain⟨rfl,rfl⟩:=he;exact⟨hn,rfl⟩
  .split at he
   .rename_i hc
    simp only[aa,aq]at he;obtain⟨rfl,rfl⟩:=he;rw[if_pos hc];exact⟨hn,rfl⟩
   .rename_i hc
    rw[if_neg hc];split at he
    .rename_i ha
     rw[if_pos ha];rw[aG]at he;obtain⟨h1,hw,he⟩:=he;simp only[aq]at he;obtain⟨rfl,rfl⟩:=he;obtain⟨w1,w2⟩:=mM (o:=o) (tg:=tg) hn hw;exact⟨w1,by rw[w2];rfl⟩
    .cases he
  .cases he
 case apz z b s m =>
  unfold zj at he |-;split at he
  .split at he
   .rename_i hc
    simp only[aa,aq]at he;obtain⟨rfl,rfl⟩:=he;rw[if_pos hc];exact⟨hn,rfl⟩
   .rename_i hc
    rw[if_neg hc];split at he
    .rename_i hm
     rw[if_pos hm];simp only[aa,aq]at he;obtain⟨rfl,rfl⟩:=he;refine⟨mR (tg':=none) hn,?_⟩;rw[AH.next_putG];have:=AH.putG_newG (o':=.cells (cq z (Int.toNat ‹Int›)) z.length false) (tg':=none) (o:=o) (tg:=tg) hlt;simp only[AH.newG]at this;rw[this]
    .cases he
  .cases he
 case mkz t m =>
  unfold Ib at he |-;split at he
  .split at he
   .rename_i hm
    rw[if_pos hm];simp only[aa,aq]at he;obtain⟨rfl,rfl⟩:=he;refine⟨mR (tg':=some t) hn,?_⟩;rw[AH.next_putG];have:=AH.putG_newG (o':=.cells (List.replicate (Int.toNat ‹Int›) .any) 1 false) (tg':=some t) (o:=o) (tg:=tg) hlt;simp only[AH.newG]at this;rw[this]
   .cases he
  .cases he
 case cvP t k x =>
  rw[aG]at he;obtain⟨y,hy,he⟩:=he;simp only[aq]at he;obtain⟨rfl,rfl⟩:=he;refine⟨hn,?_⟩;have:Ge (h.putG n o tg) t k (ev x)=some y:=by
   unfold Ge at hy |-;split at hy
   .exact hy
   .split at hy
    .rename_i cs _ _ hg
     have hb:=mh hn hg (by simp);rw[hk _ _ hg (by simp)];simp only;rw[hty _ hb];exact hy
    .cases hy
   .cases hy
  rw[this];rfl
 case ustr t x m =>
  unfold zI at he |-;split at he
  .split at he
   .rename_i hc
    simp only[aa,aq]at he;obtain⟨rfl,rfl⟩:=he;rw[if_pos hc];exact⟨hn,rfl⟩
   .cases he
  .split at he
   .rename_i hc
    simp only[aa,aq]at he;obtain⟨rfl,rfl⟩:=he;rw[if_pos hc];exact⟨hn,rfl⟩
   .rename_i hc
    rw[if_neg hc];split at he
    .rename_i hm
     rw[if_pos hm];split at he
     .rename_i b _ _ cs e hg
      have hb:=mh hn hg (by simp);rw[hk _ _ hg (by simp)];simp only;split at he
      .rename_i bs hr
       rw[fN hk hr];simp only;rw[hty _ hb];split at he
       .rename_i ht
        rw[if_pos ht];rw[aG]at he;obtain⟨s,hs,he⟩:=he;simp only[aq]at he;obtain⟨rfl,rfl⟩:=he;refine⟨gf hn hb (AH.lt_of_get hg),?_⟩;rw[hs,aQ,AH.put_putG hb]
       .cases he
      .cases he
     .cases he
    .cases he
  .cases he
 case mup e m k x =>
  unfold Ay at he |-;split at he
  .split at he
   .rename_i hg
    obtain⟨hb,hbn,hg2⟩:=hmap hg;rw[hg2];simp only;split at he
    .rename_i hok
     rw[if_pos hok];split at he
     .rename_i hf
      simp only[aa,aq]at he;obtain⟨rfl,rfl⟩:=he;refine⟨gf hn hb hbn,?_⟩;simp only[hf,AH.put_putG hb]
     .rename_i hf
      simp only[aa,aq]at he;obtain⟨rfl,rfl⟩:=he;refine⟨gf hn hb hbn,?_⟩;simp only[hf,AH.put_putG hb]
     .cases he
    .cases he
   .cases he
  .cases he
 case men e z m k =>
  unfold Ie at he |-;split at he
  .split at he
   .rename_i hg
    obtain⟨hb,hbn,hg2⟩:=hmap hg;rw[hg2];simp only;split at he
    .rename_i hok
     rw[if_pos hok];split at he
     .rename_i hf
      simp only[aa,aq]at he;obtain⟨rfl,rfl⟩:=he;refine⟨gf hn hb hbn,?_⟩;simp only[hf,AH.put_putG hb]
     .rename_i hf
      simp only[aa,aq]at he;obtain⟨rfl,rfl⟩:=he;refine⟨gf hn hb hbn,?_⟩;simp only[hf,AH.put_putG hb]
     .cases he
    .cases he
   .cases he
  .cases he
 case mst m s x =>
  unfold HZ at he |-;split at he
  .split at he
   .rename_i hg
    obtain⟨hb,hbn,hg2⟩:=hmap hg;rw[hg2];simp only;split at he
    .rename_i hf
     simp only[aa,aq]at he;obtain⟨rfl,rfl⟩:=he;refine⟨gf hn hb hbn,?_⟩;simp only[hf,AH.put_putG hb]
    .cases he
   .cases he
  .cases he
 case mcl m =>
  unfold Ig at he |-;split at he
  .simp only[aa,aq]at he;obtain⟨rfl,rfl⟩:=he;exact⟨hn,rfl⟩
  .split at he
   .rename_i hg
    obtain⟨hb,hbn,hg2⟩:=hmap hg;rw[hg2];simp only[aa,aq]at he |-;obtain⟨rfl,rfl⟩:=he;rw[AH.put_putG hb];exact⟨gf hn hb hbn,rfl,rfl⟩
   .cases he
  .cases he
 case call=>cases he
 case callv=>cases he
 case nxM=>cases he
 case bad=>cases he
def Bf(hn:h.get n=some .resv){m:Nat}(hm:m≠n):Frm n o tg (iV ev h m op) (iV ev (h.putG n o tg) m op):=by
 intro v h' he;have hlt:=AH.lt_of_get hn;unfold iV at he |-;split at he
 .rename_i hg
  have hg2:(h.putG n o tg).get m=some .resv:=by rw[AH.get_putG hlt,if_neg (λq=>hm q.symm)];exact hg
  rw[hg2];simp only;split at he
  .rename_i f ob t2 hl
   rw[yG (dK hn) hl];simp only[aa,aq]at he;obtain⟨rfl,rfl⟩:=he;refine⟨?_,?_⟩
   .rw[AH.get_putG (AH.lt_of_get hg),if_neg hm];exact hn
   .simp only;rw[AH.putG_comm (λq=>hm q.symm)]
  .cases he
 .cases he
def xG(hn:h.get n=some .resv){x:ROper}(hb:∀j,x.nm=some j->b+j≠n):Frm n o tg (evN b ev h x) (evN b ev (h.putG n o tg) x):=by
 unfold evN;split
 .exact vu hn
 .rename_i j hj
  exact Bf hn (hb j hj)
def CT(hn:h.get n=some .resv){c:Nat×ROp×Option (Nat×Bool)}(hc:sY ts h c=true):sY ts (h.putG n o tg) c=true:=by
 unfold sY at hc |-;split at hc
 .rfl
 .split at hc
  .rename_i he
   rw[((vu (o:=o) (tg:=tg) hn) _ _ he).2];exact hc
  .cases hc
 .cases hc
def jz(hn:h.get n=some .resv){ts:Tm}:∀{cs:List (Nat×ROp×Option (Nat×Bool))},gZ ts h cs=true->gZ ts (h.putG n o tg) cs=true
 |[],_=>rfl
 |c::r,hc=>by
   simp only[gZ,aU]at hc |-;exact⟨CT hn hc.1,jz hn hc.2⟩
def wU(hn:h.get n=some .resv){it:AV}{as:List (AV×AH)}(ha:we h it=some as):we (h.putG n o tg) it=some (as.map λp=>(p.1,p.2.putG n o tg))/\∀v h',(v,h')∈as->h'.get n=some .resv:=by
 have hk:=dK (o:=o) (tg:=tg) hn;unfold we at ha |-;split at ha
 .rename_i b
  split at ha
  .rename_i hg
   simp only[aa]at ha;subst ha;rw[hk _ _ hg (by simp)];exact⟨rfl,λv h' hm=>by simp only[eC,aq]at hm;rw[hm.2];exact hn⟩
  .rename_i m since seen last hg
   have hb:=mh hn hg (by simp);rw[hk _ _ hg (by simp)];simp only;split at ha
   .rename_i es c hm
    rw[hk _ _ hm (by simp)];simp only;split at ha
    .cases ha
    .rename_i hc
     rw[if_neg hc];simp only[aa]at ha;subst ha;refine⟨?_,?_⟩
     .rw[bS,de];congr 2
      .split<;>rfl
      .refine cT λe _=>?_;simp only[Function.comp];rw[AH.put_putG hb]
     .intro v h' hm2;rw[aZ]at hm2;rcases hm2 with hm2|hm2
      .split at hm2
       .simp only[eC,aq]at hm2;rw[hm2.2];exact hn
       .cases hm2
      .rw[bp]at hm2;obtain⟨e,_,he⟩:=hm2;simp only[aq]at he;rw[<-he.2];exact gf hn hb (AH.lt_of_get hg)
   .cases ha
  .cases ha
 .cases ha
def Ak(hn:h.get n=some .resv){r:RR}(hr:kZ ts h r=some v):kZ ts (h.putG n o tg) r=some v:=by
 cases r with
 |t m=>exact hr
 |cell t g m =>
   simp only[kZ]at hr |-;split at hr
   .split at hr
    .rename_i hc
     rw[fN (dK hn) hc];exact hr
    .cases hr
   .cases hr
def tv(hn:h.get n=some .resv){ts:Tm}:∀{rs:List RR}{vs:List AV},jj ts h rs=some vs->jj ts (h.putG n o tg) rs=some vs
 |[],_,hr=>hr
 |r::rs,vs,hr=>by
   unfold jj at hr |-;split at hr
   .rename_i h1 h2
    rw[Ak hn h1,tv hn h2];exact hr
   .cases hr
def pY(hn:h.get n=some .resv){rf:RF}(hr:results rf ts h=some v):results rf ts (h.putG n o tg)=some v:=by
 unfold results at hr |-;cases h1:jj ts h rf.results with
 |none=>rw[h1]at hr;cases hr
 |some vs=>rw[tv hn h1];rw[h1]at hr;exact hr
end
def Out.heap:Out->AH
 |.norm _ h | .exit _ _ h | .ret _ h | .val _ h=>h
def Out.mapH(f:AH->AH):Out->Out
 |.norm ts h=>.norm ts (f h)
 |.exit id ts h=>.exit id ts (f h)
 |.ret ts h=>.ret ts (f h)
 |.val v h=>.val v (f h)
def Lift(n:Nat)(o:AO)(tg:Option Nat)(R:Out->Prop):Out->Prop:=λx=>∃y,R y/\y.heap.get n=some .resv/\x=y.mapH (·.putG n o tg)
section
variable {n:Nat}{o:AO}{tg:Option Nat}{R:Out->Prop}
def Lift.val{v:AV}{h':AH}(hl:Lift n o tg R (.val v h')):∃h0,R (.val v h0)/\h0.get n=some .resv/\h'=h0.putG n o tg:=by
 obtain⟨y,h1,h2,h3⟩:=hl;cases y<;>simp only[Out.mapH,reduceCtorEq,Out.val.injEq]at h3;obtain⟨rfl,rfl⟩:=h3;exact⟨_,h1,h2,rfl⟩
def Lift.norm{ts:Tm}{h':AH}(hl:Lift n o tg R (.norm ts h')):∃h0,R (.norm ts h0)/\h0.get n=some .resv/\h'=h0.putG n o tg:=by
 obtain⟨y,h1,h2,h3⟩:=hl;cases y<;>simp only[Out.mapH,reduceCtorEq,Out.norm.injEq]at h3;obtain⟨rfl,rfl⟩:=h3;exact⟨_,h1,h2,rfl⟩
def Lift.ret{ts:Tm}{h':AH}(hl:Lift n o tg R (.ret ts h')):∃h0,R (.ret ts h0)/\h0.get n=some .resv/\h'=h0.putG n o tg:=by
 obtain⟨y,h1,h2,h3⟩:=hl;cases y<;>simp only[Out.mapH,reduceCtorEq,Out.ret.injEq]at h3;obtain⟨rfl,rfl⟩:=h3;exact⟨_,h1,h2,rfl⟩
def Lift.exit{id:Nat}{ts:Tm}{h':AH}(hl:Lift n o tg R (.exit id ts h')):∃h0,R (.exit id ts h0)/\h0.get n=some .resv/\h'=h0.putG n o tg:=by
 obtain⟨y,h1,h2,h3⟩:=hl;cases y<;>simp only[Out.mapH,reduceCtorEq,Out.exit.injEq]at h3;obtain⟨rfl,rfl,rfl⟩:=h3;exact⟨_,h1,h2,rfl⟩
def Lift.mk{y:Out}(h1:R y)(h2:y.heap.get n=some .resv):Lift n o tg R (y.mapH (·.putG n o tg)):=⟨y,h1,h2,rfl⟩
def tI{h:AH}(hn:h.get n=some .resv)(k:Nat):(h.keep k).get n=some .resv:=by
 rw[AH.keep_get,if_neg (by have:=AH.lt_of_get hn;omega)];exact hn
def BS.frame{P:RP}{t:Task}{ts:Tm}{h:AH}{R:Out->Prop}(hb:BS P t ts h R):h.get n=some .resv->(∀b l,t=.ops b l->n<b)->BS P t ts (h.putG n o tg) (Lift n o tg R):=by
 induction hb with
 |nil a=>exact λhn _=>.nil (Lift.mk (y:=.norm _ _) a hn)
 |skipped a _ ih=>exact λhn hb=>.skipped a (ih hn (λb l q=>by cases q;exact hb _ _ rfl))
 |@op b0 x l ts h v h' R a e c _ ih =>
   intro hn hb;have hlt:=hb _ _ rfl;obtain⟨f1,f2⟩:=xG (o:=o) (tg:=tg) hn (λj _=>by omega) v h' e;exact .op a f2 (jz f1 c) (ih f1 (λb l q=>by cases q;exact hlt))
 |@any b0 x l ts h y as R a b c k _ ih =>
   intro hn hb;have hlt:=hb _ _ rfl;obtain⟨f1,f2⟩:=wU (o:=o) (tg:=tg) hn c;refine .any a b f1 (λv h' hm=>?_) λv h' hm=>?_
   .rw[bp]at hm;obtain⟨⟨v0,h0⟩,hm,e⟩:=hm;simp only[aq]at e;obtain⟨rfl,rfl⟩:=e;exact jz (f2 _ _ hm) (k _ _ hm)
   .rw[bp]at hm;obtain⟨⟨v0,h0⟩,hm,e⟩:=hm;simp only[aq]at e;obtain⟨rfl,rfl⟩:=e;exact ih _ _ hm (f2 _ _ hm) (λb l q=>by cases q;exact hlt)
 |call a b c k _ i1 i2 =>
   intro hn hb;have hlt:=hb _ _ rfl;refine .call a b (i1 hn (λ_ _ q=>by cases q)) (λv h' hm=>?_) λv h' hm=>?_
   .obtain⟨h0,q1,q2,rfl⟩:=hm.val;exact jz q2 (k _ _ q1)
   .obtain⟨h0,q1,q2,rfl⟩:=hm.val;exact i2 _ _ q1 q2 (λb l q=>by cases q;exact hlt)
 |callv a b d c k _ i1 i2 =>
   intro hn hb;have hlt:=hb _ _ rfl;refine .callv a b d (i1 hn (λ_ _ q=>by cases q)) (λv h' hm=>?_) λv h' hm=>?_
   .obtain⟨h0,q1,q2,rfl⟩:=hm.val;exact jz q2 (k _ _ q1)
   .obtain⟨h0,q1,q2,rfl⟩:=hm.val;exact i2 _ _ q1 q2 (λb l q=>by cases q;exact hlt)
 |yield a b d c k _ i1 i2 =>
   intro hn hb;have hlt:=hb _ _ rfl;refine .yield a b d (i1 hn (λ_ _ q=>by cases q)) (λv h' hm=>?_) λv h' hm=>?_
   .obtain⟨h0,q1,q2,rfl⟩:=hm.val;exact jz q2 (k _ _ q1)
   .obtain⟨h0,q1,q2,rfl⟩:=hm.val;exact i2 _ _ q1 q2 (λb l q=>by cases q;exact hlt)
 |skip a=>exact λhn _=>.skip (Lift.mk (y:=.norm _ _) a hn)
 |reg _ ih =>
   intro hn _;have hlt:=AH.lt_of_get hn;exact .reg (by rw[AH.next_putG];exact ih hn (λb l q=>by cases q;exact hlt))
 |regD a _ ih =>
   intro hn _;have hlt:=AH.lt_of_get hn;refine .regD a λl hl=>?_;rw[AH.next_putG,AH.putG_keep _ _ hlt];exact ih l hl (tI hn _) (λb l q=>by cases q;exact hlt)
 |regK _ ih =>
   intro hn _;have hlt:=AH.lt_of_get hn;refine .regK ?_;rw[AH.next_putG,AH.putG_keep _ _ hlt];exact ih (tI hn _) (λb l q=>by cases q;exact hlt)
 |seq _ _ c d i1 i2 =>
   intro hn _;refine .seq (i1 hn (λ_ _ q=>by cases q)) (λts' h' hs=>?_) (λid ts' h' hs=>?_) λts' h' hs=>?_
   .obtain⟨h0,q1,q2,rfl⟩:=hs.norm;exact i2 _ _ q1 q2 (λ_ _ q=>by cases q)
   .obtain⟨h0,q1,q2,rfl⟩:=hs.exit;exact Lift.mk (y:=.exit _ _ _) (c _ _ _ q1) q2
   .obtain⟨h0,q1,q2,rfl⟩:=hs.ret;exact Lift.mk (y:=.ret _ _) (d _ _ q1) q2
 |cond a _ ih =>
   intro hn _;exact .cond a (ih hn (λ_ _ q=>by cases q))
 |block a b ih =>
   intro hn _;refine .block (ih hn (λ_ _ q=>by cases q)) λx hx=>?_;obtain⟨y,q1,q2,rfl⟩:=hx;refine⟨_,b y q1,?_,?_⟩
   .cases y<;>simp only[Out.unblock]<;>(try split)<;>exact q2
   .cases y<;>simp only[Out.unblock,Out.mapH]<;>(try split)<;>rfl
 |loop _ _ c d i1 i2 =>
   intro hn _;refine .loop (i1 hn (λ_ _ q=>by cases q)) (λts' h' hs=>?_) (λid ts' h' hs=>?_) λts' h' hs=>?_
   .obtain⟨h0,q1,q2,rfl⟩:=hs.norm;exact i2 _ _ q1 q2 (λ_ _ q=>by cases q)
   .obtain⟨h0,q1,q2,rfl⟩:=hs.exit;exact Lift.mk (y:=.exit _ _ _) (c _ _ _ q1) q2
   .obtain⟨h0,q1,q2,rfl⟩:=hs.ret;exact Lift.mk (y:=.ret _ _) (d _ _ q1) q2
 |@rangeF fn p f ps asg body ts h g caps S R a b c ih =>
   intro hn _;have hlt:=AH.lt_of_get hn;have hnew:=AH.putG_newG (o':=.lp fn p ts ps .ready none) (tg':=none) (o:=o) (tg:=tg) hlt;simp only[AH.newG]at hnew;refine .rangeF a (S:=Lift n o tg S) ?_ ?_
   .rw[AH.next_putG,hnew];exact ih (mR (tg':=none) hn) (λ_ _ q=>by cases q)
   .intro v h' hs;obtain⟨h0,q1,q2,rfl⟩:=hs.val;obtain⟨f1,p1,t1,s1,st,pend,e1,e2,e3⟩:=c v h0 q1;rw[AH.next_putG];have hb:=mh q2 e1 (by simp);refine⟨f1,p1,t1,s1,st,pend,dK q2 _ _ e1 (by simp),e2,?_⟩;cases pend with
    |none=>simp only at e3 |-;rw[AH.put_putG hb];exact Lift.mk (y:=.norm _ _) e3 (gf q2 hb (AH.lt_of_get e1))
    |some z=>cases z with
      |none=>simp only at e3 |-;rw[AH.put_putG hb];exact Lift.mk (y:=.ret _ _) e3 (gf q2 hb (AH.lt_of_get e1))
      |some id=>simp only at e3 |-;rw[AH.put_putG hb];exact Lift.mk (y:=.exit _ _ _) e3 (gf q2 hb (AH.lt_of_get e1))
 |exit a=>exact λhn _=>.exit (Lift.mk (y:=.exit _ _ _) a hn)
 |ret a=>exact λhn _=>.ret (Lift.mk (y:=.ret _ _) a hn)
 |srt a b c d e =>
   intro hn _;obtain⟨f1,f2⟩:=mM (o:=o) (tg:=tg) hn c;exact .srt a (fN (dK hn) b) f2 d (Lift.mk (y:=.val _ _) e f1)
 |@srf _ _ _ _ _ _ _ kf _ _ _ a b c d e k =>
   intro hn _;refine .srf (kf:=kf) a (fN (dK hn) b) c d (λi v hv=>?_) λis p q=>?_
   .obtain⟨b',o',n',c',h1,h2,h3,h4⟩:=e i v hv;exact⟨b',o',n',c',h1,h2,fN (dK hn) h3,h4⟩
   .obtain⟨h',x,y⟩:=k is p q;obtain⟨f1,f2⟩:=mM (o:=o) (tg:=tg) hn x;exact⟨_,f2,Lift.mk (y:=.val _ _) y f1⟩
 |func a b c d ih =>
   intro hn _;refine .func a (ih hn (λ_ _ q=>by cases q)) (λid ts' h' hs=>?_) λts' h' hs=>?_
   .obtain⟨h0,q1,q2,rfl⟩:=hs.exit;exact c _ _ _ q1
   .rcases hs with hs|hs
    .obtain⟨h0,q1,q2,rfl⟩:=hs.norm;obtain⟨v,r1,r2⟩:=d _ _ (.inl q1);exact⟨v,pY q2 r1,Lift.mk (y:=.val _ _) r2 q2⟩
    .obtain⟨h0,q1,q2,rfl⟩:=hs.ret;obtain⟨v,r1,r2⟩:=d _ _ (.inr q1);exact⟨v,pY q2 r1,Lift.mk (y:=.val _ _) r2 q2⟩
 |@round b args ts h fn p tl ps rf f asg body S S2 R a b1 c d e f1 g i i1 i2 =>
   intro hn _;have hb:=mh hn a (by simp);refine .round (dK hn _ _ a (by simp)) b1 c d (S:=Lift n o tg S) (S2:=Lift n o tg S2) (i1 hn (λ_ _ q=>by cases q)) ?_ ?_ ?_
   .rintro x ⟨y,q1,q2,rfl⟩;obtain⟨ts1,h1,g1,p1,t1,s1,rfl,hg⟩:=f1 y q1;exact⟨ts1,_,g1,p1,t1,s1,rfl,dK q2 _ _ hg (by simp)⟩
   .intro ts1 h1 g1 p1 t1 s1 hs hg1;obtain⟨h0,q1,q2,rfl⟩:=hs.norm;obtain⟨_,_,g2,p2,t2,s2,e1,hg⟩:=f1 _ q1;cases e1;have hsame:=dK (o:=o) (tg:=tg) q2 _ _ hg (by simp);rw[hsame]at hg1;simp only[aa,AO.lp.injEq,true_and,and_true]at hg1;obtain⟨rfl,rfl,rfl,rfl⟩:=hg1;rw[AH.put_putG hb];exact i2 ts1 h0 _ _ _ _ q1 hg (gf q2 hb (AH.lt_of_get hg)) (λ_ _ q=>by cases q)
   .rintro x ⟨y,q1,q2,rfl⟩;have:=i y q1;cases y with
    |norm _ h2 =>
      obtain⟨_,_,_,_,r1,r2⟩:=this;refine⟨_,_,_,_,dK q2 _ _ r1 (by simp),?_⟩;rw[AH.put_putG hb];exact Lift.mk (y:=.val _ _) r2 (gf q2 hb (AH.lt_of_get r1))
    |ret _ h2 =>
      obtain⟨_,_,_,_,r1,r2⟩:=this;refine⟨_,_,_,_,dK q2 _ _ r1 (by simp),?_⟩;rw[AH.put_putG hb];exact Lift.mk (y:=.val _ _) r2 (gf q2 hb (AH.lt_of_get r1))
    |exit id _ h2 =>
      obtain⟨_,_,_,_,r1,r2⟩:=this;refine⟨_,_,_,_,dK q2 _ _ r1 (by simp),?_⟩;rw[AH.put_putG hb];exact Lift.mk (y:=.val _ _) r2 (gf q2 hb (AH.lt_of_get r1))
    |val=>exact this
end
end Go.Am
