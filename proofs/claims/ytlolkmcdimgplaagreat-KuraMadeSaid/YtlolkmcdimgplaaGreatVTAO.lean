/- block's search -/
import Derived.Test.YtlolkmcdimgplaaGreatVTAN
set_option linter.all false
namespace Go.Proofs.YtlolkmcdimgplaaGreat
open Go.Am
open Go.Blk (Gr DS upd)
variable {l:List Nat}{lo:Nat}{v:AV}
def nI(l:List Nat):List Int:=l.map λi=>((i:Nat):Int)
def nL(l:List Nat):List AV:=l.map λi=>.int .i64 (i:Nat)
theorem kv(l:List Nat):(nI l).length=l.length:=by simp[nI]
theorem LY(l:List Nat):(nI l).flatMap eI=nL l:=by
 induction l with
 |nil=>rfl
 |cons a l ih=>simp only[nI,nL,aS,bm]at *;rw[ih];rfl
theorem Hs(l m:List Nat):nL (l++m)=nL l++nL m:=by simp[nL]
def Sep(v w:AV):Prop:=∀b o n c o' n' c',v=.sl b o n c->w≠.sl b o' n' c'
theorem Sep.nill:Sep .nils v:=λ_ _ _ _ _ _ _ e=>by cases e
def Stk(h:AH)(lo:Nat)(v:AV)(l:List Nat):Prop :=
 (v=.nils/\l=[])\/∃b c cs,lo<=b/\v=.sl b 0 l.length c/\h.get b=some (.cells cs 1 false)/\cs.length=c/\l.length<=c/\cs.take l.length=nL l
theorem Stk.cong{h h':AH}(hs:Stk h lo v l)(hk:∀c,lo<=c->(∃o n k,v=.sl c o n k)->h'.get c=h.get c):Stk h' lo v l:=by
 rcases hs with hs|⟨b,c,cs,h1,h2,h3,h4⟩
 .exact .inl hs
 .exact .inr ⟨b,c,cs,h1,h2,by rw[hk b h1 ⟨_,_,_,h2⟩];exact h3,h4⟩
theorem Stk.lt{h:AH}(hs:Stk h lo v l){b o n c:Nat}(e:v=.sl b o n c):b<h.next/\lo<=b:=by
 rcases hs with⟨rfl,_⟩|⟨b',c',cs,h1,rfl,h3,_⟩
 .cases e
 .cases e;exact⟨AH.lt_of_get h3,h1⟩
theorem Stk.cells{h:AH}{lo:Nat}{v:AV}{l:List Nat}(hs:Stk h lo v l):v.cells=[v]/\v.one=true:=by
 rcases hs with⟨rfl,_⟩|⟨b',c',cs,h1,rfl,h3,_⟩<;>exact⟨rfl,rfl⟩
theorem Stk.sl{h:AH}{lo:Nat}{v:AV}{l:List Nat}(hs:Stk h lo v l):SlI h v (nI l):=by
 rcases hs with⟨rfl,rfl⟩|⟨b,c,cs,h1,rfl,h3,h4,h5,h6⟩
 .exact .inl ⟨rfl,.inl rfl⟩
 .refine .inr ⟨b,0,c,cs,false,by rw[ah,kv],h3,by rw[ah,kv];exact h5,by rw[ah,kv];omega,λi x hi=>?_⟩;rw[aG]at hi;obtain⟨y,hy,rfl⟩:=aE.1 hi;have hil:i<l.length:=by have:=(aF.1 hy).1;rwa [kv]at this
  have e1:(cs.take l.length)[i]?=some (.int .i64 y):=by
   rw[h6];unfold nL;unfold nI at hy;rw[aG]at hy |-;obtain⟨z,hz,rfl⟩:=aE.1 hy;rw[hz];rfl
  rw[cM,if_pos hil]at e1;obtain⟨h7,h8⟩:=aF.1 e1;refine⟨om,?_⟩;rw[cq,bh,cn h7,h8];rfl
theorem Stk.push{h:AH}(hs:Stk h lo v l)(i:Nat)(hlo:lo<=h.next)(hl:l.length<2^34) :
 ∃v' h',iX (h.new (.cells [.int .i64 (i:Nat)] 1 false)) 1 8 v (.sl h.next 0 1 1)=some (v',h')/\Stk h' lo v' (l++[i])/\h.next<=h'.next/\(∀c,c<h.next->(∀o n k,v≠.sl c o n k)->h'.get c=h.get c)/\(∀c,h'.tyOf c=h.tyOf c) /\
   ∀w,(∀b o n c,w=.sl b o n c->b<h.next)->Sep w v->Sep w v':=by
 have hx:(h.new (.cells [.int .i64 (i:Nat)] 1 false)).get h.next=some (.cells [.int .i64 (i:Nat)] 1 false):=by rw[AH.get_new,if_pos rfl]
 have hg:∀c,c<h.next->(h.new (.cells [.int .i64 (i:Nat)] 1 false)).get c=h.get c:=λc hc=>by rw[AH.get_new,if_neg om]
 have hn:(h.new (.cells [.int .i64 (i:Nat)] 1 false)).next=h.next+1:=rfl;have ht:∀c,(h.new (.cells [.int .i64 (i:Nat)] 1 false)).tyOf c=h.tyOf c:=λ_=>rfl;generalize h.new (.cells [.int .i64 (i:Nat)] 1 false)=h1 at *
 have hr:aA h1 h.next 0 (1*1)=some [.int .i64 (i:Nat)]:=by rw[bI hx];rfl
 have ho:([.int .i64 (i:Nat)]:List AV).all AV.one=true:=rfl;rcases hs with⟨rfl,rfl⟩|⟨b,c,cs,k1,rfl,k3,k4,k5,k6⟩
 .refine⟨.sl h1.next 0 1 1,h1.new (.cells [.int .i64 (i:Nat)] 1 false),?_,.inr ⟨h1.next,1,_,om,rfl,by rw[AH.get_new,if_pos rfl],rfl,ab _,rfl⟩,by rw[AH.next_new];omega,λc hc _=>by rw[AH.get_new,if_neg om,hg c hc],λc=>ht c,λw hw _ b o n c o' n' c' e1 e2=>?_⟩
  .simp only[iX,eT,hr,aC,ho,if_true,kQ,if_false];rw[if_pos ⟨by unfold bq;omega,by unfold bq;omega⟩]
  .have:=hw b o n c e1;cases e2;omega
 .have hb:=AH.lt_of_get k3;have k3':h1.get b=some (.cells cs 1 false):=by rw[hg b hb];exact k3
  by_cases hc:l.length+1<=c
  .have hw:=iP (v:=.int .i64 (i:Nat)) k3' (i:=l.length) om;have u:=Nv (o:=.cells (cs.set l.length (.int .i64 (i:Nat))) 1 false) k3';refine⟨.sl b 0 (l.length+1) c,h1.put b (.cells (cs.set l.length (.int .i64 (i:Nat))) 1 false),?_,.inr ⟨b,c,_,k1,by rw[aB];rfl,u.get,by rw[dh];exact k4,by rw[aB];exact hc,?_⟩,by rw[u.nx];omega,λc' hc' hne=>?_,λc'=>(u.ty c').trans (ht c'),λw _ hs b1 o n c1 o' n' c' e1 e2=>?_⟩
   .simp only[iX,eT,hr,aC,ho,if_true,kQ,if_false,if_pos hc,cq,bh,hw]
   .rw[aB,ar,aU,Hs,<-k6];refine dI λj=>?_;rw[cM,dB,List.getElem?_append,bK,dU om,cM];by_cases q:j<l.length
    .rw[if_pos om,if_neg om,if_pos q,if_pos q]
    .by_cases q2:j=l.length
     .subst q2;rw[if_pos om,if_pos rfl,if_pos om,if_neg om,dP];rfl
     .rw[if_neg om,if_neg q,bX (by simp[nL];omega)]
   .rw[u.ne (λe=>hne 0 l.length c (by rw[e])),hg _ hc']
   .cases e2;exact hs b o n c1 _ _ _ e1 rfl
  .have hcl:c=l.length:=om;have hcs:cs=nL l:=by rw[<-k6,cV om]
   have hr2:aA h1 b 0 (l.length*1)=some cs:=by
    rw[bI k3',if_pos om,bT,cV om]
   refine⟨.sl h1.next 0 (l.length+1) (l.length+1),(h1.put b .dead).new (.cells (cs++[.int .i64 (i:Nat)]) 1 false),?_,.inr ⟨h1.next,l.length+1,_,om,by rw[aB];rfl,by rw[AH.get_new,AH.next_put,if_pos rfl],by rw[aB,k4,hcl];rfl,by rw[aB];exact ab _,?_⟩,by rw[AH.next_new,AH.next_put];omega,λc' hc' hne=>?_,λc'=>ht c',λw hw _ b1 o n c1 o' n' c' e1 e2=>?_⟩
   .simp only[iX,eT,hr,aC,ho,if_true,kQ,if_false];rw[if_neg hc,if_pos ⟨by unfold bq;omega,by unfold bq;omega⟩,k3',hr2];simp only[if_true]
   .rw[Hs,<-hcs,cV (by rw[aB,aB,k4,hcl];exact ab _)];rfl
   .rw[AH.get_new,AH.next_put,if_neg om,AH.get_put _ _ _ _ om,if_neg (λe=>hne 0 l.length c (by rw[e])),hg _ hc']
   .have:=hw b1 o n c1 e1;cases e2;omega
theorem Stk.cut{h:AH}(hs:Stk h lo v l){k:Nat}(hk:k<=l.length) :
 ∃v',slV h 1 v none (some (.int .i64 (k:Nat))) none=some v'/\Stk h lo v' (l.take k)/\(∀w,Sep w v->Sep w v')/\∀c,(∃o n k,v'=.sl c o n k)->∃o n k,v=.sl c o n k:=by
 rcases hs with⟨rfl,rfl⟩|⟨b,c,cs,k1,rfl,k3,k4,k5,k6⟩
 .have:k=0:=by simpa using hk
  subst this;exact⟨.nils,rfl,.inl ⟨rfl,rfl⟩,λ_ q=>q,λ_ q=>q⟩
 .have hb:=gJ (k:=.i64) (show k<=c by omega);refine⟨.sl b 0 k c,?_,.inr ⟨b,c,cs,k1,by rw[bK,dU hk],k3,k4,by rw[bK];omega,?_⟩,λw hs b1 o n c1 o' n' c' e1 e2=>?_,λc' ⟨o,n,k',e⟩=>?_⟩
  .simp only[slV,k3,if_true,pV,hb,aC,lY,dX,FS,ite_self]
  .rw[bK,dU hk];have:cs.take k=(cs.take l.length).take k:=by rw[qd,dU hk]
   rw[this,k6];unfold nL;rw[eM]
  .cases e2;exact hs b o n c1 _ _ _ e1 rfl
  .cases e;exact⟨_,_,_,rfl⟩
def dS(E:List (Int×Int))(x:Nat):List Nat:=(List.range E.length).filter λi=>decide (tlE E i=x)||decide (hdE E i=x)
theorem Ao{n:Nat}{E:List (Int×Int)}(hE:InG n E)(hl:∀i,i<E.length->tlE E i≠hdE E i):∀x,x<(grE n E hE hl).n->(dS E x).Nodup/\∀i,i∈dS E x↔(grE n E hE hl).inc i x:=λx _=>by
 refine⟨List.nodup_range.filter _,λi=>?_⟩;unfold dS;rw[aJ,aq,du,aK,aK];rfl
def SS(sp nb lb:Nat)(c:Nat):Prop:=c=sp\/c=nb\/c=lb
structure Sta(h0:AH)(sp eb nb lb n:Nat)(ev:AV)(E:List (Int×Int)):Prop where
 he:SlE h0 ev E
 oe:Off (SS sp nb lb) ev
 ge:∃es,h0.get eb=some (.cells es 1 false)/\es.length=n/\∀(x:Nat) (v:AV),es[x]?=some v->SlI h0 v (nI (dS E x))/\Off (SS sp nb lb) v
 ne:eb≠sp/\eb≠nb/\eb≠lb/\nb≠sp/\nb≠lb/\lb≠sp
 lt:sp<h0.next/\nb<h0.next/\lb<h0.next
structure Ser(h0 h:AH)(sp eb nb lb n:Nat)(ev:AV)(s:DS)(stv blv:AV)(bs:List AV):Prop where
 kp:Kp (SS sp nb lb) h0 h
 cell:h.get sp=some (.cells [.int .i64 (n:Nat),ev,.sl eb 0 n n,.sl nb 0 n n,.sl lb 0 n n,.int .i64 (s.cnt:Nat),stv,blv] 8 false)
 gn:h.get nb=some (.cells (il n λv=>((s.num v:Nat):Int)) 1 false)
 gl:h.get lb=some (.cells (il n λv=>((s.low v:Nat):Int)) 1 false)
 st:Stk h h0.next stv s.stk
 bl:IsSl h 1 h0.next blv bs
 rl:bs.length=s.blk.length
 rw:∀(j:Nat) (v:AV) (l:List Nat),bs[j]?=some v->s.blk[j]?=some l->IsSl h 1 h0.next v (nL l)/\Sep v stv/\Sep v blv
 sb:Sep blv stv
section
variable {h0 h:AH}{sp eb nb lb n:Nat}{ev:AV}{E:List (Int×Int)}{s:DS}{stv blv:AV}{bs:List AV}
theorem Sta.edges(t:Sta h0 sp eb nb lb n ev E)(kp:Kp (SS sp nb lb) h0 h):SlE h ev E:=t.he.kp kp t.oe
theorem Sta.row(t:Sta h0 sp eb nb lb n ev E)(kp:Kp (SS sp nb lb) h0 h){x:Nat}(hx:x<n):∃v,aA h eb x 1=some [v]/\SlI h v (nI (dS E x))/\Off (SS sp nb lb) v/\SlI h0 v (nI (dS E x)):=by
 obtain⟨es,g,l,r⟩:=t.ge;obtain⟨n1,n2,n3,_⟩:=t.ne;have hv:es[x]?=some es[x]:=ae om;obtain⟨r1,r2⟩:=r x _ hv;have g':h.get eb=some (.cells es 1 false):=by
  rw[kp.gt eb (AH.lt_of_get g) (by rintro (e|e|e);exact n1 e;exact n2 e;exact n3 e)];exact g
 exact⟨_,bJ g' hv,r1.kp kp r2,r2,r1⟩
theorem Ser.wr(r:Ser h0 h sp eb nb lb n ev s stv blv bs){h':AH}{c:Nat}{o:AO}(u:Upd h h' c o)(hc:SS sp nb lb c)(hl:c<h0.next):Kp (SS sp nb lb) h0 h'/\Stk h' h0.next stv s.stk/\IsSl h' 1 h0.next blv bs /\
 ∀(j:Nat) (v:AV) (l:List Nat),bs[j]?=some v->s.blk[j]?=some l->IsSl h' 1 h0.next v (nL l)/\Sep v stv/\Sep v blv :=
 ⟨r.kp.trans (u.kp hc) λ_ _ q=>q,r.st.cong λc' hc' _=>u.ne om,r.bl.upd u om,λj v l a b=>⟨(r.rw j v l a b).1.upd u om,(r.rw j v l a b).2⟩⟩
theorem Ser.setCnt(t:Sta h0 sp eb nb lb n ev E)(r:Ser h0 h sp eb nb lb n ev s stv blv bs)(k:Nat):∃h',cj h sp 5 [.int .i64 (k:Nat)]=some h'/\Ser h0 h' sp eb nb lb n ev { s with cnt:=k} stv blv bs:=by
 obtain⟨n1,n2,n3,n4,n5,n6⟩:=t.ne;have w:=iP (v:=.int .i64 (k:Nat)) r.cell (i:=5) (by simp);change cj h sp 5 [.int .i64 (k:Nat)]=some (h.put sp (.cells [.int .i64 (n:Nat),ev,.sl eb 0 n n,.sl nb 0 n n,.sl lb 0 n n,.int .i64 (k:Nat),stv,blv] 8 false))at w;have u:=Nv (o:=.cells [.int .i64 (n:Nat),ev,.sl eb 0 n n,.sl nb 0 n n,.sl lb 0 n n,.int .i64 (k:Nat),stv,blv] 8 false) r.cell;obtain⟨a1,a2,a3,a4⟩:=r.wr u (.inl rfl) t.lt.1;exact⟨_,w,{ kp:=a1,cell:=u.get,gn:=by rw[u.ne n4];exact r.gn,gl:=by rw[u.ne n6];exact r.gl,st:=a2,bl:=a3,rl:=r.rl,rw:=a4,sb:=r.sb}⟩
theorem HT{f:Nat->Nat}{x k:Nat}:(il n λv=>((f v:Nat):Int)).set x (.int .i64 (k:Nat))=il n λv=>((upd f x k v:Nat):Int):=by
 rw[MU];refine HU λi _=>?_;by_cases e:i=x
 .subst e;rw[if_pos rfl,Go.Blk.upd_same]
 .rw[if_neg e,Go.Blk.upd_ne e]
theorem Ser.setNum(t:Sta h0 sp eb nb lb n ev E)(r:Ser h0 h sp eb nb lb n ev s stv blv bs){x:Nat}(hx:x<n)(k:Nat):∃h',cj h nb x [.int .i64 (k:Nat)]=some h'/\Ser h0 h' sp eb nb lb n ev { s with num:=upd s.num x k} stv blv bs:=by
 obtain⟨n1,n2,n3,n4,n5,n6⟩:=t.ne;have w:=iP (v:=.int .i64 (k:Nat)) r.gn (i:=x) (by rw[um];exact hx);rw[HT]at w;have u:=Nv (o:=.cells (il n λv=>((upd s.num x k v:Nat):Int)) 1 false) r.gn;obtain⟨a1,a2,a3,a4⟩:=r.wr u (.inr (.inl rfl)) t.lt.2.1;exact⟨_,w,{ kp:=a1,cell:=by rw[u.ne (Ne.symm n4)];exact r.cell,gn:=u.get,gl:=by rw[u.ne (Ne.symm n5)];exact r.gl,st:=a2,bl:=a3,rl:=r.rl,rw:=a4,sb:=r.sb}⟩
theorem Ser.setLow(t:Sta h0 sp eb nb lb n ev E)(r:Ser h0 h sp eb nb lb n ev s stv blv bs){x:Nat}(hx:x<n)(k:Nat):∃h',cj h lb x [.int .i64 (k:Nat)]=some h'/\Ser h0 h' sp eb nb lb n ev { s with low:=upd s.low x k} stv blv bs:=by
 obtain⟨n1,n2,n3,n4,n5,n6⟩:=t.ne;have w:=iP (v:=.int .i64 (k:Nat)) r.gl (i:=x) (by rw[um];exact hx);rw[HT]at w;have u:=Nv (o:=.cells (il n λv=>((upd s.low x k v:Nat):Int)) 1 false) r.gl;obtain⟨a1,a2,a3,a4⟩:=r.wr u (.inr (.inr rfl)) t.lt.2.2;exact⟨_,w,{ kp:=a1,cell:=by rw[u.ne (Ne.symm n6)];exact r.cell,gn:=by rw[u.ne n5];exact r.gn,gl:=u.get,st:=a2,bl:=a3,rl:=r.rl,rw:=a4,sb:=r.sb}⟩
theorem Ser.setStk(t:Sta h0 sp eb nb lb n ev E)(r:Ser h0 h sp eb nb lb n ev s stv blv bs){h1:AH}{v':AV}{l:List Nat}(hn:h.next<=h1.next)(hk:∀c,c<h.next->(∀o n k,stv≠.sl c o n k)->h1.get c=h.get c)(ht:∀c,h1.tyOf c=h.tyOf c)(hs:Stk h1 h0.next v' l)
 (hsep:∀w,(∀b o n c,w=.sl b o n c->b<h.next)->Sep w stv->Sep w v'):∃h2,cj h1 sp 6 [v']=some h2/\Ser h0 h2 sp eb nb lb n ev { s with stk:=l} v' blv bs:=by
 obtain⟨n1,n2,n3,n4,n5,n6⟩:=t.ne;obtain⟨l1,l2,l3⟩:=t.lt;have hnx:=r.kp.nx;have low:∀c,c<h0.next->h1.get c=h.get c:=λc hc=>hk c om λo n k e=>by have:=(r.st.lt e).2;omega
 have c1:h1.get sp=some (.cells [.int .i64 (n:Nat),ev,.sl eb 0 n n,.sl nb 0 n n,.sl lb 0 n n,.int .i64 (s.cnt:Nat),stv,blv] 8 false):=by rw[low sp l1];exact r.cell
 have w:=iP (v:=v') c1 (i:=6) (by simp);change cj h1 sp 6 [v']=some (h1.put sp (.cells [.int .i64 (n:Nat),ev,.sl eb 0 n n,.sl nb 0 n n,.sl lb 0 n n,.int .i64 (s.cnt:Nat),v',blv] 8 false))at w;have u:=Nv (o:=.cells [.int .i64 (n:Nat),ev,.sl eb 0 n n,.sl nb 0 n n,.sl lb 0 n n,.int .i64 (s.cnt:Nat),v',blv] 8 false) c1;have kp1:Kp (SS sp nb lb) h0 h1:=⟨om,λc hc hn'=>by rw[low c hc];exact r.kp.gt c hc hn',λc hc=>(ht c).trans (r.kp.ty c hc)⟩
 have keep:∀{w cs},IsSl h 1 h0.next w cs->Sep w stv->IsSl h1 1 h0.next w cs:=fun {w cs} q hsw=>q.cong λb m e hb=>hk b (q.lt e) λo n' k e2=>hsw b 0 m m o n' k e e2;refine⟨_,w,{ kp:=kp1.trans (u.kp (.inl rfl)) λ_ _ q=>q,cell:=u.get,gn:=by rw[u.ne n4,low nb l2];exact r.gn,gl:=by rw[u.ne n6,low lb l3];exact r.gl,st:=hs.cong λc hc _=>u.ne om,bl:=(keep r.bl r.sb).upd u om,rl:=r.rl,rw:=λj v q a b=>?_,sb:=hsep _ (λb o n' c e=>r.bl.lt e) r.sb}⟩;obtain⟨a1,a2,a3⟩:=r.rw j v q a b;exact⟨(keep a1 a2).upd u om,hsep _ (λb o n' c e=>a1.lt e) a2,a3⟩
theorem Ser.push(t:Sta h0 sp eb nb lb n ev E)(r:Ser h0 h sp eb nb lb n ev s stv blv bs)(i:Nat)(hl:s.stk.length<2^34) :
 ∃v' h1 h2,iX (h.new (.cells [.int .i64 (i:Nat)] 1 false)) 1 8 stv (.sl h.next 0 1 1)=some (v',h1)/\v'.cells=[v']/\v'.one=true/\cj h1 sp 6 [v']=some h2/\Ser h0 h2 sp eb nb lb n ev { s with stk:=s.stk++[i]} v' blv bs:=by
 obtain⟨v',h1,a1,a2,a3,a4,a5,a6⟩:=r.st.push i r.kp.nx hl;obtain⟨h2,b1,b2⟩:=r.setStk t a3 a4 a5 a2 a6;exact⟨v',h1,h2,a1,a2.cells.1,a2.cells.2,b1,b2⟩
end
open Go.Am
open Go.Blk (Gr DS upd)
def mH(E:List (Int×Int))(k x:Nat):List Nat:=(List.range k).filter λi=>decide (tlE E i=x)||decide (hdE E i=x)
theorem BO{E:List (Int×Int)}{k x:Nat}:mH E (k+1) x=mH E k x++if tlE E k=x\/hdE E k=x then [k]else []:=by
 unfold mH;rw[cJ,eL];congr 1;by_cases q:tlE E k=x\/hdE E k=x
 .rw[if_pos q,List.filter_cons_of_pos (by simpa using q)];rfl
 .rw[if_neg q,List.filter_cons_of_neg (by simpa using q)];rfl
theorem wR{E:List (Int×Int)}{k x:Nat}:(mH E k x).length<=k:=by
 unfold mH;have:=cF (λi=>decide (tlE E i=x)||decide (hdE E i=x)) (List.range k);rwa [br]at this
theorem MF(l m:List Nat):nI (l++m)=nI l++nI m:=by simp[nI]
def lL(n:Nat)(E:List (Int×Int))(k:Nat):List (List Int):=(List.range n).map λx=>nI (mH E k x)
theorem mr{n k x:Nat}{E:List (Int×Int)}(hx:x<n):(lL n E k)[x]?=some (nI (mH E k x)):=by
 unfold lL;rw[aG,fL hx];rfl
theorem Eo{n k:Nat}{E:List (Int×Int)}(ha:tlE E k<n)(hb:hdE E k<n)(hab:tlE E k≠hdE E k) :
 ((lL n E k).set (tlE E k) (nI (mH E k (tlE E k))++[((k:Nat):Int)])).set (hdE E k) (nI (mH E k (hdE E k))++[((k:Nat):Int)])=lL n E (k+1):=by
 refine dI λj=>?_;have hl:(lL n E k).length=n:=by simp[lL]
 have hl2:(lL n E (k+1)).length=n:=by simp[lL]
 rw[dB,dB,dh,hl];by_cases hj:j<n
 .rw[mr hj,mr hj,BO,MF];by_cases e1:hdE E k=j
  .rw[if_pos e1,if_pos hb,if_pos (.inr e1),e1];rfl
  .rw[if_neg e1];by_cases e2:tlE E k=j
   .rw[if_pos e2,if_pos ha,if_pos (.inl e2),e2];rfl
   .rw[if_neg e2,if_neg (by rintro (q|q);exact e2 q;exact e1 q)];simp[nI]
 .rw[if_neg om,if_neg om,bX (by rw[hl];omega),bX (by rw[hl2];omega)]
theorem Ep(h:AH)(n:Nat)(E:List (Int×Int)):Rw h h.next (dA [.nils] n) (lL n E 0):=by
 rw[li];refine⟨by simp[lL],λi v xs h1 h2=>?_,λi j b n' b' n'' _ h1=>?_⟩
 .rw[gj]at h1;split at h1
  .rename_i hi
   rw[mr hi]at h2;simp only[aa]at h1 h2;subst h1 h2;exact .inl ⟨rfl,by simp[mH,nI]⟩
  .cases h1
 .rw[gj]at h1;split at h1<;>cases h1
theorem FK{h0 h:AH}{sp eb nb lb n:Nat}{ev:AV}{E:List (Int×Int)}{s:DS}{stv blv:AV}{bs:List AV}(t:Sta h0 sp eb nb lb n ev E)(r:Ser h0 h sp eb nb lb n ev s stv blv bs)(hE:InG n E)(hL:∀i,i<E.length->tlE E i≠hdE E i)(hn:n<2^40){i x:Nat}(hi:(grE n E hE hL).inc i x) :
 C prg 65 [.ptr sp 0,.int .i64 (i:Nat),.int .i64 (x:Nat)] h λv h'=>v=.int .i64 ((grE n E hE hL).oth i x:Nat)/\Ext h.next h h':=by
 refine Ny pf65 ?_;obtain⟨h1,h2⟩:=id hi;have him:i<E.length:=h1;have hx2:tlE E i=x\/hdE E i=x:=h2;have hLi:=hL i him;obtain⟨q1,q2,q3⟩:=hE i him;have he:=t.edges r.kp;obtain⟨b,p,a,rr,_,_⟩:=he.at (fR (f:=eE) him);rw[q1]at rr;have rse:aA h sp 1 1=some [ev]:=bJ r.cell rfl;have ho:((tlE E i:Nat):Int)+((hdE E i:Nat):Int)-((x:Nat):Int)=(((grE n E hE hL).oth i x:Nat):Int):=by
  show _=((tlE E i+hdE E i-x:Nat):Int)
  omega
 have hol:(grE n E hE hL).oth i x<n:=by
  show tlE E i+hdE E i-x<n;omega
 have w1:IntKind.i64.wrap (((tlE E i:Nat):Int)+((hdE E i:Nat):Int))=((tlE E i:Nat):Int)+((hdE E i:Nat):Int):=fx om om;have w2:IntKind.i64.wrap (((tlE E i:Nat):Int)+((hdE E i:Nat):Int)-((x:Nat):Int))=(((grE n E hE hL).oth i x:Nat):Int):=by rw[ho];exact fx om om
 obtain⟨h3,w3,x3,g3,n3⟩:=gv (h:=h) (z:=[.int .i64 0,.int .i64 0]) (cs:=[.int .i64 (tlE E i:Nat),.int .i64 (hdE E i:Nat)]) (e:=2) rfl;clear hi;generalize (grE n E hE hL).oth i x=y at *
 refine ai (aD (Mi0) ?_);refine ai (aD (by simp only[am,aI,simprocAttr,bP,rse,a,rr,eE,w3]<;>rfl) ?_);have ra:aA h3 h.next 0 1=some [.int .i64 (tlE E i:Nat)]:=bJ g3 rfl;have rb:aA h3 h.next 1 1=some [.int .i64 (hdE E i:Nat)]:=bJ g3 rfl;refine ai (bW (λts h'=>h'=h3/\aR ts 6=.int .i64 (y:Nat)) (by simp only[am,aI,simprocAttr,bP,ra,rb,w1,w2]) ?_);rintro ts h4 ⟨rfl,e6⟩;exact bU ⟨.int .i64 (y:Nat),(by simp only[rs,rf65,am,aI,simprocAttr,e6]<;>rfl),rfl,x3⟩
set_option maxHeartbeats 1000000 in
theorem FO{h:AH}{n:Nat}{ev:AV}{E:List (Int×Int)}(he:SlE h ev E)(hE:InG n E)(hL:∀i,i<E.length->tlE E i≠hdE E i)(hxl:E.length<2^30)(hnl:n<2^30) :
 C prg 45 [.agg (gW n ev)] h λr h'=>∃sp eb nb lb,r=.ptr sp 0/\Ext h.next h h'/\(h.next<=sp/\h.next<=nb/\h.next<=lb)/\Sta h' sp eb nb lb n ev E/\Ser h' h' sp eb nb lb n ev Go.Blk.start .nils .nils []:=by
 obtain⟨ec,eo⟩:=he.cells;have hlen:=he.len;rw[ah]at hlen;unfold gW;refine Ny pf45 ?_;refine ai (aD (Mi0) ?_);have x0:Ext h.next h (h.new (.cells [.int .i64 (n:Nat),ev] 2 false)):=Nt (ab _);have g0:(h.new (.cells [.int .i64 (n:Nat),ev] 2 false)).get h.next=some (.cells [.int .i64 (n:Nat),ev] 2 false):=by rw[AH.get_new,if_pos rfl]
 have n0:(h.new (.cells [.int .i64 (n:Nat),ev] 2 false)).next=h.next+1:=rfl;generalize h.new (.cells [.int .i64 (n:Nat),ev] 2 false)=h1 at *
 have kn:(h1.keep 4).next=h1.next+4:=AH.keep_next 4 h1;have kg:∀c,(h1.keep 4).get c=if h1.next<=c/\c<h1.next+4 then some .resv else h1.get c:=λc=>AH.keep_get 4 h1
 have k1:(h1.keep 4).get h.next=some (.cells [.int .i64 (n:Nat),ev] 2 false):=by rw[kg,if_neg om];exact g0
 have ra:aA (h1.keep 4) h.next 0 2=some [.int .i64 (n:Nat),ev]:=by rw[bI k1];rfl
 have rb:aA (h1.keep 4) h.next 0 1=some [.int .i64 (n:Nat)]:=by rw[bI k1];rfl
 have mva:=qx (z:=[.nils]) (bytes:=24) (n:=n) (by unfold bq;omega) (by unfold bq;omega);have mvb:=qx (z:=[.int .i64 0]) (bytes:=8) (n:=n) (by unfold bq;omega) (by unfold bq;omega);have q0:(h1.keep 4).get h1.next=some .resv:=by rw[kg,if_pos ⟨om,om⟩]
 obtain⟨m1,hm1⟩:∃m,m=(h1.keep 4).put h1.next (.cells (dA [.nils] n) 1 false):=⟨_,rfl⟩
 have v1:Upd (h1.keep 4) m1 h1.next (.cells (dA [.nils] n) 1 false):=by rw[hm1];exact Nv q0
 have q1:m1.get (h1.next+1)=some .resv:=by rw[v1.ne om,kg,if_pos ⟨om,om⟩]
 obtain⟨m2,hm2⟩:∃m,m=m1.put (h1.next+1) (.cells (dA [.int .i64 0] n) 1 false):=⟨_,rfl⟩
 have v2:Upd m1 m2 (h1.next+1) (.cells (dA [.int .i64 0] n) 1 false):=by rw[hm2];exact Nv q1
 have q2:m2.get (h1.next+2)=some .resv:=by rw[v2.ne om,v1.ne om,kg,if_pos ⟨om,om⟩]
 obtain⟨m3,hm3⟩:∃m,m=m2.put (h1.next+2) (.cells (dA [.int .i64 0] n) 1 false):=⟨_,rfl⟩
 have v3:Upd m2 m3 (h1.next+2) (.cells (dA [.int .i64 0] n) 1 false):=by rw[hm3];exact Nv q2
 have q3:m3.get (h1.next+3)=some .resv:=by rw[v3.ne om,v2.ne om,v1.ne om,kg,if_pos ⟨om,om⟩]
 obtain⟨m4,hm4⟩:∃m,m=m3.put (h1.next+3) (.cells [.int .i64 (n:Nat),ev,.sl h1.next 0 n n,.sl (h1.next+1) 0 n n,.sl (h1.next+2) 0 n n,.int .i64 0,.nils,.nils] 8 false):=⟨_,rfl⟩
 have v4:Upd m3 m4 (h1.next+3) (.cells [.int .i64 (n:Nat),ev,.sl h1.next 0 n n,.sl (h1.next+1) 0 n n,.sl (h1.next+2) 0 n n,.int .i64 0,.nils,.nils] 8 false):=by rw[hm4];exact Nv q3
 have bx:=uT (k:=8) (cs:=[.int .i64 (n:Nat),ev,.sl h1.next 0 n n,.sl (h1.next+1) 0 n n,.sl (h1.next+2) 0 n n,.int .i64 0,.nils,.nils]) rfl
 refine ai (DH (λts h2=>h2=m4/\aR ts 1=.ptr h.next 0/\aR ts 3=.ptr (h1.next+3) 0)
  (by simp only[am,aI,simprocAttr,bP,ra,rb,fz,mG q0,<-hm1,mG q1,<-hm2,mG q2,<-hm3,wN q3,mva,mvb,bx,ec,eo,oY,<-hm4]) ?_)
 rintro ts h2 ⟨hh2,t1,t3⟩;subst hh2;clear hm1 hm2 hm3 hm4;have n2:h2.next=h1.next+4:=by rw[v4.nx,v3.nx,v2.nx,v1.nx,kn]
 have gk:∀c,c<h1.next->h2.get c=h1.get c:=λc hc=>by rw[v4.ne om,v3.ne om,v2.ne om,v1.ne om,kg,if_neg om]
 have x2:Ext h1.next h1 h2:=⟨om,gk,λc hc=>by rw[v4.ty,v3.ty,v2.ty,v1.ty];exact Nr 4 h1⟩
 have gE:h2.get h1.next=some (.cells (dA [.nils] n) 1 false):=by rw[v4.ne om,v3.ne om,v2.ne om];exact v1.get
 have gN:h2.get (h1.next+1)=some (.cells (il n λ_=>0) 1 false):=by rw[v4.ne om,v3.ne om,v2.get,Dh]
 have gL:h2.get (h1.next+2)=some (.cells (il n λ_=>0) 1 false):=by rw[v4.ne om,v3.get,Dh]
 have gS:=v4.get;have g1:h2.get h.next=some (.cells [.int .i64 (n:Nat),ev] 2 false):=by rw[gk _ om];exact g0
 clear v1 v2 v3 v4 q0 q1 q2 q3 kg kn k1 ra rb bx mva mvb;have X2:Ext h.next h h2:=x0.trans (x2.mono om);have rE:aA h2 h.next 1 1=some [ev]:=bJ g1 rfl;have rl:(dA [AV.nils] n).length=n:=by rw[li,vB]
 refine ai (ai (aD (M4 t1 t3 rE hlen) ?_))
 refine gA (α:=List AV) (N:=E.length) (λ_ _=>[(3,.ptr (h1.next+3) 0),(19,ev)])
  (λk a h'=>h'.get (h1.next+3)=some (.cells [.int .i64 (n:Nat),ev,.sl h1.next 0 n n,.sl (h1.next+1) 0 n n,.sl (h1.next+2) 0 n n,.int .i64 0,.nils,.nils] 8 false)/\h'.get h1.next=some (.cells a 1 false)/\h'.get (h1.next+1)=some (.cells (il n λ_=>0) 1 false)/\h'.get (h1.next+2)=some (.cells (il n λ_=>0) 1 false)/\a.length=n/\Rw h' h2.next a (lL n E k)/\Ext h1.next h1 h'/\h2.next<=h'.next)
  (dA [.nils] n) (λ_ _=>rfl) om (H1 t3) ⟨gS,gE,gN,gL,rl,Ep h2 n E,x2,ab _⟩ ?_ ?_
 .clear gS gE gN gL;rintro k es ts h5 hk ⟨j1,j2,j3,j4,j5,j6,j7,j8⟩ ⟨ei,en,e3,e19,-⟩;simp only at ei en e3 e19 j2 j5 j6;obtain⟨q1,q2,q3⟩:=hE k hk;have hLk:=hL k hk;have X5:Ext h.next h h5:=x0.trans (j7.mono om);obtain⟨b1,p1,a1,r1,_⟩:=(he.ext X5 (ab _)).at (fR (f:=eE) hk);rw[q1]at r1;generalize ha:tlE E k=a at *
  generalize hb:hdE E k=b at *
  obtain⟨h6,w6,x6,g6,n6⟩:=gv (h:=h5) (z:=[.int .i64 0,.int .i64 0]) (cs:=[.int .i64 (a:Nat),.int .i64 (b:Nat)]) (e:=2) rfl;refine ai (aD (by simp only[am,aI,simprocAttr,e3,e19,ei,a1,r1,eE,w6]<;>rfl) ?_);obtain⟨x7,p7,n7,y7⟩:=mC (h:=h6) (o:=.cells [.int .i64 (k:Nat)] 1 false);have kg:∀c,c<h6.next->(h6.keep 1).get c=h6.get c:=λc hc=>by rw[AH.keep_get,if_neg om]
  have q7:(h6.keep 1).get h6.next=some .resv:=iA;have j1':h6.get (h1.next+3)=some (.cells [.int .i64 (n:Nat),ev,.sl h1.next 0 n n,.sl (h1.next+1) 0 n n,.sl (h1.next+2) 0 n n,.int .i64 0,.nils,.nils] 8 false):=by rw[x6.gt _ om];exact j1
  have j2':h6.get h1.next=some (.cells es 1 false):=by rw[x6.gt _ om];exact j2
  have s1':aA (h6.keep 1) (h1.next+3) 2 1=some [.sl h1.next 0 n n]:=by rw[bI (by rw[kg _ om];exact j1')];rfl
  have s2':aA (h6.keep 1) h5.next 0 1=some [.int .i64 (a:Nat)]:=by rw[bI (by rw[kg _ om];exact g6)];rfl
  have hR:Rw ((h6.keep 1).put h6.next (.cells [.int .i64 (k:Nat)] 1 false)) h2.next es (lL n E k):=j6.cong λc hc hcn=>by rw[y7 _ om,x6.gt _ om]
  obtain⟨va,va',h8,s1,s2,s3,s4,s5,s6,s7,s8⟩:=hR.push (i:=a) (x:=h6.next) (k:=(k:Nat)) (mr q2) om p7 om (λj b n q=>by have:=j6.lt q;omega)
   (by rw[kv];have:=wR (E:=E) (k:=k) (x:=a);omega)
  have v3:aA (h6.keep 1) h1.next a 1=some [va]:=bJ (by rw[kg _ om];exact j2') s1;have ia:iV ((a:Nat):Int) n=some a:=eU q2;have d1:h8.get (h1.next+3)=some (.cells [.int .i64 (n:Nat),ev,.sl h1.next 0 n n,.sl (h1.next+1) 0 n n,.sl (h1.next+2) 0 n n,.int .i64 0,.nils,.nils] 8 false):=by rw[s6.gt _ om,y7 _ om];exact j1'
  have d2:h8.get h1.next=some (.cells es 1 false):=by rw[s6.gt _ om,y7 _ om];exact j2'
  have d5:h8.get h5.next=some (.cells [.int .i64 (a:Nat),.int .i64 (b:Nat)] 2 false):=by rw[(s8 _ om (λj b n q=>by have:=j6.lt q;omega)).1,y7 _ om];exact g6
  have f1:aA h8 (h1.next+3) 2 1=some [.sl h1.next 0 n n]:=by rw[bI d1];rfl
  have f2:aA h8 h5.next 0 1=some [.int .i64 (a:Nat)]:=by rw[bI d5];rfl
  have f3:=iP (v:=va') d2 (show a<es.length by omega);have u9:=Nv (o:=.cells (es.set a va') 1 false) d2;refine ai (yE (by simp only[am,aI,simprocAttr,e3,s1',s2',v3,fz,eV q7,ia,bh,s2,s3,s4,f1,f2,f3]<;>rfl) ?_);generalize h8.put h1.next (.cells (es.set a va') 1 false)=h9 at *
  have n9:=u9.nx;have hR9:Rw h9 h2.next (es.set a va') ((lL n E k).set a (nI (mH E k a)++[((k:Nat):Int)])):=s5.cong λc hc _=>u9.ne om;have l9:∀(j b n:Nat),(es.set a va')[j]?=some (AV.sl b 0 n n)->b≠h5.next:=λj b n' q=>(s8 _ om (λj b n q=>by have:=j6.lt q;omega)).2 j b n' q;have l6:∀(j b n:Nat),(es.set a va')[j]?=some (AV.sl b 0 n n)->b<h9.next:=λj b n' q=>(hR9.lt q).1;obtain⟨X7,P7,N7,Y7⟩:=mC (h:=h9) (o:=.cells [.int .i64 (k:Nat)] 1 false);have kg2:∀c,c<h9.next->(h9.keep 1).get c=h9.get c:=λc hc=>by rw[AH.keep_get,if_neg om]
  have Q7:(h9.keep 1).get h9.next=some .resv:=iA;have J1:h9.get (h1.next+3)=some (.cells [.int .i64 (n:Nat),ev,.sl h1.next 0 n n,.sl (h1.next+1) 0 n n,.sl (h1.next+2) 0 n n,.int .i64 0,.nils,.nils] 8 false):=by rw[u9.ne om];exact d1
  have J2:=u9.get;have J5:h9.get h5.next=some (.cells [.int .i64 (a:Nat),.int .i64 (b:Nat)] 2 false):=by rw[u9.ne om];exact d5
  have V1:aA (h9.keep 1) (h1.next+3) 2 1=some [.sl h1.next 0 n n]:=by rw[bI (by rw[kg2 _ om];exact J1)];rfl
  have V2:aA (h9.keep 1) h5.next 1 1=some [.int .i64 (b:Nat)]:=by rw[bI (by rw[kg2 _ om];exact J5)];rfl
  have HR:Rw ((h9.keep 1).put h9.next (.cells [.int .i64 (k:Nat)] 1 false)) h2.next (es.set a va') ((lL n E k).set a (nI (mH E k a)++[((k:Nat):Int)])):=hR9.cong λc hc hcn=>Y7 _ om
  obtain⟨vb,vb',H8,S1,S2,S3,S4,S5,S6,S7,S8⟩:=HR.push (i:=b) (x:=h9.next) (k:=(k:Nat)) (xs:=nI (mH E k b)) (by rw[cQ hLk];exact mr q3) om P7 om (λj b n q=>by have:=l6 j b n q;omega)
   (by rw[kv];have:=wR (E:=E) (k:=k) (x:=b);omega)
  have hst:=Eo (n:=n) (E:=E) (k:=k) om om om;rw[ha,hb]at hst;rw[hst]at S5;have hol:(es.set a va').length=n:=by rw[dh,j5]
  have V3:aA (h9.keep 1) h1.next b 1=some [vb]:=bJ (by rw[kg2 _ om];exact J2) S1;have ib:iV ((b:Nat):Int) n=some b:=eU q3;have D1:H8.get (h1.next+3)=some (.cells [.int .i64 (n:Nat),ev,.sl h1.next 0 n n,.sl (h1.next+1) 0 n n,.sl (h1.next+2) 0 n n,.int .i64 0,.nils,.nils] 8 false):=by rw[S6.gt _ om,Y7 _ om];exact J1
  have D2:H8.get h1.next=some (.cells (es.set a va') 1 false):=by rw[S6.gt _ om,Y7 _ om];exact J2
  have D5:H8.get h5.next=some (.cells [.int .i64 (a:Nat),.int .i64 (b:Nat)] 2 false):=by rw[(S8 _ om l9).1,Y7 _ om];exact J5
  have F1:aA H8 (h1.next+3) 2 1=some [.sl h1.next 0 n n]:=by rw[bI D1];rfl
  have F2:aA H8 h5.next 1 1=some [.int .i64 (b:Nat)]:=by rw[bI D5];rfl
  have F3:=iP (v:=vb') D2 (show b<(es.set a va').length by omega);have U9:=Nv (o:=.cells ((es.set a va').set b vb') 1 false) D2;refine yE (by simp only[am,aI,simprocAttr,e3,V1,V2,V3,fz,eV Q7,ib,bh,S2,S3,S4,F1,F2,F3]<;>rfl) ?_;generalize H8.put h1.next (.cells ((es.set a va').set b vb') 1 false)=H9 at *
  have N9:=U9.nx;refine⟨(es.set a va').set b vb',⟨by rw[U9.ne om];exact D1,U9.get,?_,?_,by rw[dh,hol],S5.cong λc hc _=>U9.ne om,?_,om⟩,H4 ei en e3 e19⟩
  .rw[U9.ne om,S6.gt _ om,Y7 _ om,u9.ne om,s6.gt _ om,y7 _ om,x6.gt _ om];exact j3
  .rw[U9.ne om,S6.gt _ om,Y7 _ om,u9.ne om,s6.gt _ om,y7 _ om,x6.gt _ om];exact j4
  .exact j7.trans ((x6.mono om).trans ((x7.mono om).trans ((s6.mono om).trans ((u9.ext (ab _)).trans ((X7.mono om).trans ((S6.mono om).trans (U9.ext om)))))))
 .rintro es ts h5 ⟨j1,j2,j3,j4,j5,j6,j7,j8⟩ ⟨e3,e19,-⟩;simp only at e3 j2 j5 j6;refine ai (aD (M1 e3) ?_);have X5:Ext h.next h h5:=x0.trans (j7.mono om);have he5:=he.ext X5 (ab _);refine bU ⟨.ptr (h1.next+3) 0,(by simp only[rs,rf45,am,aI,simprocAttr]<;>rfl),h1.next+3,h1.next,h1.next+1,h1.next+2,rfl,X5,⟨om,om,om⟩,{ he:=he5,oe:=?_,ge:=⟨es,j2,j5,λx v q=>?_⟩,ne:=⟨om,om,om,om,om,om⟩,lt:=⟨om,om,om⟩},{ kp:=Ns,cell:=j1,gn:=j3,gl:=j4,st:=.inl ⟨rfl,rfl⟩,bl:=.inl ⟨rfl,rfl⟩,rl:=rfl,rw:=λj v l q=>by simp at q,sb:=Sep.nill}⟩
  .have key:∀v:AV,(∀b o m c,v=.sl b o m c->b<h.next)->Off (SS (h1.next+3) (h1.next+1) (h1.next+2)) v:=λv hv=>by
    cases v<;>try exact trivial
    rename_i b o m c
    have:=hv b o m c rfl;rintro (e|e|e)<;>omega
   exact key ev λb o m c e=>he.lt e
  .have hxn:x<n:=by rw[<-j5];exact(aF.1 q).1
   have i1:=j6.2.1 x v _ q (mr hxn);refine⟨Nq om (λ_=>rfl) i1,?_⟩;rcases i1 with⟨rfl,_⟩|⟨b,m,hb,rfl,_⟩
   .exact trivial
   .rintro (e|e|e)<;>omega
open Go.Am
open Go.Blk (Gr DS upd)
def dZ(l:List Nat):List Nat:=l.mergeSort λa b=>decide (a<=b)
theorem kY(l:List Nat):(dZ l).Perm l:=oZ l _
theorem yX(l:List Nat):sD (nI l)=nI (dZ l):=by
 unfold sD nI dZ;exact(List.map_mergeSort λa _ b _=>by rw[decide_eq_decide];omega).symm
theorem Gi(l:List Nat):(dZ l).Pairwise (·<=·):=by
 have:=lH (le:=λa b:Nat=>decide (a<=b)) (λa b c h1 h2=>by simp only[aK]at *;omega) (λa b=>by simp only[du,aK];omega) l;exact this.imp λh=>cE h
theorem Lj{l:List Nat}{i:Nat}(h:i∈l):∀k:Nat,iB (((i:Nat):Int)==·) (nI l) k=((k+l.idxOf i:Nat):Int):=by
 induction l with
 |nil=>cases h
 |cons a l ih =>
   intro k;show(if (((i:Nat):Int)==((a:Nat):Int))=true then((k:Nat):Int)else iB _ (nI l) (k+1))=_;by_cases e:a=i
   .subst e;rw[if_pos (by simp),List.idxOf_cons_self,dX]
   .have hm:i∈l:=by
     rcases ao.1 h with q|q
     .exact absurd q.symm e
     .exact q
    have hne:¬((((i:Nat):Int)==((a:Nat):Int))=true):=by
     rw[beq_iff_eq];omega
    have hb:(a==i)=false:=by rw[beq_eq_false_iff_ne];exact e
    rw[if_neg hne,ih hm (k+1),List.idxOf_cons,hb,cond_false];congr 1;omega
set_option maxHeartbeats 1000000 in
theorem FN{h0 h:AH}{sp eb nb lb n:Nat}{ev:AV}{E:List (Int×Int)}{s:DS}{stv blv:AV}{bs:List AV}(t:Sta h0 sp eb nb lb n ev E)(r:Ser h0 h sp eb nb lb n ev s stv blv bs){i:Nat}(hi:i∈s.stk)(hl1:s.stk.length<2^32)(hl2:s.blk.length<2^32) :
 C prg 66 [.ptr sp 0,.int .i64 (i:Nat)] h λ_ h'=>∃stv' blv' bs',Ser h0 h' sp eb nb lb n ev (s.close dZ i) stv' blv' bs':=by
 obtain⟨n1,n2,n3,n4,n5,n6⟩:=t.ne;obtain⟨l1,l2,l3⟩:=t.lt;have hnx:=r.kp.nx;have hs:=r.st.sl;refine Ny pf66 ?_;have r6:aA h sp 6 1=some [stv]:=bJ r.cell rfl;refine ai (bS (bE 5 (Mi1 r6) rfl (Zi1 r6) (Mi1 r6) (tj (y:=((i:Nat):Int)) hs (by rw[kv];omega)) λv h1 hq=>?_));obtain⟨rfl,x1⟩:=hq;rw[Lj hi 0,cq];have hat:s.stk.idxOf i<s.stk.length:=List.idxOf_lt_length_iff.2 hi;have hclose:s.close dZ i={ s with blk:=s.blk++[dZ (s.stk.drop (s.stk.idxOf i))],stk:=s.stk.take (s.stk.idxOf i)}:=rfl;rw[hclose];generalize s.stk.idxOf i=k at *
 refine bM (M0) ?_;have y1:=x1.nx;have kg:∀c,c<h1.next->(h1.keep 1).get c=h1.get c:=λc hc=>by rw[AH.keep_get,if_neg om]
 have kn:(h1.keep 1).next=h1.next+1:=AH.keep_next 1 h1;have kq:(h1.keep 1).get h1.next=some .resv:=iA;have xk:Ext h1.next h1 (h1.keep 1):=⟨om,kg,λc hc=>Nr 1 h1⟩
 have X1:Ext h.next h (h1.keep 1):=x1.trans (xk.mono y1);have hsp:sp<h.next:=om;have c1:(h1.keep 1).get sp=some (.cells [.int .i64 (n:Nat),ev,.sl eb 0 n n,.sl nb 0 n n,.sl lb 0 n n,.int .i64 (s.cnt:Nat),stv,blv] 8 false):=by rw[X1.gt _ hsp];exact r.cell
 have r61:aA (h1.keep 1) sp 6 1=some [stv]:=bJ c1 rfl;have r71:aA (h1.keep 1) sp 7 1=some [blv]:=bJ c1 rfl;have hs1:=hs.ext X1 (ab _);obtain⟨w,s1,s2,_⟩:=hs1.from (lo:=k) (by rw[ah,kv];omega);rw[<-fE]at s2;refine ai (pZ (oK 11 (by simp only[am,aI,simprocAttr,r61,r71,dY,bN,s1]<;>rfl) rfl (by simp only[am,aI,simprocAttr,r61,r71,dY,bN,s1]) (by simp only[am,aI,simprocAttr,r61,r71,dY,bN,s1]<;>rfl) (DR s2.cells.1) λrv h2 hq=>?_));obtain⟨rfl,hh2⟩:=hq;have x2:Ext (h1.next+1) (h1.keep 1) h2:=by rw[hh2];exact Nt om
 have g2:h2.get (h1.next+1)=some (.cells [w] 1 false):=by rw[hh2,AH.get_new,kn,if_pos rfl]
 have n2:h2.next=h1.next+2:=by rw[hh2,AH.next_new,kn]
 rw[kn];have X2:Ext h.next h h2:=X1.trans (x2.mono om);have c2:h2.get sp=some (.cells [.int .i64 (n:Nat),ev,.sl eb 0 n n,.sl nb 0 n n,.sl lb 0 n n,.int .i64 (s.cnt:Nat),stv,blv] 8 false):=by rw[X2.gt _ hsp];exact r.cell
 have r72:aA h2 sp 7 1=some [blv]:=bJ c2 rfl;have bc:=r.bl.cells;have sb:blv.same blv=true:=by rcases r.bl with⟨rfl,_⟩|⟨_,_,_,rfl,_⟩<;>first|rfl|exact CG
 refine⟨Z2 r72 sb,?_⟩;have s22:=s2.ext x2 om;refine oK 0 (M0) rfl (Z0) (M0) (DW (bJ g2 rfl) s22 om (by rw[dr,kv];omega)) λrv h3 hq=>?_;obtain⟨i3,x3⟩:=hq;have X3:Ext h.next h h3:=X2.trans (x3.mono om);have n3':=x3.nx;have c3:h3.get sp=some (.cells [.int .i64 (n:Nat),ev,.sl eb 0 n n,.sl nb 0 n n,.sl lb 0 n n,.int .i64 (s.cnt:Nat),stv,blv] 8 false):=by rw[X3.gt _ hsp];exact r.cell
 have r73:aA h3 sp 7 1=some [blv]:=bJ c3 rfl;refine⟨Z2 r73 sb,?_⟩;have q3:h3.get h1.next=some .resv:=by rw[x3.gt _ om,x2.gt _ om];exact kq
 have hrow:IsSl h3 1 h2.next rv (nL (dZ (s.stk.drop k))):=by
  have e:nI (s.stk.drop k)=(nI s.stk).drop k:=by unfold nI;rw[fE]
  rw[<-e,yX,LY]at i3;exact i3
 have u4:=Nv (o:=.cells [rv] 1 false) q3;obtain⟨rc,ro⟩:=i3.cells;have bl4:IsSl (h3.put h1.next (.cells [rv] 1 false)) 1 h0.next blv bs:=r.bl.cong λb m e hb=>by
  have:=r.bl.lt e;rw[u4.ne om,X3.gt _ this]
 have n4':=u4.nx
 obtain⟨blv',h5,a5,i5,x5,e5,n5',k5,t5⟩:=bl4.app (bytes:=24) (x:=h1.next) (new:=[rv]) om om u4.get om (λb m e=>by have:=r.bl.lt e;omega) rfl (by simp[ro])
  (by rw[lG,r.rl];unfold bq;omega) (by rw[lG,r.rl];unfold bq;omega)
 obtain⟨bc',bo'⟩:=i5.cells;have hb5:∀c,c<h.next->(∀b m,blv=.sl b 0 m m->c≠b)->h5.get c=h.get c:=λc hc hne=>by
  rw[k5 c om hne,u4.ne om,X3.gt _ hc]
 have hbl0:∀c,c<h0.next->h5.get c=h.get c:=λc hc=>hb5 c om λb m e q=>by
  rcases r.bl with⟨rfl,_⟩|⟨b',m',z1,rfl,_⟩
  .cases e
  .cases e;omega
 have c5:h5.get sp=some (.cells [.int .i64 (n:Nat),ev,.sl eb 0 n n,.sl nb 0 n n,.sl lb 0 n n,.int .i64 (s.cnt:Nat),stv,blv] 8 false):=by rw[hbl0 sp l1];exact r.cell
 have w6:=iP (v:=blv') c5 (i:=7) (by simp);have u6:=Nv (o:=.cells [.int .i64 (n:Nat),ev,.sl eb 0 n n,.sl nb 0 n n,.sl lb 0 n n,.int .i64 (s.cnt:Nat),stv,blv'] 8 false) c5;change cj h5 sp 7 [blv']=some (h5.put sp (.cells [.int .i64 (n:Nat),ev,.sl eb 0 n n,.sl nb 0 n n,.sl lb 0 n n,.int .i64 (s.cnt:Nat),stv,blv'] 8 false))at w6;have rp:dA [AV.nils] 1=[.nils]:=rfl;refine bM (by simp only[am,aI,simprocAttr,fz,eV q3,rp,rc,ro,a5,bo',bc',w6]<;>rfl) ?_;generalize h5.put sp (.cells [.int .i64 (n:Nat),ev,.sl eb 0 n n,.sl nb 0 n n,.sl lb 0 n n,.int .i64 (s.cnt:Nat),stv,blv'] 8 false)=h6 at *
 have n6':=u6.nx;have ty6:∀c,c<h.next->h6.tyOf c=h.tyOf c:=λc hc=>by rw[u6.ty,t5,u4.ty,X3.ty _ hc]
 have hlow:∀c,c<h0.next->c≠sp->h6.get c=h.get c:=λc hc hne=>by rw[u6.ne hne,hbl0 c hc]
 have keepS:∀c,h0.next<=c->c<h.next->(∀b m,blv=.sl b 0 m m->c≠b)->h6.get c=h.get c:=λc hc hc2 hne=>by rw[u6.ne om,hb5 c hc2 hne]
 have st6:Stk h6 h0.next stv s.stk:=r.st.cong λc hc ⟨o,m,kk,e⟩=>keepS c hc (r.st.lt e).1 λb m' e' q=>r.sb b 0 m' m' o m kk e' (by rw[e,q]);have R6:Ser h0 h6 sp eb nb lb n ev { s with blk:=s.blk++[dZ (s.stk.drop k)]} stv blv' (bs++[rv]):=by
  refine { kp:=⟨om,λc hc hn'=>?_,λc hc=>?_⟩,cell:=u6.get,gn:=by rw[hlow nb l2 n4];exact r.gn,gl:=by rw[hlow lb l3 n6];exact r.gl,st:=st6,bl:=i5.upd u6 om,rl:=by rw[aB,aB,r.rl];rfl,rw:=λj v l a b=>?_,sb:=?_}
  .rw[hlow c hc λe=>hn' (.inl e)];exact r.kp.gt c hc hn'
  .rw[ty6 c om];exact r.kp.ty c hc
  .by_cases hj:j<bs.length
   .rw[bA hj]at a;rw[bA (by rw[<-r.rl];exact hj)]at b;obtain⟨z1,z2,z3⟩:=r.rw j v l a b;refine⟨z1.cong λb m e hb=>keepS b hb (z1.lt e) λb' m' e' q=>z3 b 0 m m 0 m' m' e (by rw[e',q]),z2,λb o m c o' m' c' e e'=>?_⟩;rw[e5]at e';cases e';have:=z1.lt e;omega
   .rw[aV om]at a;rw[aV (by rw[<-r.rl];omega),<-r.rl]at b;have hj0:j-bs.length=0:=by
     have:=(aF.1 a).1;simp only[ar,aU]at this;omega
    rw[hj0]at a b;simp only[aW,aa]at a b;subst a b;refine⟨(hrow.cong λb m e hb=>?_).mono om,λb o m c o' m' c' e e'=>?_,λb o m c o' m' c' e e'=>?_⟩
    .have:=hrow.lt e;rw[u6.ne om,k5 b om (λb' m' e'=>by have:=r.bl.lt e';omega),u4.ne om]
    .have:=(r.st.lt e').1;rcases hrow with⟨rfl,_⟩|⟨b',m'',z1,rfl,_⟩
     .cases e
     .cases e;omega
    .rw[e5]at e';cases e';have:=hrow.lt e;omega
  .intro b o m c o' m' c' e e';rw[e5]at e;cases e;have:=(r.st.lt e').1;omega
 have r66:aA h6 sp 6 1=some [stv]:=bJ R6.cell rfl;obtain⟨v',cv,cs,csep,cin⟩:=R6.st.cut (k:=k) (by show k<=s.stk.length;omega);obtain⟨h7,w7,R7⟩:=R6.setStk t (ab _) (λ_ _ _=>rfl) (λ_=>rfl) cs (λw _ q=>csep w q);have co:=cs.cells;refine aD (by simp only[am,aI,simprocAttr,bP,r66,dY,bN,cv,co.1,co.2,w7]<;>rfl) ?_;exact⟨.tup [],rfl,v',blv',_,R7⟩
end Go.Proofs.YtlolkmcdimgplaaGreat
