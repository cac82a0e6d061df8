/- planar -/
import Derived.Test.YtlolkmcdimgplaaGreatVTAR
set_option linter.all false
namespace Go.Proofs.YtlolkmcdimgplaaGreat
open Go.Am
open Go.Pla (at_ Part Plc Hg Bfs Shut Kn left)
variable {Bl l xs:List Nat}{E:List (Int×Int)}{H V:Nat->Bool}{bb lo n pa:Nat}{edv ev fav v:AV}{h h':AH}
abbrev Pc:=List Nat×Int×Int
def cP(q:AV×Int×Int):List AV:=[q.1,.int .i64 q.2.1,.int .i64 q.2.2]
def PcL(h:AH)(lo:Nat)(v:AV)(ps:List Pc):Prop:=∃qs:List (AV×Int×Int),IsSl h 3 lo v (qs.flatMap cP)/\qs.length=ps.length/\∀(i:Nat) (q:AV×Int×Int) (p:Pc),qs[i]?=some q->ps[i]?=some p->IsSl h 1 lo q.1 (nC p.1)/\q.2=p.2/\∀b n b' n',q.1=.sl b 0 n n->v=.sl b' 0 n' n'->b≠b'
theorem PcL.cong{h h':AH}{lo:Nat}{v:AV}{ps:List Pc}(hl:PcL h lo v ps)(hk:∀c,lo<=c->c<h.next->h'.get c=h.get c):PcL h' lo v ps:=by
 obtain⟨qs,h1,h2,h3⟩:=hl;exact⟨qs,h1.cong λb n e hb=>hk b hb (h1.lt e),h2,λi q p q1 q2=>⟨(h3 i q p q1 q2).1.cong λb n e hb=>hk b hb ((h3 i q p q1 q2).1.lt e),(h3 i q p q1 q2).2⟩⟩
variable {ps:List Pc}
theorem PcL.ext{k:Nat}(hl:PcL h lo v ps)(x:Ext k h h')(hk:h.next<=k):PcL h' lo v ps:=hl.cong λc _ hc=>x.gt c om
theorem Cf(qs:List (AV×Int×Int)):(qs.flatMap cP).length=qs.length*3:=dN (f:=cP) (e:=3) (λ_=>rfl) qs
theorem PcL.push{x:Nat}{a:AV}{s e:Int}(hl:PcL h lo a ps)(hlo:lo<=h.next)(hv:IsSl h 1 lo v (nC xs))(hx:h.get x=some (.cells [v,.int .i64 s,.int .i64 e] 3 false))(hxl:lo<=x)(hxa:∀b n,a=.sl b 0 n n->b≠x)
 (hva:∀b n b' n',v=.sl b 0 n n->a=.sl b' 0 n' n'->b≠b') (hb:(ps.length+1)*40<bq) :
 ∃a' h',iX h 3 40 a (.sl x 0 1 1)=some (a',h')/\PcL h' lo a' (ps++[(xs,s,e)])/\Ext lo h h'/\h'.next=h.next+1/\(∀c,c<h.next->(∀b n,a=.sl b 0 n n->c≠b)->h'.get c=h.get c)/\(∀b n,a'=.sl b 0 n n->h.next<=b)/\∀c,h'.tyOf c=h.tyOf c:=by
 obtain⟨qs,h1,h2,h3⟩:=hl;have hd:(qs.flatMap cP).length/3=ps.length:=by rw[Cf,h2];omega
 obtain⟨a',h',q1,q2,q3,q4,q5,q6,q7⟩:=h1.app (bytes:=40) hlo om hx hxl hxa rfl (by simp[hv.cells.2];exact⟨rfl,rfl⟩) (by rw[hd];exact hb) (by rw[hd];unfold bq at *;omega);have keep:∀(w:AV) (cs:List AV),IsSl h 1 lo w cs->(∀b n b' n',w=.sl b 0 n n->a=.sl b' 0 n' n'->b≠b')->IsSl h' 1 lo w cs/\∀b n b' n',w=.sl b 0 n n->a'=.sl b' 0 n' n'->b≠b':=λw cs hw hn=>by
  refine⟨hw.cong λb n e _=>q6 b (hw.lt e) λb' n' e'=>hn b n b' n' e e',λb n b' n' e e'=>?_⟩;have:=hw.lt e;rw[q4]at e';cases e';omega
 refine⟨a',h',q1,⟨qs++[(v,s,e)],by rw[bL];exact q2,by rw[aB,aB,h2];rfl,λi w p e1 e2=>?_⟩,q3,q5,q6,(λb n e=>by rw[q4]at e;cases e;exact ab _),q7⟩;by_cases hi:i<qs.length
 .rw[bA hi]at e1;rw[bA om]at e2;obtain⟨k1,k2,k3⟩:=h3 i w p e1 e2;obtain⟨k4,k5⟩:=keep w.1 _ k1 k3;exact⟨k4,k2,k5⟩
 .have hil:i<(qs++[(v,s,e)]).length:=(aF.1 e1).1;rw[aB,ar,aU]at hil;have hi':i=qs.length:=om;subst hi';rw[aV om,dP]at e1;rw[h2,aV om,dP]at e2;cases e1;cases e2;obtain⟨k4,k5⟩:=keep v _ hv hva;exact⟨k4,rfl,k5⟩
theorem IsSl.grow(hv:IsSl h 1 lo v (nC l))(hlo:lo<=h.next)(hl:l.length<2^34)(x:Nat) :
 ∃v' h',iX (h.new (.cells [.int .i64 (x:Nat)] 1 false)) 1 8 v (.sl h.next 0 1 1)=some (v',h')/\IsSl h' 1 lo v' (nC (l++[x]))/\Ext lo h h'/\h.next<=h'.next/\(∀c,c<h.next->(∀b n,v=.sl b 0 n n->c≠b)->h'.get c=h.get c)/\∀b n,v'=.sl b 0 n n->h.next<=b:=by
 have x0:Ext h.next h (h.new (.cells [.int .i64 (x:Nat)] 1 false)):=Nt (ab _);have g0:(h.new (.cells [.int .i64 (x:Nat)] 1 false)).get h.next=some (.cells [.int .i64 (x:Nat)] 1 false):=by rw[AH.get_new,if_pos rfl]
 have n0:(h.new (.cells [.int .i64 (x:Nat)] 1 false)).next=h.next+1:=rfl;generalize h.new (.cells [.int .i64 (x:Nat)] 1 false)=h1 at *
 have hd:(nC l).length/1=l.length:=by rw[eJ,lG]
 obtain⟨v',h',q1,q2,q3,q4,q5,q6,_⟩:=(hv.ext x0 (ab _)).app (bytes:=8) om om g0 hlo (λb n e=>by have:=hv.lt e;omega) rfl rfl (by rw[hd];unfold bq;omega) (by rw[hd];unfold bq;omega);exact⟨v',h',q1,by rw[lS];exact q2,(x0.mono hlo).trans q3,om,λc hc hne=>by rw[q6 c om hne,x0.gt c hc],λb n e=>by rw[q4]at e;cases e;omega⟩
theorem IsQ.keep(q:IsQ h lo v xs)(hk:∀b o n m,v=.sl b o n m->h'.get b=h.get b):IsQ h' lo v xs:=by
 obtain⟨h0,b,o,cs,h1,h2,h3⟩:=q;exact⟨h0.cong hk,b,o,cs,h1,h2,by rw[hk b o _ _ h1];exact h3⟩
theorem IsSl.keep{cs:List AV}(q:IsSl h 1 lo v cs)(hk:∀b n,v=.sl b 0 n n->h'.get b=h.get b):IsSl h' 1 lo v cs:=q.cong λb n e _=>hk b n e
theorem oI{z:Nat}:(l.map λn=>((n:Nat):Int)).any (((z:Nat):Int)==·)=decide (z∈l):=by
 rw[eq,fU,aK];constructor
 .rintro⟨w,hw,h⟩;obtain⟨a,ha,rfl⟩:=bG.1 hw;have:((z:Nat):Int)=((a:Nat):Int):=by simpa using h
  have:z=a:=om;rw[this];exact ha
 .intro h;exact⟨_,bG.2 ⟨z,h,rfl⟩,by simp⟩
def Sepq(qv atv:AV):Prop:=∀b o n m b' n',qv=.sl b o n m->atv=.sl b' 0 n' n'->b≠b'
set_option maxHeartbeats 4000000 in
theorem EB{db:Nat}{ov:AV}{la:Nat}{D:Nat->Bool}(u:Bu h bb n ev edv E Bl la pa H V fav)(hE:InG n E)(hL:∀i,i<E.length->tlE E i≠hdE E i)(hn:n<2^30)(hm:E.length<2^30)(hB:∀i∈Bl,i<E.length)(hBn:Bl.length<2^30)
 (hp:Go.Pla.Pln (grE n E hE hL) Bl) (hV:Plc (grE n E hE hL) Bl H V) {pt:Nat->Nat} (P:Part (grE n E hE hL) Bl H pt) (hS:Shut (grE n E hE hL) Bl V D) {x e0:Nat} (hx:x<n) (hvx:V x=false) (he0:e0∈Bl) (ha0:at_ (grE n E hE hL) e0 x=true)
 (gd:h.get db=some (.cells (bl n D) 1 false)) (hdb:db≠bb/\db≠la/\db≠pa) (oe:Off (λc=>c=db) ev) (oed:Off (λc=>c=db) edv) (hlo:lo<=h.next) (hdl:db<lo) (ho:PcL h lo ov ps) (hps:ps.length<2^30) :
 C prg 73 [.ptr bb 0,ov,.int .i64 (x:Nat),.sl db 0 n n] h λv h'=>Kp (λc=>c=db\/lo<=c) h h'/\∃D',h'.get db=some (.cells (bl n D') 1 false)/\Shut (grE n E hE hL) Bl V D'/\(∀z,D z=true->D' z=true)/\D' x=true/\(D x=true->∀z,D' z=true->D z=true)/\((D x=true/\PcL h' lo v ps)\/(D x=false/\∃at',PcL h' lo v (ps++[(at',((x:Nat):Int),0)])/\(∀z,z∈at'↔Hg (grE n E hE hL) Bl H pt (pt e0) z)/\at'.Nodup/\∀z,D' z=true->D z=false->∀e∈Bl,at_ (grE n E hE hL) e z=true->pt e=pt e0)):=by
 have hBg:∀i∈Bl,i<(grE n E hE hL).m:=hB;have ix:iV ((x:Nat):Int) n=some x:=eU hx;have rD:aA h db x 1=some [.bool (D x)]:=bJ gd (nJ hx);refine Ny pf73 ?_;refine ai (aD (Mi0) ?_);cases hD:D x with
 |true =>
   rw[hD]at rD;refine ai (ai (aD (Mi3 ix @bh rD) ?_));refine dv (Z0) ?_;refine ai (aD (Mi0) ?_);exact bU ⟨ov,(by simp only[rs,rf73,am,aI,simprocAttr]<;>rfl),Ns,D,gd,hS,λ_ h=>h,hD,λ_ _ h=>h,.inl ⟨rfl,ho⟩⟩
 |false =>
   rw[hD]at rD;refine ai (ai (aD (Mi3 ix @bh rD) ?_));refine dR (Z0) (bQ ?_);obtain⟨h1,w1,x1,g1,n1⟩:=gv (h:=h) (z:=[.nils,.int .i64 0,.int .i64 0]) (cs:=[.nils,.int .i64 (x:Nat),.int .i64 0]) (e:=3) rfl;refine ai (bW (λts h'=>h'=h1/\aR ts 0=.ptr bb 0/\aR ts 1=ov/\aR ts 2=.int .i64 (x:Nat)/\aR ts 3=.sl db 0 n n/\aR ts 9=.ptr h.next 0) (by simp only[am,aI,simprocAttr,bP,w1]) ?_);rintro ts h1' ⟨rfl,e0',e1,e2,e3,e9⟩;have x2:Ext h1'.next h1' (h1'.new (.cells [.int .i64 (x:Nat)] 1 false)):=Nt (ab _);have g2:(h1'.new (.cells [.int .i64 (x:Nat)] 1 false)).get h1'.next=some (.cells [.int .i64 (x:Nat)] 1 false):=by rw[AH.get_new,if_pos rfl]
   refine ai (bW (λts h'=>h'=h1'.new (.cells [.int .i64 (x:Nat)] 1 false)/\aR ts 0=.ptr bb 0/\aR ts 1=ov/\aR ts 2=.int .i64 (x:Nat)/\aR ts 3=.sl db 0 n n/\aR ts 9=.ptr h.next 0/\aR ts 10=.sl h1'.next 0 1 1) (by simp only[am,aI,simprocAttr,e0',e1,e2,e3,e9]) ?_);rintro ts h2 ⟨rfl,e0',e1,e2,e3,e9,e10⟩;have n2:(h1'.new (.cells [.int .i64 (x:Nat)] 1 false)).next=h.next+2:=by rw[AH.next_new,n1]
   generalize h1'.new (.cells [.int .i64 (x:Nat)] 1 false)=h2 at *
   have x12:Ext h.next h h2:=x1.trans (x2.mono om);have gd2:h2.get db=some (.cells (bl n D) 1 false):=by rw[x12.gt _ om];exact gd
   have w3:=iP (v:=.bool true) gd2 (i:=x) (by rw[pW];exact hx);rw[yw]at w3;have u3:=Nv (o:=.cells (bl n λj=>if j=x then true else D j) 1 false) gd2;refine ai (bW (λts h'=>h'=h2.put db (.cells (bl n λj=>if j=x then true else D j) 1 false)/\aR ts 0=.ptr bb 0/\aR ts 1=ov/\aR ts 3=.sl db 0 n n/\aR ts 9=.ptr h.next 0/\aR ts 10=.sl h1'.next 0 1 1) (by simp only[am,aI,simprocAttr,e0',e1,e2,e3,e9,e10,ix,bh,w3]) ?_);rintro ts h3 ⟨rfl,e0',e1,e3,e9,e10⟩;generalize h2.put db (.cells (bl n λj=>if j=x then true else D j) 1 false)=h3 at *
   have k3:Kp (λc=>c=db) h h3:=(x12.kp (S:=λc=>c=db) (ab _)).trans (u3.kp (S:=λc=>c=db) rfl) (λ_ _ q=>q);have n3:h3.next=h.next+2:=by rw[u3.nx,n2]
   have g3:h3.get h.next=some (.cells [.nils,.int .i64 (x:Nat),.int .i64 0] 3 false):=by rw[u3.ne om,x2.gt _ om];exact g1
   have q3:IsQ h3 (h.next+1) (.sl h1'.next 0 1 1) [x]:=IsQ.one om (by rw[u3.ne om];exact g2);have hst:=Bfs.start hV P hvx hD he0 ha0;have hle:∀z,D z=true->(if z=x then true else D z)=true:=λz h=>by split<;>simp[h]
   refine ai (cA (fO (λf ts h'=>∃(Dn:Nat->Bool) (Q At:List Nat) (qv atv:AV),Bfs (grE n E hE hL) Bl H V pt D x e0 Dn Q At none/\f=left n Dn+Q.length/\f<=n+1/\Kp (λc=>c=db) h h'/\h'.get db=some (.cells (bl n Dn) 1 false)/\h'.get h.next=some (.cells [atv,.int .i64 (x:Nat),.int .i64 0] 3 false)/\IsSl h' 1 (h.next+1) atv (nC At)/\IsQ h' (h.next+1) qv Q/\Sepq qv atv/\h.next<h'.next/\(∀z∈Q,z<n)/\aR ts 0=.ptr bb 0/\aR ts 1=ov/\aR ts 3=.sl db 0 n n/\aR ts 9=.ptr h.next 0/\aR ts 10=qv) ?_ (n:=left n (λz=>if z=x then true else D z)+1) ⟨_,[x],[],_,.nils,hst,rfl,?_,k3,u3.get,g3,.inl ⟨rfl,rfl⟩,q3,(λ_ _ _ _ _ _ _ e=>by cases e),om,(λz hz=>by
    have:z=x:=by simpa using hz
    rw[this];exact hx),e0',e1,e3,e9,e10⟩))
   .clear e0' e1 e2 e3 e9 e10;rintro f ts h4 ⟨Dn,Q,At,qv,atv,hb,hf,hfn,k4,gd4,g4,i4,q4,sp4,hlt4,hQn,e0',e1,e3,e9,e10⟩;have el:=q4.len;cases Q with
    |nil =>
      refine ai (ai (aD (M2 e10 el) ?_));refine dR (by simp only[am,aI,simprocAttr,aU,de,Int.lt_irrefl,decide_false]) ?_;refine fp ⟨λ_=>?_,λe=>absurd rfl e⟩;obtain⟨f1,f2⟩:=hb.fin hp hV P hS hD he0 ha0;have ho4:PcL h4 lo ov ps:=ho.cong λc h1 h2=>k4.gt c h2 om;have lt_ov:∀b n,ov=.sl b 0 n n->b<h.next:=λb n e=>by
       obtain⟨_,h1,_⟩:=ho;exact h1.lt e
      have rp:aA h4 h.next 0 3=some [atv,.int .i64 (x:Nat),.int .i64 0]:=by rw[bI g4];rfl
      have x5:Ext h4.next h4 (h4.new (.cells [atv,.int .i64 (x:Nat),.int .i64 0] 3 false)):=Nt (ab _);have g5:(h4.new (.cells [atv,.int .i64 (x:Nat),.int .i64 0] 3 false)).get h4.next=some (.cells [atv,.int .i64 (x:Nat),.int .i64 0] 3 false):=by rw[AH.get_new,if_pos rfl]
      have n4:=k4.nx;obtain⟨v',h6,a6,p6,x6,n6,fr6,_,ty6⟩:=(ho4.ext x5 (ab _)).push (v:=atv) (x:=h4.next) (xs:=At) (s:=((x:Nat):Int)) (e:=0) (by have:=x5.nx;omega) ((i4.mono om).ext x5 (ab _)) g5 om (λb n e=>by have:=lt_ov b n e;omega) (λb n b' n' e e'=>by
       have h1:=lt_ov b' n' e';rcases i4 with⟨h2,_⟩|⟨b2,n2,h2,h3,_⟩
       .rw[h2]at e;cases e
       .rw[h3]at e;cases e;omega) (by unfold bq;omega)
      refine ai (bW (λts h'=>h'=h6/\aR ts 8=v') (by simp only[am,aI,simprocAttr,e1,e9,rp,i4.cells.1,i4.cells.2,a6]) ?_);rintro ts h' ⟨rfl,e8⟩;have kk:Kp (λc=>c=db\/lo<=c) h h':=(k4.mono λ_ _ q=>.inl q).trans ((x5.kp (S:=λc=>c=db\/lo<=c) (ab _)).trans ⟨by rw[n6];omega,λc _ hc=>x6.gt c (by
       have:¬lo<=c:=λh=>hc (.inr h);omega),λc _=>ty6 c⟩ (λ_ _ q=>q)) (λ_ _ q=>q)
      refine bU ⟨v',(by simp only[rs,rf73,am,aI,simprocAttr,e8]<;>rfl),kk,Dn,?_,f2,hb.sub,hb.x,(λh=>by cases h),.inr ⟨rfl,At,p6,f1,hb.nd,λz h1 h2=>(hb.ins z h1 h2).2⟩⟩;rw[x6.gt db om,x5.gt db om];exact gd4
    |cons y Q =>
      have hpop:=hb.pop;obtain⟨hyd,hyD⟩:=hb.que y (by simp);obtain⟨hyv,hyp⟩:=hb.ins y hyd hyD;have hyn:y<n:=hQn y (by simp);rw[ar]at el;refine ai (ai (aD (M2 e10 el) ?_));have dz:decide ((0:Int)<((Q.length+1:Nat):Int))=true:=by rw[aK];omega
      refine dv (Z1 dz) (bQ (cA ?_));obtain⟨qb,qo,ha,hrd⟩:=q4.head;obtain⟨qv',hstq,q5⟩:=q4.tail;have sp5:Sepq qv' atv:=λb o m c b' n' e e'=>by
       obtain⟨_,b1,o1,cs1,e1,_,g1⟩:=q4;rw[e1]at hstq;simp only[slV,g1,if_true]at hstq;obtain⟨r,_,hr⟩:=aE.1 hstq;rw[<-hr]at e;cases e;exact sp4 _ _ _ _ b' n' e1 e'
      have u4:Bu h4 bb n ev edv E Bl la pa H V fav:=u.kp k4 (Ne.symm hdb.1) (Ne.symm hdb.2.1) (Ne.symm hdb.2.2) oe oed;have rb:aA h4 bb 2 1=some [edv]:=bJ u4.o rfl;have lb:=u4.b.len;rw[ah,ah]at lb;refine ai (aD (M3 e10 ha hrd) ?_);refine ai (aD (by simp only[am,aI,simprocAttr,dY,bN,e10,hstq]<;>rfl) ?_);refine ai (aD (M3 e0' rb lb) ?_)
      refine gA (α:=(Nat->Bool)×List Nat×List Nat×AV×AV) (N:=Bl.length) (λ_ a=>[(39,edv),(0,.ptr bb 0),(1,ov),(3,.sl db 0 n n),(9,.ptr h.next 0),(10,a.2.2.2.1),(11,.int .i64 (y:Nat))])
       (λk a h'=>Bfs (grE n E hE hL) Bl H V pt D x e0 a.1 a.2.1 a.2.2.1 (some (y,Bl.drop k))/\left n a.1+a.2.1.length<=left n Dn+Q.length/\Kp (λc=>c=db) h h'/\h'.get db=some (.cells (bl n a.1) 1 false)/\h'.get h.next=some (.cells [a.2.2.2.2,.int .i64 (x:Nat),.int .i64 0] 3 false)/\IsSl h' 1 (h.next+1) a.2.2.2.2 (nC a.2.2.1)/\IsQ h' (h.next+1) a.2.2.2.1 a.2.1/\Sepq a.2.2.2.1 a.2.2.2.2/\h.next<h'.next/\∀z∈a.2.1,z<n)
       (Dn,Q,At,qv',atv) (λ_ _=>rfl) om (H4 e0' e1 e3 e9) ⟨hpop,ab _,k4,gd4,g4,i4,q5,sp5,hlt4,λz hz=>hQn z (aQ _ hz)⟩ ?_ ?_
      .clear e0' e1 e3 e9 e10 rb lb;rintro k ⟨Dm,Qm,Am,qm,am'⟩ ts h5 hk ⟨j1,j2,j3,j4,j5,j6,j7,j8,j9,j10⟩ ⟨ei,en,f39,f0,f1,f3,f9,f10,f11,-⟩;simp only at ei en f39 f0 f1 f3 f9 f10 f11 j1 j2 j3 j4 j5 j6 j7 j8 j10;have hdk:Bl.drop k=Bl[k]::Bl.drop (k+1):=cn hk;have hBk:Bl[k]∈Bl:=aO hk;have hik:=hB _ hBk;generalize hi:Bl[k]=i at *
       rw[hdk]at j1;have u5:Bu h5 bb n ev edv E Bl la pa H V fav:=u.kp j3 (Ne.symm hdb.1) (Ne.symm hdb.2.1) (Ne.symm hdb.2.2) oe oed;obtain⟨b5,o5,a5,r5,_⟩:=u5.b.at1 (i:=k) (y:=.int .i64 (i:Nat)) (by rw[aG,aG,ae hk,hi];rfl);refine ai (aD (M4 f39 ei a5 r5) ?_);have hC:=mQ u5 hE (show n<2^40 by omega) hik hyn;have n3:=j3.nx;cases hI:lU E i y with
       |false =>
         rw[hI]at hC;refine ai (bS (bE 3 (M2 f0 f11) rfl (Z2 f0 f11) (M2 f0 f11) (hC) λv h6 hq=>?_));obtain⟨rfl,x6⟩:=hq;refine bM (M0) ?_;have lt_db:=AH.lt_of_get j4;have hnx:=j1.next (Dn':=Dm) (Q':=Qm) (At':=Am) (λ_ h=>h) (λ_ h=>h) (λ_ h=>h) (λh=>by rw[jA hik,hI]at h;cases h) (λ_ h=>.inl h) (λ_ h=>.inl h) (λ_ h=>.inl h) j1.nd;refine cA (ai (aD (by simp only[am,aI,simprocAttr,cr]<;>rfl) ?_));refine dv (by simp only[am,aI,simprocAttr,cr]) (bQ ?_);exact⟨(Dm,Qm,Am,qm,am'),⟨hnx,j2,j3.trans (x6.kp (S:=λc=>c=db) (ab _)) (λ_ _ q=>q),by rw[x6.gt _ lt_db];exact j4,by rw[x6.gt _ j9];exact j5,j6.ext x6 (ab _),j7.ext x6 (ab _),j8,cB j9 x6.nx,j10⟩,H10 ei en f39 f0 f1 f3 f9 f10 f11 f11⟩
       |true =>
         obtain⟨z,hz⟩:∃z,z=(grE n E hE hL).oth i y:=⟨_,rfl⟩
         have hzo:nN E i y=((z:Nat):Int):=by rw[hz];exact Ha hI
         have hat:at_ (grE n E hE hL) i y=true:=by rw[jA hik];exact hI
         obtain⟨hatz,_⟩:=Go.Pla.oth_at (hBg i hBk) hat;rw[<-hz]at hatz;have hzn:z<n:=Go.Pla.at_lt (hBg i hBk) hatz;rw[hI,hzo]at hC;refine ai (bS (bE 3 (M2 f0 f11) rfl (Z2 f0 f11) (M2 f0 f11) (hC) λv h6 hq=>?_));obtain⟨rfl,x6⟩:=hq;refine bM (M0) ?_;have lt_db:=AH.lt_of_get j4;have k6:Kp (λc=>c=db) h h6:=j3.trans (x6.kp (S:=λc=>c=db) (ab _)) (λ_ _ q=>q);have gd6:h6.get db=some (.cells (bl n Dm) 1 false):=by rw[x6.gt _ lt_db];exact j4
         have g6:h6.get h.next=some (.cells [am',.int .i64 (x:Nat),.int .i64 0] 3 false):=by rw[x6.gt _ j9];exact j5
         have i6:=j6.ext x6 (ab _);have q6:=j7.ext x6 (ab _);have lt6:=cB j9 x6.nx;have u6:Bu h6 bb n ev edv E Bl la pa H V fav:=u.kp k6 (Ne.symm hdb.1) (Ne.symm hdb.2.1) (Ne.symm hdb.2.2) oe oed;refine cA (ai (aD (M1 @cD) ?_));refine dR (Z1 @cD) ?_;have r4:aA h6 bb 4 1=some [.sl pa 0 n n]:=bJ u6.o rfl;have iz:iV ((z:Nat):Int) n=some z:=eU hzn;have rv:aA h6 pa z 1=some [.bool (V z)]:=bJ u6.v (nJ hzn);have Qlen:Qm.length<2^34:=by rw[ar]at hf;omega
         cases hvz:V z with
         |true =>
           rw[hvz]at rv;refine ai (aD (M5 f0 r4 iz @bh rv) ?_);refine dv (Z0) ?_;have rp0:aA h6 h.next 0 1=some [am']:=bJ g6 rfl;have hAl:Am.length<2^34:=by
            have:=Go.Pla.nd_lt j1.nd (n:=n) λw hw=>by
             obtain⟨e,he,_,_,ha,_⟩:=j1.hgs w hw;exact Go.Pla.at_lt (hBg e he) ha
            omega
           have hct:=mI (y:=((z:Nat):Int)) (et i6) (by rw[ah];omega);rw[oI]at hct;refine ai (bS (bE 3 (M2 f9 rp0) rfl (Z2 f9 rp0) (M2 f9 rp0) (hct) λv h7 hq=>?_));obtain⟨rfl,x7⟩:=hq;have lt_db6:=AH.lt_of_get gd6;have k7:Kp (λc=>c=db) h h7:=k6.trans (x7.kp (S:=λc=>c=db) (ab _)) (λ_ _ q=>q);have gd7:h7.get db=some (.cells (bl n Dm) 1 false):=by rw[x7.gt _ lt_db6];exact gd6
           have g7:h7.get h.next=some (.cells [am',.int .i64 (x:Nat),.int .i64 0] 3 false):=by rw[x7.gt _ lt6];exact g6
           have i7:=i6.ext x7 (ab _);have q7:=q6.ext x7 (ab _);have lt7:=cB lt6 x7.nx;by_cases hin:z∈Am
           .rw[bp hin];refine bM (M1 @cD) ?_;refine dR (Z1 @cD) (bQ ?_);have hnx:=j1.next (Dn':=Dm) (Q':=Qm) (At':=Am) (λ_ h=>h) (λ_ h=>h) (λ_ h=>h) (λ_=>by rw[<-hz];unfold Kn;rw[if_pos hvz];exact hin) (λ_ h=>.inl h) (λ_ h=>.inl h) (λ_ h=>.inl h) j1.nd;exact⟨(Dm,Qm,Am,qm,am'),⟨hnx,j2,k7,gd7,g7,i7,q7,j8,lt7,j10⟩,H10 ei en f39 f0 f1 f3 f9 f10 f11 f11⟩
           .rw[aX hin];refine bM (by simp only[am,aI,simprocAttr,cr]<;>rfl) ?_;refine dv (by simp only[am,aI,simprocAttr,cr]) ?_;have rp1:aA h7 h.next 0 1=some [am']:=bJ g7 rfl;obtain⟨av,h8,a8,i8,x8,n8,fr8,bd8⟩:=IsSl.grow i7 om hAl z;have g8:h8.get h.next=some (.cells [am',.int .i64 (x:Nat),.int .i64 0] 3 false):=by rw[x8.gt _ om];exact g7
            have w9:cj h8 h.next 0 [av]=some (h8.put h.next (.cells [av,.int .i64 (x:Nat),.int .i64 0] 3 false)):=iP (v:=av) g8 (i:=0) (by simp);have u9:=Nv (o:=.cells ([av,AV.int .i64 (x:Nat),AV.int .i64 0]) 3 false) g8;refine bW (λts h'=>h'=h8.put h.next (.cells ([av,AV.int .i64 (x:Nat),AV.int .i64 0]) 3 false)/\Held [(41,.int .i64 (k:Nat)),(40,.int .i64 (Bl.length:Nat)),(39,edv),(0,.ptr bb 0),(1,ov),(3,.sl db 0 n n),(9,.ptr h.next 0),(10,qm),(11,.int .i64 (y:Nat))] ts) (by simp only[am,aI,simprocAttr,ei,en,f39,f0,f1,f3,f9,f10,f11,rp1,a8,i8.cells.1,i8.cells.2,w9,cG,dl]) ?_;rintro ts h9 ⟨rfl,hh⟩;generalize h8.put h.next (.cells ([av,AV.int .i64 (x:Nat),AV.int .i64 0]) 3 false)=h9 at *
            have hfr:∀e∈Bl,at_ (grE n E hE hL) e y=true->H e=false:=hV.fresh hyv;obtain⟨m,hm',hma,hmH⟩:=(hV z).1 hvz;have hnx:=j1.next (Dn':=Dm) (Q':=Qm) (At':=Am++[z]) (λ_ h=>h) (λ_ h=>bg _ h) (λ_ h=>h) (λ_=>by rw[<-hz];unfold Kn;rw[if_pos hvz];simp) (λ_ h=>.inl h) (λ_ h=>.inl h) (λw hw=>by
             rcases aw.1 hw with h|h
             .exact .inl h
             .have:w=z:=by simpa using h
              subst this;exact .inr ⟨i,hBk,hfr i hBk hat,hyp i hBk hat,hatz,m,hm',hma,hmH⟩) (by
             rw[aN];refine⟨j1.nd,by simp,λa ha b hb=>?_⟩;have:b=z:=by simpa using hb
             subst this;exact λe=>hin (e▸ha))
            have n7:=x7.nx;have lt_db7:=AH.lt_of_get gd7;refine⟨(Dm,Qm,Am++[z],qm,av),⟨hnx,j2,?_,?_,u9.get,?_,?_,?_,?_,j10⟩,hh⟩
            .exact⟨by have:=k7.nx;have:=x8.nx;rw[u9.nx];omega,λc hc hs=>by rw[u9.ne om,x8.gt c om,k7.gt c hc hs],λc hc=>by rw[u9.ty c,x8.ty c om,k7.ty c hc]⟩
            .rw[u9.ne om,x8.gt _ om];exact gd7
            .exact i8.cong λb m e hb=>u9.ne om
            .exact(q7.keep λb o m m' e=>by
              have:h9.get b=h7.get b:=by
               obtain⟨_,b1,o1,cs1,e1,hb1,gg⟩:=q7;rw[e1]at e;cases e;rw[u9.ne om,fr8 _ (AH.lt_of_get gg) λb' n' e'=>j8 _ _ _ _ b' n' e1 e']
              exact this)
            .intro b o m m' b' n' e e';have h1:=bd8 b' n' e';obtain⟨_,b1,o1,cs1,e1,hb1,gg⟩:=q7;rw[e1]at e;cases e;have:=AH.lt_of_get gg;omega
            .rw[u9.nx];omega
         |false =>
           rw[hvz]at rv;refine ai (aD (M5 f0 r4 iz @bh rv) ?_);refine dR (Z0) ?_;have rd:aA h6 db z 1=some [.bool (Dm z)]:=bJ gd6 (nJ hzn);cases hdz:Dm z with
           |true =>
             rw[hdz]at rd;refine ai (aD (M5 f3 iz @bh rd @cD) ?_);refine dR (Z1 @cD) (bQ ?_);have hnx:=j1.next (Dn':=Dm) (Q':=Qm) (At':=Am) (λ_ h=>h) (λ_ h=>h) (λ_ h=>h) (λ_=>by rw[<-hz];unfold Kn;rw[if_neg (by rw[hvz];simp)];exact hdz) (λ_ h=>.inl h) (λ_ h=>.inl h) (λ_ h=>.inl h) j1.nd;exact⟨(Dm,Qm,Am,qm,am'),⟨hnx,j2,k6,gd6,g6,i6,q6,j8,lt6,j10⟩,H10 ei en f39 f0 f1 f3 f9 f10 f11 f11⟩
           |false =>
             rw[hdz]at rd;refine ai (aD (by simp only[am,aI,simprocAttr,f3,iz,bh,rd,cr]<;>rfl) ?_);refine dv (by simp only[am,aI,simprocAttr,cr]) ?_;have w7:=iP (v:=.bool true) gd6 (i:=z) (by rw[pW];exact hzn);rw[yw]at w7;have u7:=Nv (o:=.cells (bl n λj=>if j=z then true else Dm j) 1 false) gd6;refine ai (bW (λts h'=>h'=h6.put db (.cells (bl n λj=>if j=z then true else Dm j) 1 false)/\Held [(41,.int .i64 (k:Nat)),(40,.int .i64 (Bl.length:Nat)),(39,edv),(0,.ptr bb 0),(1,ov),(3,.sl db 0 n n),(9,.ptr h.next 0),(10,qm),(11,.int .i64 (y:Nat)),(14,.int .i64 (z:Nat))] ts) (by simp only[am,aI,simprocAttr,ei,en,f39,f0,f1,f3,f9,f10,f11,iz,bh,w7,cG,dl]) ?_);rintro ts h7 ⟨rfl,ei,en,f39,f0,f1,f3,f9,f10,f11,f14,-⟩;generalize h6.put db (.cells (bl n λj=>if j=z then true else Dm j) 1 false)=h7 at *
             have n7:=u7.nx;have q7:=q6.cong λc hc _=>u7.ne (show c≠db by omega);have i7:=i6.cong λb m e hb=>u7.ne (show b≠db by omega);obtain⟨qz,h8,a8,q8,x8,n8,fr8,bd8⟩:=q7.push om Qlen z;refine bW (λts h'=>h'=h8/\Held [(41,.int .i64 (k:Nat)),(40,.int .i64 (Bl.length:Nat)),(39,edv),(0,.ptr bb 0),(1,ov),(3,.sl db 0 n n),(9,.ptr h.next 0),(10,qz),(11,.int .i64 (y:Nat))] ts) (by simp only[am,aI,simprocAttr,ei,en,f39,f0,f1,f3,f9,f10,f11,f14,a8,cG,dl]) ?_;rintro ts h8' ⟨rfl,hh⟩;have hDz:D z=false:=by
              cases h:D z
              .rfl
              .rw[j1.sub z h]at hdz;cases hdz
             have hfr:∀e∈Bl,at_ (grE n E hE hL) e z=true->H e=false:=hV.fresh hvz;have hnx:=j1.next (Dn':=λj=>if j=z then true else Dm j) (Q':=Qm++[z]) (At':=Am) (λw h=>by split;rfl;exact h) (λ_ h=>h) (λ_ h=>bg _ h) (λ_=>by rw[<-hz];unfold Kn;rw[if_neg (by rw[hvz];simp)];simp) (λw hw=>by
              rcases aw.1 hw with h|h
              .exact .inl h
              .have:w=z:=by simpa using h
               subst this;exact .inr ⟨by simp,hDz⟩) (λw hw=>by
              by_cases q:w=z
              .subst q;exact .inr ⟨by simp,λ_=>⟨hvz,λe he ha=>(P.same w hfr e he i hBk ha hatz).trans (hyp i hBk hat)⟩⟩
              .rw[if_neg q]at hw;exact .inl hw) (λ_ h=>.inl h) j1.nd
             have hls:=Go.Pla.left_step hzn hdz;refine⟨((λj=>if j=z then true else Dm j),Qm++[z],Am,qz,am'),⟨hnx,by
              have e:(Qm++[z]).length=Qm.length+1:=by simp
              show left n (λj=>if j=z then true else Dm j)+(Qm++[z]).length<=left n Dn+Q.length;omega,?_,?_,?_,?_,q8,?_,om,λw hw=>?_⟩,hh⟩
             .exact⟨by have:=k6.nx;have:=x8.nx;omega,λc hc hs=>by rw[x8.gt c om,u7.ne hs,k6.gt c hc hs],λc hc=>by rw[x8.ty c om,u7.ty c,k6.ty c hc]⟩
             .rw[x8.gt _ om];exact u7.get
             .rw[x8.gt _ om,u7.ne om];exact g6
             .refine IsSl.keep i7 λb m e=>fr8 b (i7.lt e) λb' o' n' m' e'=>?_;exact λq=>j8 b' o' n' m' b m e' e q.symm
             .intro b o m m' b' n' e e';have h1:=bd8 b o m m' e;have:=i7.lt e';omega
             .rcases aw.1 hw with h|h
              .exact j10 w h
              .have:w=z:=by simpa using h
               rw[this];exact hzn
      .rintro⟨Dm,Qm,Am,qm,am'⟩ ts h5 ⟨j1,j2,j3,j4,j5,j6,j7,j8,j9,j10⟩ ⟨f39,f0,f1,f3,f9,f10,f11,-⟩;simp only at f39 f0 f1 f3 f9 f10 f11 j1 j2 j3 j4 j5 j6 j7 j8 j10;rw[cL (ab _)]at j1;rw[ar]at hf;exact⟨_,om,Dm,Qm,Am,qm,am',j1.end,rfl,om,j3,j4,j5,j6,j7,j8,j9,j10,f0,f1,f3,f9,f10⟩
   .have:left n (λz=>if z=x then true else D z)<=n:=by
     unfold left;have:=cF (λz=>!(if z=x then true else D z)) (List.range n);rw[br]at this;exact this
    omega
open Go.Am
open Go.Pla (at_ Part Plc Hg Shut)
structure Of(g:Go.Blk.Gr)(Bl:List Nat)(H V:Nat->Bool)(pt:Nat->Nat)(p:Pc)(e0:Nat):Prop where
 mem:e0∈Bl
 new:H e0=false
 hgs:∀z,z∈p.1↔Hg g Bl H pt (pt e0) z
 nd:p.1.Nodup
 kind:(p.2.1=-1/\V (g.tl e0)=true/\V (g.hd e0)=true/\p.1=[g.tl e0,g.hd e0])\/∃x:Nat,p.2.1=((x:Nat):Int)/\x<g.n/\V x=false/\at_ g e0 x=true
theorem Fp{g:Go.Blk.Gr}{pt:Nat->Nat}(p:Go.Pla.Pln g Bl)(hV:Plc g Bl H V)(P:Part g Bl H pt){i:Nat}(hi:i∈Bl)(hH:H i=false)(h1:V (g.tl i)=true)(h2:V (g.hd i)=true){k:Int}:Of g Bl H V pt ([g.tl i,g.hd i],-1,k) i where
 mem:=hi
 new:=hH
 hgs:=λz=>by
  have it:at_ g i (g.tl i)=true:=(Go.Pla.at_inc (p.lt i hi)).2 ⟨p.lt i hi,.inl rfl⟩;have ih:at_ g i (g.hd i)=true:=(Go.Pla.at_inc (p.lt i hi)).2 ⟨p.lt i hi,.inr rfl⟩;simp only[ao,bd,or_false];constructor
  .rintro (rfl|rfl)
   .obtain⟨j,hj,ha,hjH⟩:=(hV _).1 h1;exact⟨i,hi,hH,rfl,it,j,hj,ha,hjH⟩
   .obtain⟨j,hj,ha,hjH⟩:=(hV _).1 h2;exact⟨i,hi,hH,rfl,ih,j,hj,ha,hjH⟩
  .rintro⟨e,he,_,hp,ha,_⟩;have hu:=P.univ (λe=>decide (e=i)) (λv hv e he k hk hev hkv=>by
    have no:∀e∈Bl,at_ g e v=true->e≠i:=λe _ ha q=>by
     subst q;have hinc:=(Go.Pla.at_inc (p.lt e hi)).1 ha;have:V v=true:=by rcases hinc.2 with q|q<;>rw[<-q]<;>assumption
     obtain⟨j,hj,hja,hjH⟩:=(hV v).1 this;rw[hv j hj hja]at hjH;cases hjH
    rw[aX (no e he hev),aX (no k hk hkv)])
   have h3:=hu e;rw[hp,hu i]at h3;have h3:e=i:=by simpa using h3.symm
   subst h3;rcases((Go.Pla.at_inc (p.lt e he)).1 ha).2 with q|q
   .exact .inl q.symm
   .exact .inr q.symm
 nd:=by
  have:=p.ne hi;simp[this]
 kind:=.inl ⟨rfl,h1,h2,rfl⟩
set_option maxHeartbeats 4000000 in
theorem zr{la:Nat}(u:Bu h bb n ev edv E Bl la pa H V fav)(hE:InG n E)(hL:∀i,i<E.length->tlE E i≠hdE E i)(hn:n<2^30)(hm:E.length<2^30)(hB:∀i∈Bl,i<E.length)(hBn:Bl.length<2^30)
 (hp:Go.Pla.Pln (grE n E hE hL) Bl) (hV:Plc (grE n E hE hL) Bl H V) {pt:Nat->Nat} (P:Part (grE n E hE hL) Bl H pt) :
 C prg 50 [.ptr bb 0] h λv h'=>Ext h.next h h'/\∃ps,PcL h' h.next v ps/\ps.length<=Bl.length/\(∀p∈ps,∃e0,Of (grE n E hE hL) Bl H V pt p e0)/\∀e∈Bl,H e=false->∃p∈ps,∃e0,Of (grE n E hE hL) Bl H V pt p e0/\pt e0=pt e:=by
 refine Ny pf50 ?_;refine ai (aD (Mi0) ?_);have r0:aA h bb 0 1=some [.int .i64 (n:Nat)]:=bJ u.o rfl;have mu:=zH (h:=h) (z:=[.bool false]) (e:=1) (bytes:=1) (n:=n) (by unfold bq;omega) (by unfold bq;omega);have x1:Ext h.next h (h.new (.cells (dA [.bool false] n) 1 false)):=Nt (ab _);have g1:(h.new (.cells (dA [.bool false] n) 1 false)).get h.next=some (.cells (dA [.bool false] n) 1 false):=by rw[AH.get_new,if_pos rfl]
 have n1:(h.new (.cells (dA [.bool false] n) 1 false)).next=h.next+1:=rfl;rw[yx]at mu x1 g1 n1;refine ai (bW (λts h'=>h'=h.new (.cells (bl n λ_=>false) 1 false)/\aR ts 0=.ptr bb 0/\aR ts 2=.nils/\aR ts 3=.sl h.next 0 n n) (by simp only[am,aI,simprocAttr,bP,r0,mu]) ?_);rintro ts h1 ⟨rfl,e0,e2,e3⟩;generalize h.new (.cells (bl n λ_=>false) 1 false)=h1 at *
 have u1:=u.ext x1 (ab _);have rb:aA h1 bb 2 1=some [edv]:=bJ u1.o rfl;have lb:=u1.b.len;rw[ah,ah]at lb;have lt_bb:=AH.lt_of_get u.o;have lt_la:=AH.lt_of_get u.l;have lt_pa:=AH.lt_of_get u.v;have oe:Off (λc=>c=h.next) ev:=by
  cases hq:ev with
  |sl b o m c=>exact λq=>by have:=u.e.lt hq;omega
  |_=>trivial
 have oed:Off (λc=>c=h.next) edv:=by
  cases hq:edv with
  |sl b o m c=>exact λq=>by have:=u.b.lt hq;omega
  |_=>trivial
 refine ai (ai (aD (M3 e0 rb lb) ?_))
 refine gA (α:=(Nat->Bool)×List Pc×AV) (N:=Bl.length) (λ_ a=>[(16,edv),(0,.ptr bb 0),(2,a.2.2),(3,.sl h.next 0 n n)])
  (λk a h'=>Ext h.next h h'/\h'.get h.next=some (.cells (bl n a.1) 1 false)/\Shut (grE n E hE hL) Bl V a.1/\PcL h' (h.next+1) a.2.2 a.2.1/\a.2.1.length<=k/\(∀p∈a.2.1,∃e0,Of (grE n E hE hL) Bl H V pt p e0)/\(∀z,a.1 z=true->∃p∈a.2.1,∃e0,Of (grE n E hE hL) Bl H V pt p e0/\∀e∈Bl,at_ (grE n E hE hL) e z=true->pt e=pt e0)/\(∀e∈Bl.take k,H e=false->∃p∈a.2.1,∃e0,Of (grE n E hE hL) Bl H V pt p e0/\pt e0=pt e))
  ((λ_=>false),[],.nils) (λ_ _=>rfl) om (H3 e0 e2 e3) ⟨x1,g1,λz h=>by simp at h,⟨[],.inl ⟨rfl,rfl⟩,rfl,λi q p h=>by simp at h⟩,by simp,λp h=>by simp at h,λz h=>by simp at h,λe h=>by simp at h⟩ ?_ ?_
 .clear e0 e2 e3 rb lb;rintro k ⟨D,ps,ov⟩ ts h2 hk ⟨j1,j2,j3,j4,j5,j6,j7,j8⟩ ⟨ei,en,e16,e0,e2,e3,-⟩;simp only at ei en e16 e0 e2 e3 j2 j3 j4 j5 j6 j7 j8;have hBk:Bl[k]∈Bl:=aO hk;have hik:=hB _ hBk;have htk:Bl.take (k+1)=Bl.take k++[Bl[k]]:=by rw[fH,ae hk];rfl
  have u2:=u.ext j1 (ab _);obtain⟨b5,o5,a5,r5,_⟩:=u2.b.at1 (i:=k) (y:=.int .i64 (Bl[k]:Nat)) (by rw[aG,aG,ae hk];rfl);generalize hi:Bl[k]=i at *
  refine ai (aD (M4 e16 ei a5 r5) ?_);have r3:aA h2 bb 3 1=some [.sl la 0 E.length E.length]:=bJ u2.o rfl;have ia:iV ((i:Nat):Int) E.length=some i:=eU hik;have rl:aA h2 la i 1=some [.bool (H i)]:=bJ u2.l (nJ hik);cases hH:H i with
  |true =>
    rw[hH]at rl;refine ai (ai (aD (by simp only[am,aI,simprocAttr,e0,r3,ia,bh,rl]<;>rfl) ?_));refine dv (Z0) (fp ⟨λ_=>⟨(D,ps,ov),⟨j1,j2,j3,j4,lZ j5,j6,j7,λe he hHe=>?_⟩,H6 ei en e16 e0 e2 e3⟩,λe=>absurd rfl e⟩);rw[htk]at he;rcases aw.1 he with h|h
    .exact j8 e h hHe
    .have:e=i:=by simpa using h
     rw[this,hH]at hHe;cases hHe
  |false =>
  rw[hH]at rl;refine ai (ai (aD (by simp only[am,aI,simprocAttr,e0,r3,ia,bh,rl]<;>rfl) ?_));refine dR (Z0) (bQ ?_);obtain⟨q1,q2,q3⟩:=hE i hik;obtain⟨b6,o6,a6,r6,_,_⟩:=u2.e.at (fR (f:=eE) hik);rw[q1]at r6;have r6:aA h2 b6 o6 2=some [.int .i64 (tlE E i:Nat),.int .i64 (hdE E i:Nat)]:=r6;have r1:aA h2 bb 1 1=some [ev]:=bJ u2.o rfl;obtain⟨h3,w3,x3,g3,n3⟩:=gv (h:=h2) (z:=[.int .i64 0,.int .i64 0]) (cs:=[.int .i64 (tlE E i:Nat),.int .i64 (hdE E i:Nat)]) (e:=2) rfl;have lt2:h.next<h2.next:=AH.lt_of_get j2;refine ai (bW (λts h'=>h'=h3/\Held [(18,.int .i64 (k:Nat)),(17,.int .i64 (Bl.length:Nat)),(16,edv),(0,.ptr bb 0),(2,ov),(3,.sl h.next 0 n n),(5,.int .i64 (i:Nat)),(6,.ptr h2.next 0)] ts) (by simp only[am,aI,simprocAttr,ei,en,e16,e0,e2,e3,r1,a6,r6,w3,cG,dl]) ?_);rintro ts h3' ⟨rfl,ei,en,e16,e0,e2,e3,e5,e6,-⟩;have x3':Ext h.next h h3':=j1.trans (x3.mono om);have u3:=u.ext x3' (ab _);have g3d:h3'.get h.next=some (.cells (bl n D) 1 false):=by rw[x3.gt _ lt2];exact j2
  have p3:=j4.ext x3 (ab _);have rt:aA h3' h2.next 0 1=some [.int .i64 (tlE E i:Nat)]:=bJ g3 rfl;have rh:aA h3' h2.next 1 1=some [.int .i64 (hdE E i:Nat)]:=bJ g3 rfl;have r4:aA h3' bb 4 1=some [.sl pa 0 n n]:=bJ u3.o rfl;have it:iV ((tlE E i:Nat):Int) n=some (tlE E i):=eU q2;have ih:iV ((hdE E i:Nat):Int) n=some (hdE E i):=eU q3;have vt:aA h3' pa (tlE E i) 1=some [.bool (V (tlE E i))]:=bJ u3.v (nJ q2);have vh:aA h3' pa (hdE E i) 1=some [.bool (V (hdE E i))]:=bJ u3.v (nJ q3);have att:at_ (grE n E hE hL) i (tlE E i)=true:=by rw[jA hik];simp[lU]
  have ath:at_ (grE n E hE hL) i (hdE E i)=true:=by rw[jA hik];simp[lU]
  have fin:∀(w:Nat) (hw:w<n) (hv:V w=false) (ha:at_ (grE n E hE hL) i w=true),C prg 73 [.ptr bb 0,ov,.int .i64 (w:Nat),.sl h.next 0 n n] h3' λv h'=>∃D' ps',Ext h.next h h'/\h'.get h.next=some (.cells (bl n D') 1 false)/\Shut (grE n E hE hL) Bl V D'/\PcL h' (h.next+1) v ps'/\ps'.length<=k+1/\(∀p∈ps',∃e0,Of (grE n E hE hL) Bl H V pt p e0)/\(∀z,D' z=true->∃p∈ps',∃e0,Of (grE n E hE hL) Bl H V pt p e0/\∀e∈Bl,at_ (grE n E hE hL) e z=true->pt e=pt e0)/\(∀e∈Bl.take (k+1),H e=false->∃p∈ps',∃e0,Of (grE n E hE hL) Bl H V pt p e0/\pt e0=pt e):=by
   intro w hw hv ha;refine(EB u3 hE hL hn hm hB hBn hp hV P j3 hw hv hBk ha g3d ⟨om,om,om⟩ oe oed (lo:=h.next+1) (by have:=x3.nx;omega) om p3 om).mono λv h4 hq=>?_;obtain⟨k4,D',g4,s4,d4,dw,hsame,hc⟩:=hq;have x4:Ext h.next h h4:=⟨cI x3'.nx k4.nx,λc hc=>by rw[k4.gt c (by have:=x3'.nx;omega) om,x3'.gt c hc],λc hc=>by rw[k4.ty c (by have:=x3'.nx;omega),x3'.ty c hc]⟩
   rcases hc with⟨hD,hP⟩|⟨hD,at',hP,hat,hnd,hins⟩
   .refine⟨D',ps,x4,g4,s4,hP,om,j6,λz hz=>?_,λe he hHe=>?_⟩
    .exact j7 z (by
      cases hDz:D z
      .exact absurd (hsame hD z hz) (by rw[hDz];simp)
      .rfl)
    .rw[htk]at he;rcases aw.1 he with h|h
     .exact j8 e h hHe
     .have:e=i:=by simpa using h
      subst this;obtain⟨p,hp',e1,o1,h1⟩:=j7 w hD;exact⟨p,hp',e1,o1,(h1 e hBk ha).symm⟩
   .have of':Of (grE n E hE hL) Bl H V pt (at',((w:Nat):Int),0) i:=⟨hBk,hH,hat,hnd,.inr ⟨w,rfl,hw,hv,ha⟩⟩
    refine⟨D',ps++[(at',((w:Nat):Int),0)],x4,g4,s4,hP,by rw[aB,vA];omega,λp hp=>?_,λz hz=>?_,λe he hHe=>?_⟩
    .rcases aw.1 hp with h|h
     .exact j6 p h
     .have:p=(at',((w:Nat):Int),0):=by simpa using h
      subst this;exact⟨i,of'⟩
    .cases hDz:D z
     .exact⟨_,by simp,i,of',hins z hz hDz⟩
     .obtain⟨p,hp',e1,o1,h1⟩:=j7 z hDz;exact⟨p,bg _ hp',e1,o1,h1⟩
    .rw[htk]at he;rcases aw.1 he with h|h
     .obtain⟨p,hp',e1,o1,h1⟩:=j8 e h hHe;exact⟨p,bg _ hp',e1,o1,h1⟩
     .have:e=i:=by simpa using h
      subst this;exact⟨_,by simp,e,of',rfl⟩
  cases hvt:V (tlE E i)with
  |false =>
    rw[hvt]at vt;refine cA (ai (aD (by simp only[am,aI,simprocAttr,e0,e6,r4,rt,it,bh,vt]<;>rfl) ?_));refine dR (Z0) ?_;refine ai (aD (by simp only[am,aI,simprocAttr,e0,e6,r4,rt,it,bh,vt]<;>rfl) ?_);refine dR (Z0) ?_;refine bS (bE 5 (M5 e0 e2 e6 rt e3) rfl (Z5 e0 e2 e6 rt e3) (M5 e0 e2 e6 rt e3) (fin _ q2 hvt att) λv h4 hq=>?_);obtain⟨D',ps',hJ⟩:=hq;refine bM (M0) ?_;exact⟨(D',ps',v),hJ,H6 ei en e16 e0 e2 e3⟩
  |true =>
    rw[hvt]at vt;cases hvh:V (hdE E i)with
    |false =>
      rw[hvh]at vh;refine cA (ai (aD (by simp only[am,aI,simprocAttr,e0,e6,r4,rt,rh,it,ih,bh,vt,vh]<;>rfl) ?_));refine dR (Z0) ?_;refine ai (aD (by simp only[am,aI,simprocAttr,e0,e6,r4,rt,it,bh,vt]<;>rfl) ?_);refine dv (Z0) ?_;refine bS (bE 5 (M5 e0 e2 e6 rh e3) rfl (Z5 e0 e2 e6 rh e3) (M5 e0 e2 e6 rh e3) (fin _ q3 hvh ath) λv h4 hq=>?_);obtain⟨D',ps',hJ⟩:=hq;refine bM (M0) ?_;exact⟨(D',ps',v),hJ,H6 ei en e16 e0 e2 e3⟩
    |true =>
      rw[hvh]at vh;refine cA (ai (aD (by simp only[am,aI,simprocAttr,e0,e6,r4,rt,rh,it,ih,bh,vt,vh]<;>rfl) ?_));refine dv (Z0) ?_;have x4:Ext h3'.next h3' (h3'.new (.cells [.int .i64 (tlE E i:Nat),.int .i64 (hdE E i:Nat)] 1 false)):=Nt (ab _);have g4:(h3'.new (.cells [.int .i64 (tlE E i:Nat),.int .i64 (hdE E i:Nat)] 1 false)).get h3'.next=some (.cells [.int .i64 (tlE E i:Nat),.int .i64 (hdE E i:Nat)] 1 false):=by rw[AH.get_new,if_pos rfl]
      have n4:(h3'.new (.cells [.int .i64 (tlE E i:Nat),.int .i64 (hdE E i:Nat)] 1 false)).next=h3'.next+1:=rfl;have n3':=x3.nx;obtain⟨h4,hh4⟩:∃h4,h4=h3'.new (.cells [.int .i64 (tlE E i:Nat),.int .i64 (hdE E i:Nat)] 1 false):=⟨_,rfl⟩
      rw[<-hh4]at x4 g4 n4;have x5:Ext h4.next h4 (h4.new (.cells [.sl h3'.next 0 2 2,.int .i64 (-1),.int .i64 (i:Nat)] 3 false)):=Nt (ab _);have g5:(h4.new (.cells [.sl h3'.next 0 2 2,.int .i64 (-1),.int .i64 (i:Nat)] 3 false)).get h4.next=some (.cells [.sl h3'.next 0 2 2,.int .i64 (-1),.int .i64 (i:Nat)] 3 false):=by rw[AH.get_new,if_pos rfl]
      have n5:(h4.new (.cells [.sl h3'.next 0 2 2,.int .i64 (-1),.int .i64 (i:Nat)] 3 false)).next=h4.next+1:=rfl;have lt_ov:∀b m,ov=.sl b 0 m m->b<h3'.next:=λb m e=>by
       obtain⟨_,h1,_⟩:=p3;exact h1.lt e
      obtain⟨v',h6,a6,p6,x6,n6,fr6,_,ty6⟩:=((p3.ext x4 (ab _)).ext x5 (ab _)).push (v:=.sl h3'.next 0 2 2) (x:=h4.next) (xs:=[tlE E i,hdE E i]) (s:=-1) (e:=((i:Nat):Int)) om (.inr ⟨h3'.next,2,om,rfl,by rw[x5.gt _ om];exact g4,rfl⟩) g5 om (λb m e=>by have:=lt_ov b m e;omega) (λb m b' m' e e'=>by
       have:=lt_ov b' m' e';cases e;omega) (by unfold bq;omega)
      have rp2:dA [AV.int .i64 0] 2=[.int .i64 0,.int .i64 0]:=rfl;rw[n4,hh4]at a6;refine bW (λts h'=>h'=h6/\Held [(18,.int .i64 (k:Nat)),(17,.int .i64 (Bl.length:Nat)),(16,edv),(0,.ptr bb 0),(2,v'),(3,.sl h.next 0 n n)] ts) (by simp only[am,aI,simprocAttr,ei,en,e16,e0,e2,e3,e5,e6,rt,rh,rp2,ar,aU,cN,bT,Nat.reduceAdd,Nat.reduceLeDiff,if_true,AH.next_new,a6,cG,dl]) ?_;rintro ts h6' ⟨rfl,hh⟩;have of':Of (grE n E hE hL) Bl H V pt ([tlE E i,hdE E i],-1,((i:Nat):Int)) i:=Fp hp hV P hBk hH hvt hvh;have xx:Ext h.next h h6':=x3'.trans ((x4.mono om).trans ((x5.mono om).trans (x6.mono om)));refine⟨(D,ps++[([tlE E i,hdE E i],-1,((i:Nat):Int))],v'),⟨xx,?_,j3,p6,?_,λp hp=>?_,λz hz=>?_,λe he hHe=>?_⟩,hh⟩
      .rw[x6.gt _ om,x5.gt _ om,x4.gt _ om];exact g3d
      .show(ps++[_]).length<=k+1;rw[aB,vA];omega
      .rcases aw.1 hp with h|h
       .exact j6 p h
       .have:p=([tlE E i,hdE E i],-1,((i:Nat):Int)):=by simpa using h
        subst this;exact⟨i,of'⟩
      .obtain⟨p,hp',e1,o1,h1⟩:=j7 z hz;exact⟨p,bg _ hp',e1,o1,h1⟩
      .rw[htk]at he;rcases aw.1 he with h|h
       .obtain⟨p,hp',e1,o1,h1⟩:=j8 e h hHe;exact⟨p,bg _ hp',e1,o1,h1⟩
       .have:e=i:=by simpa using h
        subst this;exact⟨([tlE E e,hdE E e],-1,((e:Nat):Int)),by simp,e,of',rfl⟩
 .rintro⟨D,ps,ov⟩ ts h2 ⟨j1,j2,j3,j4,j5,j6,j7,j8⟩ ⟨e16,e0,e2,e3,-⟩;simp only at e2 j4 j5 j6 j8;rw[cV (ab _)]at j8;refine ai (aD (M1 e2) ?_);exact bU ⟨ov,(by simp only[rs,rf50,am,aI,simprocAttr,e2]<;>rfl),j1,ps,by
   obtain⟨qs,q1,q2,q3⟩:=j4;exact⟨qs,q1.mono om,q2,λi q p h1 h2=>⟨(q3 i q p h1 h2).1.mono om,(q3 i q p h1 h2).2⟩⟩,j5,j6,j8⟩
end Go.Proofs.YtlolkmcdimgplaaGreat
