/- A way through a part -/
import Derived.Test.YtcfncejilmimpaaGreatVTAM
set_option linter.all false
namespace Go.Pla
open Go.Blk
variable {g:Gr}{Bl:List Nat}{H V:Nat->Bool}{pt:Nat->Nat}{e0 y1 y2:Nat}{i:List Nat}
structure Thr(g:Gr)(Bl:List Nat)(H V:Nat->Bool)(pt:Nat->Nat)(e0:Nat)(y1 y2:Nat)(i:List Nat):Prop where
 ch:Ch g Bl (y1::i++[y2])
 nd:(y1::i++[y2]).Nodup
 fr:∀z∈i,V z=false
 v1:V y1=true
 v2:V y2=true
 new:i=[]->∀e∈Bl,jn g e y1 y2=true->H e=false
 part:∀e∈Bl,On g (y1::i++[y2]) e->pt e=pt e0
theorem zo{x y u v:Nat}{a b:List Nat}(hi:i≠[])(h1:x::i++[y]=a++u::v::b):u∈i\/v∈i:=by
 obtain⟨q,i',rfl⟩:=dF hi;cases a with
 |nil =>
   simp only[bz,aH]at h1;injection h1 with h3 h4;injection h4 with h4 _;subst h4;exact .inr (by simp)
 |cons c a =>
   simp only[aH]at h1;injection h1 with h3 h4;have:u∈q::i':=by
    have h5:(q::i'++[y]).dropLast=q::i':=yD;rw[<-h5,show q::i'++[y]=(a++[u])++(v::b) by rw[aH,h4];simp,eM (by simp)];simp
   exact .inl this
theorem thr_edge(p:Pln g Bl){k:Nat}(hk:k∈Bl)(hH:H k=false)(h1:V (g.tl k)=true)(h2:V (g.hd k)=true):Thr g Bl H V pt k (g.tl k) (g.hd k) []:=by
 have jk:jn g k (g.tl k) (g.hd k)=true:=by rw[jn_iff];exact .inl ⟨rfl,rfl⟩
 refine⟨⟨⟨k,hk,jk⟩,trivial⟩,by simp[p.ne hk],by simp,h1,h2,λ_ e he hj=>by rw[p.one e he k hk _ _ hj jk];exact hH,λe he ho=>?_⟩;obtain⟨a,u,v,b,h3,h4⟩:=ho;have hl:=congrArg List.length h3;cases a with
 |nil =>
   simp only[bz,aH]at h3;injection h3 with h5 h6;injection h6 with h6 _;subst h5 h6;rw[p.one e he k hk _ _ h4 jk]
 |cons c a=>simp at hl;omega
theorem thr_mid(p:Pln g Bl)(hV:Plc g Bl H V)(P:Part g Bl H pt){x0:Nat}{F:List (Nat×Nat)}(d:Deep g Bl H V x0 F)(h0:V x0=false)(he0:e0∈Bl)(ha0:at_ g e0 x0=true)(v1:V y1=true)(v2:V y2=true)(nd:(y1::i++[y2]).Nodup)(ch:Ch g Bl (y1::i++[y2]))(hi:i≠[])(hin:∀z∈i,z∈ks F/\V z=false):Thr g Bl H V pt e0 y1 y2 i:=by
 refine⟨ch,nd,λz hz=>(hin z hz).2,v1,v2,λh=>absurd h hi,λe he ho=>?_⟩;obtain⟨a,u,v,b,h1,h2⟩:=ho;have key:∀z∈i,at_ g e z=true->pt e=pt e0:=λz hz ha=>HH p hV P h0 he0 ha0 F.length (ab _) d.met z (hin z hz).1 (hin z hz).2 e he ha;rcases zo hi h1 with h|h
 .exact key u h (by rw[p.jat he h2];simp[Ne.symm (p.jne he h2)])
 .exact key v h (by rw[p.jat he h2];simp[p.jne he h2])
theorem Thr.fresh(p:Pln g Bl)(hV:Plc g Bl H V)(t:Thr g Bl H V pt e0 y1 y2 i):∀e∈Bl,On g (y1::i++[y2]) e->H e=false:=λe he ho=>by
 obtain⟨a,u,v,b,h1,h2⟩:=ho;by_cases hi:i=[]
 .subst hi;have hl:=congrArg List.length h1;cases a with
  |nil =>
    simp only[bz,aH]at h1;injection h1 with h5 h6;injection h6 with h6 _;subst h5 h6;exact t.new rfl e he h2
  |cons c a=>simp at hl;omega
 .rcases zo hi h1 with h|h
  .exact hV.fresh (t.fr u h) e he (by rw[p.jat he h2];simp[Ne.symm (p.jne he h2)])
  .exact hV.fresh (t.fr v h) e he (by rw[p.jat he h2];simp[p.jne he h2])
theorem Thr.ends(p:Pln g Bl)(hV:Plc g Bl H V)(t:Thr g Bl H V pt e0 y1 y2 i):Hg g Bl H pt (pt e0) y1/\Hg g Bl H pt (pt e0) y2:=by
 have fresh:=t.fresh p hV;have go:∀{a b:List Nat}{u v:Nat},y1::i++[y2]=a++u::v::b->(∃e∈Bl,jn g e u v=true)->(V u=true->Hg g Bl H pt (pt e0) u)/\(V v=true->Hg g Bl H pt (pt e0) v):=fun {a b u v} h ⟨e,he,hj⟩=>by
  have ho:On g (y1::i++[y2]) e:=⟨a,u,v,b,h,hj⟩
  refine⟨λhv=>?_,λhv=>?_⟩
  .obtain⟨j,hj',ha,hH⟩:=(hV u).1 hv;exact⟨e,he,fresh e he ho,t.part e he ho,by rw[p.jat he hj];simp[Ne.symm (p.jne he hj)],j,hj',ha,hH⟩
  .obtain⟨j,hj',ha,hH⟩:=(hV v).1 hv;exact⟨e,he,fresh e he ho,t.part e he ho,by rw[p.jat he hj];simp[p.jne he hj],j,hj',ha,hH⟩
 have hch:=t.ch;constructor
 .cases i with
  |nil=>exact(go (a:=[]) rfl hch.1).1 t.v1
  |cons q i=>exact(go (a:=[]) rfl hch.1).1 t.v1
 .rcases cT i with rfl|⟨i',q,rfl⟩
  .exact(go (a:=[]) rfl hch.1).2 t.v2
  .have e1:y1::(i'.concat q)++[y2]=(y1::i')++q::[y2]:=by simp
   rw[e1,iw]at hch;exact(go e1 hch.2.1).2 t.v2
end Go.Pla
namespace Go.Proofs.YtcfncejilmimpaaGreat
open Go.Am
open Go.Pla (at_ jn On Part Plc Hg Pln Bond Link tr full ks Hit Ch Thr)
variable {A bb lo n pa:Nat}{E:List (Int×Int)}{edv ev fav v:AV}{h:AH}{l:List Nat}
theorem vJ{Bl:List Nat}{la:Nat}{H V:Nat->Bool}(u:Bu h bb n ev edv E Bl la pa H V fav)(hg:h.get A=some (.cells [.ptr bb 0] 1 false)){y:Nat}(hy:y<n):C prg 92 [.int .i64 (y:Nat),.ptr A 0] h λv h'=>v=.bool (!(V y))/\Ext h.next h h':=by
 refine Oj pf92 ?_;have r1:ar h A 0 1=some [.ptr bb 0]:=bF hg rfl;have r4:ar h bb 4 1=some [.sl pa 0 n n]:=bF u.o rfl;have iy:gz ((y:Nat):Int) n=some y:=dW hy;have rv:ar h pa y 1=some [.bool (V y)]:=bF u.v (np hy);refine ai (aE (Mi0) ?_);refine ai (bW (λts h'=>h'=h/\bt ts 3=.bool (!(V y))) (by simp only[am,aJ,simprocAttr,bL,r1,r4,iy,aU,rv]) ?_);rintro ts h' ⟨rfl,e3⟩;exact bP ⟨.bool (!(V y)),(by simp only[rs,rf92,am,aJ,simprocAttr,e3]<;>rfl),rfl,Oh⟩
theorem Ev{Bl:List Nat}{la:Nat}{H V:Nat->Bool}(u:Bu h bb n ev edv E Bl la pa H V fav)(hg:h.get A=some (.cells [.ptr bb 0] 1 false)){y:Nat}(hy:y<n):C prg 93 [.int .i64 (y:Nat),.ptr A 0] h λv h'=>v=.bool (V y)/\Ext h.next h h':=by
 refine Oj pf93 ?_;have r1:ar h A 0 1=some [.ptr bb 0]:=bF hg rfl;have r4:ar h bb 4 1=some [.sl pa 0 n n]:=bF u.o rfl;have iy:gz ((y:Nat):Int) n=some y:=dW hy;have rv:ar h pa y 1=some [.bool (V y)]:=bF u.v (np hy);refine ai (aE (Mi0) ?_);refine ai (bW (λts h'=>h'=h/\bt ts 3=.bool (V y)) (by simp only[am,aJ,simprocAttr,bL,r1,r4,iy,aU,rv]) ?_);rintro ts h' ⟨rfl,e3⟩;exact bP ⟨.bool (V y),(by simp only[rs,rf93,am,aJ,simprocAttr,e3]<;>rfl),rfl,Oh⟩
theorem Eu{B y1:Nat}{Bl:List Nat}{la:Nat}{H V:Nat->Bool}(u:Bu h bb n ev edv E Bl la pa H V fav)(hg:h.get A=some (.cells [.ptr bb 0] 1 false))(hb:h.get B=some (.cells [.int .i64 (y1:Nat)] 1 false)){y:Nat}(hy:y<n):C prg 94 [.int .i64 (y:Nat),.ptr A 0,.ptr B 0] h λv h'=>v=.bool (V y&&!(decide (y=y1)))/\Ext h.next h h':=by
 refine Oj pf94 ?_;have r1:ar h A 0 1=some [.ptr bb 0]:=bF hg rfl;have r2:ar h B 0 1=some [.int .i64 (y1:Nat)]:=bF hb rfl;have r4:ar h bb 4 1=some [.sl pa 0 n n]:=bF u.o rfl;have iy:gz ((y:Nat):Int) n=some y:=dW hy;have rv:ar h pa y 1=some [.bool (V y)]:=bF u.v (np hy);have d1:decide (((y:Nat):Int)=((y1:Nat):Int))=decide (y=y1):=by rw[decide_eq_decide];omega
 refine ai (aE (Mi0) ?_);cases hv:V y with
 |false =>
   rw[hv]at rv;refine ai (bW (λts h'=>h'=h/\bt ts 4=.bool false) (by simp only[am,aJ,simprocAttr,bL,r1,r4,iy,aU,rv]) ?_);rintro ts h' ⟨rfl,e4⟩;exact bP ⟨.bool false,(by simp only[rs,rf94,am,aJ,simprocAttr,e4]<;>rfl),rfl,Oh⟩
 |true =>
   rw[hv]at rv;refine ai (bW (λts h'=>h'=h/\bt ts 4=.bool (!(decide (y=y1)))) (by simp only[am,aJ,simprocAttr,bL,r1,r2,r4,iy,aU,rv,d1]) ?_);rintro ts h' ⟨rfl,e4⟩;exact bP ⟨.bool (!(decide (y=y1))),(by simp only[rs,rf94,am,aJ,simprocAttr,e4]<;>rfl),by simp,Oh⟩
set_option maxHeartbeats 4000000 in
theorem Ha{atv:AV}{Bl:List Nat}{la:Nat}{H V:Nat->Bool}(u:Bu h bb n ev edv E Bl la pa H V fav)(hE:InG n E)(hL:∀i,i<E.length->tlE E i≠hdE E i)(hn:n<2^30)(hm:E.length<2^30)(hB:∀i∈Bl,i<E.length)(hBn:Bl.length<2^30)
 (hp:Pln (grE n E hE hL) Bl) (hb:Bond (grE n E hE hL) Bl) (hl:Link (grE n E hE hL) Bl) (hV:Plc (grE n E hE hL) Bl H V) {pt:Nat->Nat} (P:Part (grE n E hE hL) Bl H pt) (hex:∃j∈Bl,H j=true) {p:Pc}{e0:Nat} (hof:Of (grE n E hE hL) Bl H V pt p e0) (hat:IsSl h 1 lo atv (nC p.1)) (hlo:la<lo/\pa<lo) :
 C prg 66 [.ptr bb 0,.agg [atv,.int .i64 p.2.1,.int .i64 p.2.2]] h λv h'=>Ext h.next h h'/\∃y1 y2 i,SlN h' v (y1::i++[y2])/\Off (λc=>c<lo/\c<h.next) v/\Thr (grE n E hE hL) Bl H V pt e0 y1 y2 i:=by
 have hBg:∀i∈Bl,i<(grE n E hE hL).m:=hB;refine Oj pf66 ?_;have x1:Ext h.next h (h.new (.cells [.ptr bb 0] 1 false)):=Og (ab _);have g1:(h.new (.cells [.ptr bb 0] 1 false)).get h.next=some (.cells [.ptr bb 0] 1 false):=by rw[AH.get_new,if_pos rfl]
 have n1:(h.new (.cells [.ptr bb 0] 1 false)).next=h.next+1:=rfl;obtain⟨h1,hh1⟩:∃h1,h1=h.new (.cells [.ptr bb 0] 1 false):=⟨_,rfl⟩
 rw[<-hh1]at x1 g1 n1;have x2:Ext h1.next h1 (h1.new (.cells [atv,.int .i64 p.2.1,.int .i64 p.2.2] 3 false)):=Og (ab _);have g2:(h1.new (.cells [atv,.int .i64 p.2.1,.int .i64 p.2.2] 3 false)).get h1.next=some (.cells [atv,.int .i64 p.2.1,.int .i64 p.2.2] 3 false):=by rw[AH.get_new,if_pos rfl]
 have n2:(h1.new (.cells [atv,.int .i64 p.2.1,.int .i64 p.2.2] 3 false)).next=h1.next+1:=rfl;refine ai (bW (λts h'=>h'=h1.new (.cells [atv,.int .i64 p.2.1,.int .i64 p.2.2] 3 false)/\bt ts 2=.ptr h.next 0/\bt ts 3=.ptr (h.next+1) 0) (by simp only[am,aJ,simprocAttr,bL,hat.cells.1,AV.cells,aA,aQ,if_true,AH.next_new,hh1]) ?_);rintro ts h2 ⟨rfl,e2,e3⟩;generalize h1.new (.cells [atv,.int .i64 p.2.1,.int .i64 p.2.2] 3 false)=h2 at *
 rw[n1]at g2 n2;have x12:Ext h.next h h2:=x1.trans (x2.mono om);have gA2:h2.get h.next=some (.cells [.ptr bb 0] 1 false):=by rw[x2.gt _ om];exact g1
 have u2:=u.ext x12 (ab _);have hat2:=hat.ext x12 (ab _);have rsm:ar h2 (h.next+1) 1 1=some [.int .i64 p.2.1]:=bF g2 rfl;have ra:ar h2 (h.next+1) 0 1=some [atv]:=bF g2 rfl;rcases hof.kind with⟨k1,k2,k3,k4⟩|⟨x0,k1,k2,k3,k4⟩
 .have dz:decide (p.2.1<0)=true:=by rw[k1];rfl
  refine ai (ai (aE (M3 e3 rsm dz) ?_));refine cI (Z1 dz) ?_;refine ai (bW (λts h'=>h'=h2/\bt ts 4=atv) (by simp only[am,aJ,simprocAttr,e3,ra]) ?_);rintro ts h2' ⟨rfl,e4⟩;refine bP ⟨atv,(by simp only[rs,rf66,am,aJ,simprocAttr,e4]<;>rfl),x12,_,_,[],?_,IsSl.off hat λc hc=>hc.1,Go.Pla.thr_edge hp hof.mem hof.new k2 k3⟩;have:=et hat2;rw[k4]at this;exact this
 .have dz:decide (p.2.1<0)=false:=by rw[k1,be];omega
  refine ai (ai (aE (M3 e3 rsm dz) ?_));refine dJ (Z1 dz) (bM ?_);rw[k1]at rsm;have k2:x0<n:=k2;refine ai (aE (M1 e2) ?_);obtain⟨F,hF⟩:∃F,F=full (grE n E hE hL) Bl H (λz=>!(V z)) (n+1) ([(x0,x0)],[x0]):=⟨_,rfl⟩
  have hdeep:Go.Pla.Deep (grE n E hE hL) Bl H V x0 F:=by rw[hF];exact Go.Pla.deep_full hp hV k3 k2 (Nat.le_succ _)
  have rA:ar h2 h.next 0 1=some [.ptr bb 0]:=bF gA2 rfl;have hw1:=tp u2 hE hL hn hm hB hBn k2 (ke:=93) (kt:=92) (ce:=[.ptr h.next 0]) (ct:=[.ptr h.next 0]) (fin:=V) (thr:=λz=>!(V z)) (λy hy h' x'=>Ev (u2.ext x' (ab _)) (by rw[x'.gt _ om];exact gA2) hy) (λy hy h' x'=>vJ (u2.ext x' (ab _)) (by rw[x'.gt _ om];exact gA2) hy);rw[<-hF]at hw1;refine ai (cJ (bK 5 (M4 e2 e3 rA rsm) rfl (Z4 e2 e3 rA rsm) (M4 e2 e3 rA rsm) (hw1) λfv h3 hq=>?_));obtain⟨x3,o1,hit1,res1⟩:=hq;refine bU (M0) ?_;obtain⟨y1,ho1,hy1,hv1⟩:=Go.Pla.first_end hp hl hV hdeep k3 hof.mem k4 hex hit1;subst ho1;have res1:IsSl h3 1 h2.next fv (nC (tr F y1)):=res1;have x3':Ext h.next h h3:=x12.trans (x3.mono x12.nx);obtain⟨t1,q1,q2,q3,q4,q5⟩:=Go.Pla.tr_ok F.length (ab _) hdeep.met y1 hy1;obtain⟨s1,hs1⟩:=Go.Pla.lst_cat (r:=x0) (t:=t1);rw[q2]at hs1;have hp1:tr F y1=s1++[y1]:=by rw[q1,hs1]
  have hFl:F.length<=n:=by
   have:=Go.Pla.nd_lt hdeep.met.nd (hdeep.met.lt hBg k2);rw[ks,ah]at this;exact this
  have L1:(tr F y1).length<=n:=bZ (Go.Pla.tr_len F y1) hFl;have lf:=(et res1).len;rw[ah,ah]at lf;have hp1l:(tr F y1).length=s1.length+1:=by rw[hp1];simp
  have ws1:IntKind.i64.wrap (((tr F y1).length:Nat)-(1:Int))=((s1.length:Nat):Int):=by
   have:(((tr F y1).length:Nat):Int)-1=((s1.length:Nat):Int):=om;rw[this];exact ft om om
  obtain⟨b6,o6,a6,r6,_⟩:=(et res1).at1 (i:=s1.length) (y:=.int .i64 (y1:Nat)) (by
   rw[aF,aF,hp1,bp (ab _),eW];rfl)
  obtain⟨h4,w4,x4,g4,n4⟩:=ip (h:=h3) (z:=[.int .i64 0]) (cs:=[.int .i64 (y1:Nat)]) (e:=1) rfl;refine ai (bW (λts h'=>h'=h4/\bt ts 2=.ptr h.next 0/\bt ts 3=.ptr (h.next+1) 0/\bt ts 5=.fn 92 [.ptr h.next 0]/\bt ts 6=fv/\bt ts 7=.ptr h3.next 0) (by simp only[am,aJ,simprocAttr,e2,e3,lf,ws1,a6,r6,w4]) ?_);rintro ts h4' ⟨rfl,e2,e3,e5,e6,e7⟩;have n3:=x3.nx;have x4':Ext h.next h h4':=x3'.trans (x4.mono om);have u4:=u.ext x4' (ab _);have gA4:h4'.get h.next=some (.cells [.ptr bb 0] 1 false):=by rw[x4.gt _ om,x3.gt _ om];exact gA2
  have gB4:h4'.get (h.next+1)=some (.cells [atv,.int .i64 p.2.1,.int .i64 p.2.2] 3 false):=by rw[x4.gt _ om,x3.gt _ om];exact g2
  have rA4:ar h4' h.next 0 1=some [.ptr bb 0]:=bF gA4 rfl;have rs4:ar h4' (h.next+1) 1 1=some [.int .i64 p.2.1]:=bF gB4 rfl;rw[k1]at rs4;have hw2:=tp u4 hE hL hn hm hB hBn k2 (ke:=94) (kt:=92) (ce:=[.ptr h.next 0,.ptr h3.next 0]) (ct:=[.ptr h.next 0]) (fin:=λy=>V y&&!(decide (y=y1))) (thr:=λz=>!(V z)) (λy hy h' x'=>Eu (u4.ext x' (ab _)) (by rw[x'.gt _ om];exact gA4) (by rw[x'.gt _ om];exact g4) hy) (λy hy h' x'=>vJ (u4.ext x' (ab _)) (by rw[x'.gt _ om];exact gA4) hy);rw[<-hF]at hw2;refine ai (cJ (bK 5 (M6 e2 e3 e5 e7 rA4 rs4) rfl (Z6 e2 e3 e5 e7 rA4 rs4) (M6 e2 e3 e5 e7 rA4 rs4) (hw2) λsv h5 hq=>?_));obtain⟨x5,o2,hit2,res2⟩:=hq;refine bU (M0) ?_;obtain⟨y2,ho2,hy2,hv2,hne⟩:=Go.Pla.second_end hp hb hV hdeep k3 hy1 hv1 hit2;subst ho2;have res2:IsSl h5 1 h4'.next sv (nC (tr F y2)):=res2;have x5':Ext h.next h h5:=x4'.trans (x5.mono om);obtain⟨t2,r1,r2,r3,r4,r5⟩:=Go.Pla.tr_ok F.length (ab _) hdeep.met y2 hy2;have L2:(tr F y2).length<=n:=bZ (Go.Pla.tr_len F y2) hFl;have res1':=(res1.ext x4 (ab _)).ext x5 (ab _);have lf:=(et res1').len;rw[ah,ah]at lf;have ls:=(et res2).len;rw[ah,ah]at ls;refine ai (aE (M0) ?_);obtain⟨P1,hP1⟩:∃P1,P1=tr F y1:=⟨_,rfl⟩
  obtain⟨P2,hP2⟩:∃P2,P2=tr F y2:=⟨_,rfl⟩
  rw[<-hP1]at res1' lf L1 q1 hp1 hp1l;rw[<-hP2]at res2 ls L2 r1;have at0:P1[0]?=some x0/\P2[0]?=some x0:=by rw[q1,r1];exact⟨rfl,rfl⟩
  refine ai (xg (λts h'=>h'=h5/\bt ts 6=fv/\bt ts 8=sv/\∃k,bt ts 9=.int .i64 (k:Nat)/\k<=P1.length/\k<=P2.length/\P1.take k=P2.take k/\(k<P1.length->k<P2.length->P1[k]?≠P2[k]?)) ?_ ?_)
  .refine cZ (gY (λm ts h'=>h'=h5/\bt ts 6=fv/\bt ts 8=sv/\∃k,m=P1.length-k/\bt ts 9=.int .i64 (k:Nat)/\k<=P1.length/\k<=P2.length/\P1.take k=P2.take k) ?_ (n:=P1.length) ⟨rfl,Z1 e6,Z0,0,rfl,Z1 @bJ,fG _,fG _,by simp⟩);rintro m ts h' ⟨rfl,e6,e8,k,rfl,e9,hk1,hk2,htk⟩;by_cases c1:k<P1.length
   .have d1:decide (((k:Nat):Int)<((P1.length:Nat):Int))=true:=by rw[aN];omega
    by_cases c2:k<P2.length
    .have d2:decide (((k:Nat):Int)<((P2.length:Nat):Int))=true:=by rw[aN];omega
     obtain⟨b7,o7,a7,r7,_⟩:=(et res1').at1 (i:=k) (y:=.int .i64 (P1[k]:Nat)) (by rw[aF,aF,ae c1];rfl);obtain⟨b8,o8,a8,r8,_⟩:=(et res2).at1 (i:=k) (y:=.int .i64 (P2[k]:Nat)) (by rw[aF,aF,ae c2];rfl);by_cases c3:P1[k]=P2[k]
     .have d3:decide (((P1[k]:Nat):Int)=((P2[k]:Nat):Int))=true:=by rw[aN,c3]
      refine ai (ai (aE (M12 e9 e6 e8 lf ls d1 d2 a7 r7 a8 r8 d3) ?_));refine cI (Z1 d3) (bM (cZ ?_));have wk:IntKind.i64.wrap (((k:Nat):Int)+1)=((k+1:Nat):Int):=ft om om;refine bW (λts h''=>h''=h'/\bt ts 6=fv/\bt ts 8=sv/\bt ts 9=.int .i64 ((k+1:Nat):Int)) (by simp only[am,aJ,simprocAttr,e6,e8,e9,wk]) ?_;rintro ts h'' ⟨rfl,e6,e8,e9⟩;exact⟨_,om,rfl,e6,e8,k+1,rfl,e9,om,om,by rw[eP,eP,htk,ae c1,ae c2,c3]⟩
     .have d3:decide (((P1[k]:Nat):Int)=((P2[k]:Nat):Int))=false:=by rw[be];omega
      refine ai (ai (aE (M12 e9 e6 e8 lf ls d1 d2 a7 r7 a8 r8 d3) ?_));refine dJ (Z1 d3) (fO ⟨λ_=>⟨rfl,Z1 e6,Z1 e8,k,Z1 e9,hk1,hk2,htk,λh1 h2=>by
       rw[ae h1,ae h2];simpa using c3⟩,λe=>absurd rfl e⟩)
    .have d2:decide (((k:Nat):Int)<((P2.length:Nat):Int))=false:=by rw[be];omega
     refine ai (ai (aE (M7 e9 e6 e8 lf ls d1 d2) ?_));exact dJ (Z1 d2) (fO ⟨λ_=>⟨rfl,Z1 e6,Z1 e8,k,Z1 e9,hk1,hk2,htk,λ_ h2=>absurd h2 c2⟩,λe=>absurd rfl e⟩)
   .have d1:decide (((k:Nat):Int)<((P1.length:Nat):Int))=false:=by rw[be];omega
    refine ai (ai (aE (M6 e9 e6 e8 lf ls d1) ?_));exact dJ (Z1 d1) (fO ⟨λ_=>⟨rfl,Z1 e6,Z1 e8,k,Z1 e9,hk1,hk2,htk,λh1 _=>absurd h1 c1⟩,λe=>absurd rfl e⟩)
  .clear e2 e3 e5 e6 e7;rintro ts h5' ⟨rfl,e6,e8,k,e9,hk1,hk2,htk,hend⟩;have hk0:0<k:=by
    refine Nat.pos_of_ne_zero λh0=>?_;subst h0;have l1:0<P1.length:=by rw[q1];simp
    have l2:0<P2.length:=by rw[r1];simp
    exact hend l1 l2 (by rw[at0.1,at0.2])
   obtain⟨k',rfl⟩:∃k',k=k'+1:=⟨k-1,om⟩
   have c1:k'<P1.length:=om;have c2:k'<P2.length:=om;have hv:P1[k']=P2[k']:=by
    have h1:(P1.take (k'+1))[k']?=(P2.take (k'+1))[k']?:=by rw[htk]
    rw[cK,cK,if_pos om,if_pos om,ae c1,ae c2]at h1;injection h1
   have e1:P1=P1.take k'++P1[k']::P1.drop (k'+1):=by rw[<-cr c1,cQ]
   have e2:P2=P1.take k'++P1[k']::P2.drop (k'+1):=by
    have h1:P1.take k'=P2.take k':=by
     have:=congrArg (List.take k') htk;rw[yz,yz,dK om]at this;exact this
    rw[h1,hv,<-cr c2,cQ]
   obtain⟨c,hc⟩:∃c,c=P1.take k':=⟨_,rfl⟩
   obtain⟨v,hv'⟩:∃v,v=P1[k']:=⟨_,rfl⟩
   obtain⟨a,ha⟩:∃a,a=P1.drop (k'+1):=⟨_,rfl⟩
   obtain⟨b,hb'⟩:∃b,b=P2.drop (k'+1):=⟨_,rfl⟩
   rw[<-hc,<-hv',<-ha]at e1;rw[<-hc,<-hv',<-hb']at e2;have hdiff:∀z a' b',a=z::a'->b=z::b'->False:=λz a' b' h1 h2=>by
    have l1:k'+1<P1.length:=by
     have:=congrArg List.length (ha▸h1:P1.drop (k'+1)=z::a');rw[dh,aA]at this;omega
    have l2:k'+1<P2.length:=by
     have:=congrArg List.length (hb'▸h2:P2.drop (k'+1)=z::b');rw[dh,aA]at this;omega
    refine hend l1 l2 ?_;have h3:(P1.drop (k'+1))[0]?=some z:=by rw[<-ha,h1];rfl
    have h4:(P2.drop (k'+1))[0]?=some z:=by rw[<-hb',h2];rfl
    rw[eG]at h3 h4;rw[ep]at h3 h4;rw[h3,h4]
   obtain⟨i,m1,m2,m3,m4,m5⟩:=Go.Pla.mid_way hp hV hdeep k3 hy1 hy2 hv1 hv2 hne (hP1▸e1) (hP2▸e2) hdiff;have hThr:=Go.Pla.thr_mid (pt:=pt) (e0:=e0) hp hV P hdeep k3 hof.mem k4 hv1 hv2 m2 m3 m4 m5;have hPl:P1.length=c.length+1+a.length:=by rw[e1,aG,aA];omega
   have hcl:c.length=k':=by rw[hc,bG];omega
   rcases res1' with⟨_,hz⟩|⟨b1,nn,hb1,rfl,gb1,hl1⟩
   .have:=congrArg List.length hz;rw[gU,aQ]at this;omega
   rw[gU,aU]at hl1;subst hl1;have wk:IntKind.i64.wrap (((k'+1:Nat):Int)-1)=((k':Nat):Int):=by
    have:((k'+1:Nat):Int)-1=((k':Nat):Int):=om;rw[this];exact ft om om
   have st:=Gj (L:=P1.length) (k:=k') (c:=P1.length) gb1 c1 (ab _) (Nat.le_of_lt c1);rw[aU]at st;refine ai (bW (λts h'=>h'=h5'/\bt ts 6=.sl b1 k' (P1.length-k') (P1.length-k')/\bt ts 8=sv/\bt ts 9=.int .i64 ((k'+1:Nat):Int)) (by simp only[am,aJ,simprocAttr,eB,bO,e6,e8,e9,wk,st]) ?_);rintro ts h5'' ⟨rfl,e6,e8,e9⟩;obtain⟨d,hd⟩:∃d:Array Int,d=((v::a).map λn=>((n:Nat):Int)).toArray:=⟨_,rfl⟩
   have hds:d.size=P1.length-k':=by rw[hd];simp;omega
   have hdi:iu d=nC (v::a):=by rw[hd,nC,Dd];rfl
   have hn1:nC P1=nC c++nC (v::a):=by rw[<-pp,<-e1]
   have hsp:dQ (nC P1) k' (iu d)=nC P1:=by
    refine rC ?_ ?_
    .rw[iG,gU,hds];omega
    .rw[hn1,Jz,gU,hcl,eW,bN,dS (by rw[gU];omega),bz,hdi];exact de (ab _)
   have gb1':h5''.get b1=some (mW (nC P1) k' d):=by rw[mW,hsp];exact gb1
   have hrev:=tk (c:=P1.length-k') gb1' (by rw[gU,hds];omega) (by rw[hds];omega);rw[hds]at hrev;refine ai (cJ (bK 1 (M1 e6) rfl (Z1 e6) (M1 e6) (hrev) λv6 h6 hq=>?_));refine bU (M0) ?_;have hb1lt:b1<h4'.next:=by
    have:=res1.lt (b:=b1) (o:=0) (n:=P1.length) (c:=P1.length) rfl;omega
   have s6:SlI h6 (.sl b1 k' (P1.length-k') (P1.length-k')) d.reverse.toList:=by
    have:=NV (c:=P1.length-k') hq.get (by rw[gU];simp;omega) (by simp;omega);rwa [show d.reverse.size=P1.length-k' by simp;omega]at this
   have res26:IsSl h6 1 h4'.next sv (nC P2):=res2.cong λb m e hb=>hq.ne om;obtain⟨sv',st2,ssv,_,_⟩:=(et res26).from (lo:=k'+1) (by rw[ah,ah];exact hk2);have hdrop:((P2.map λn=>((n:Nat):Int)).map eI).drop (k'+1)=(b.map λn=>((n:Nat):Int)).map eI:=by rw[hb',<-fz,<-fz]
   rw[hdrop]at ssv;have x7:Ext h6.next h6 (h6.new (.cells [.sl b1 k' (P1.length-k') (P1.length-k'),sv'] 1 false)):=Og (ab _);have g7:(h6.new (.cells [.sl b1 k' (P1.length-k') (P1.length-k'),sv'] 1 false)).get h6.next=some (.cells [.sl b1 k' (P1.length-k') (P1.length-k'),sv'] 1 false):=by rw[AH.get_new,if_pos rfl]
   have n7:(h6.new (.cells [.sl b1 k' (P1.length-k') (P1.length-k'),sv'] 1 false)).next=h6.next+1:=rfl;have rp2:df [AV.nils] 2=[.nils,.nils]:=rfl;have hrl:d.reverse.toList=((v::a).reverse).map λn=>((n:Nat):Int):=by rw[hd];simp
   have hcat:=uq (h:=h6.new (.cells [.sl b1 k' (P1.length-k') (P1.length-k'),sv'] 1 false)) (v:=.sl h6.next 0 2 2) (vs:=[.sl b1 k' (P1.length-k') (P1.length-k'),sv']) (xss:=[((v::a).reverse).map λn=>((n:Nat):Int),b.map λn=>((n:Nat):Int)]) (Sl.row g7 rfl (ab _)) rfl (λi w xs h1 h2=>by
    have hi:i=0\/i=1:=by
     have:=(aM.1 h1).1;simp at this;omega
    rcases hi with rfl|rfl
    .simp only[br,aa]at h1 h2;subst h1 h2;rw[<-hrl];exact s6.ext x7 (ab _)
    .simp only[cD,br,aa]at h1 h2;subst h1 h2;exact Sl.ext ssv x7 (ab _)) (by simp) (by
    have h1:b.length<=P2.length:=by rw[hb',dh];omega
    simp only[jv,nh,cH,aG,ah,List.length_reverse,aA];omega)
   refine ai (cJ (bK 5 (by simp only[am,aJ,simprocAttr,eB,bO,e6,e8,e9,st2,ssv.cells.1,ssv.cells.2,rp2,aA,aQ,cL,bN,Nat.reduceAdd,Nat.reduceLeDiff,if_true]<;>rfl) rfl (by simp only[am,aJ,simprocAttr,eB,bO,e6,e8,e9,st2,ssv.cells.1,ssv.cells.2,rp2,aA,aQ,cL,bN,Nat.reduceAdd,Nat.reduceLeDiff,if_true]) (by simp only[am,aJ,simprocAttr,eB,bO,e6,e8,e9,st2,ssv.cells.1,ssv.cells.2,rp2,aA,aQ,cL,bN,Nat.reduceAdd,Nat.reduceLeDiff,if_true]<;>rfl) (hcat) λrv h8 hq8=>?_));obtain⟨i8,x8⟩:=hq8;refine bU (M0) ?_;have n6:=hq.nx;have n5:=x5.nx;have hfl:([((v::a).reverse).map λn=>((n:Nat):Int),b.map λn=>((n:Nat):Int)].flatten).flatMap eI=nC (y1::i++[y2]):=by
    rw[<-m1,nC];congr 1;simp
   rw[hfl,n7]at i8;refine bP ⟨rv,(by simp only[rs,rf66,am,aJ,simprocAttr]<;>rfl),?_,y1,y2,i,et i8,IsSl.off i8 λc hc=>?_,hThr⟩
   .exact x5'.trans (((hq.ext (show h.next<=b1 by have:=x12.nx;omega)).trans (x7.mono om)).trans (x8.mono (by rw[n7];omega)))
   .have l1:=AH.lt_of_get u.l;have l2:=AH.lt_of_get u.v;omega
open Go.Am
open Go.Pla (at_ jn On Rot)
theorem tN{c:Nat}(hc:c<h.next):(h.keep 1).get c=h.get c:=by rw[AH.keep_get,if_neg om]
theorem catK{vs:List AV}{ls:List (List Nat)}(hl:vs.length=ls.length)(hs:∀(i:Nat) (v:AV) (l:List Nat),vs[i]?=some v->ls[i]?=some l->SlN (h.keep 1) v l/\InB (λb=>b<h.next) v)(hn:ls.length<2^30)(ht:ls.flatten.length<2^34) :
 C prg 95 [.sl h.next 0 vs.length vs.length] ((h.keep 1).put h.next (.cells vs 1 false)) λr h'=>IsSl h' 1 (h.next+1) r (nC ls.flatten)/\Ext h.next h h'/\h.next+1<=h'.next:=by
 obtain⟨p1,p2,p3,p4⟩:=qN (h:=h) (o:=.cells vs 1 false);refine(uq (v:=.sl h.next 0 vs.length vs.length) (vs:=vs) (xss:=ls.map λl=>l.map λn=>((n:Nat):Int)) (Sl.row p2 rfl (ab _)) (by rw[ah];exact hl) (λi w xs h1 h2=>?_) (by rw[ah];exact hn) ?_).mono λr h' hq=>?_
 .rw[aF]at h2;obtain⟨l,hl',rfl⟩:=aD.1 h2;obtain⟨s1,b1⟩:=hs i w l h1 hl';exact s1.cong λb o n c e=>by
   have hb:b<h.next:=by rw[e]at b1;exact b1
   rw[p4 b hb,tN hb]
 .rw[<-List.map_flatten,ah];exact ht
 .obtain⟨i,x⟩:=hq;rw[p3]at i x;have e:((ls.map λl=>l.map λn=>((n:Nat):Int)).flatten).flatMap eI=nC ls.flatten:=by rw[nC,<-List.map_flatten]
  rw[e]at i;exact⟨i,p1.trans (x.mono om),by have:=x.nx;rw[p3]at this;exact this⟩
theorem yb{x:Nat}:∀(a b:List Nat) (i:Nat),x∉a->jH (((x:Nat):Int)==·) ((a++x::b).map λn=>((n:Nat):Int)) i=((i+a.length:Nat):Int)
 |[],b,i,_=>by simp[jH]
 |y::a,b,i,h=>by
   have h1:x≠y:=λe=>h (by simp[e]);have h2:(((x:Nat):Int)==((y:Nat):Int))=false:=by rw[beq_eq_false_iff_ne];omega
   rw[aH,bm,jH,h2,yb a b (i+1) λe=>h (aV _ e)];simp only[bu,if_false,aA];congr 1;omega
theorem LL.set{h:AH}{lo:Nat}{a v:AV}{xss:List (List Nat)}{xs:List Nat}(hl:LL h lo a xss){f:Nat}(hf:f<xss.length)(hv:IsSl h 1 lo v (nC xs))(hva:∀b n b' n',v=.sl b 0 n n->a=.sl b' 0 n' n'->b≠b') :
 ∃b o h',iQ 1 a (.int .i64 (f:Nat))=some (.ptr b o)/\bV h b o [v]=some h'/\LL h' lo a (xss.set f xs)/\lo<=b/\b<h.next/\(∃oo,Upd h h' b oo)/\∃n,a=.sl b 0 n n:=by
 obtain⟨vs,h1,h2,h3⟩:=hl;rcases h1 with⟨rfl,rfl⟩|⟨b,n,hb,rfl,hg,hn⟩
 .simp at h2;omega
 .rw[aU]at hn;have hfv:f<vs.length:=om;have w:=iE (v:=v) hg (i:=f) hfv;have uu:=Oi (o:=.cells (vs.set f v) 1 false) hg;refine⟨b,f,_,?_,w,⟨vs.set f v,.inr ⟨b,n,hb,rfl,uu.get,by rw[cB,hn,aU]⟩,by rw[cB,cB];exact h2,λi w' ys e1 e2=>?_⟩,hb,AH.lt_of_get hg,⟨_,uu⟩,n,rfl⟩
  .have:=dW (i:=f) (n:=n) om;simp only[iQ,this];simp
  .have keep:∀(w:AV) (cs:List AV),IsSl h 1 lo w cs->(∀b' n' b'' n'',w=.sl b' 0 n' n'->AV.sl b 0 n n=.sl b'' 0 n'' n''->b'≠b'')->IsSl (h.put b (.cells (vs.set f v) 1 false)) 1 lo w cs:=λw cs hw hne=>hw.cong λb' n' e _=>uu.ne (hne b' n' b n e rfl);by_cases hif:i=f
   .subst hif;rw[cU hfv]at e1;rw[cU hf]at e2;cases e1;cases e2;exact⟨keep v _ hv hva,hva⟩
   .rw[cM (Ne.symm hif)]at e1 e2;obtain⟨q1,q2⟩:=h3 i w' ys e1 e2;exact⟨keep w' _ q1 q2,q2⟩
theorem KZ{z:Nat}(h:z<2^62):IntKind.i64.wrap (((z+1:Nat):Int)-1)=((z:Nat):Int):=by
 have:((z+1:Nat):Int)-1=((z:Nat):Int):=om;rw[this];exact ft om om
theorem SlN.keep1(s:SlN h v l):SlN (h.keep 1) v l:=Sl.cong s λ_ _ _ _ e=>tN (Sl.lt s e)
theorem SlN.inb(s:SlN h v l):InB (λb=>b<h.next) v:=by
 cases hv:v with
 |sl b o n c=>exact Sl.lt s hv
 |_=>trivial
set_option maxHeartbeats 4000000 in
theorem Bj{f:Nat}{wv:AV}{Bl:List Nat}{la:Nat}{H V:Nat->Bool}{F:List (List Nat)}{y1 y2:Nat}{i:List Nat}(u:Bu h bb n ev edv E Bl la pa H V fav)(hE:InG n E)(hL:∀i,i<E.length->tlE E i≠hdE E i)(hn:n<2^30)(hm:E.length<2^30)(hB:∀i∈Bl,i<E.length)(hBn:Bl.length<2^30)
 (hF:LL h lo fav F) (hFl:F.length<2^30) (hlo:la<lo/\pa<lo/\bb<lo/\lo<=h.next) (hf:f<F.length) (hcl:F[f].length<2^30) (hcn:F[f].Nodup) (hw:SlN h wv (y1::i++[y2])) (hwl:i.length<2^29) (hwn:∀z∈y1::i++[y2],z<n) (hwd:(y1::i++[y2]).Nodup) (hwo:Off (λc=>c=la\/c=pa\/c=bb) wv) (hwf:∀b m,fav=.sl b 0 m m->Off (λc=>c=b) wv) (m1:y1∈F[f]) (m2:y2∈F[f]) (oe2:Off (λc=>lo<=c) ev) (ob2:Off (λc=>lo<=c) edv) :
 C prg 67 [.ptr bb 0,.int .i64 (f:Nat),wv] h λ_ h'=>∃s t H' V' fav',Rot F[f] (y1::s++y2::t)/\Bu h' bb n ev edv E Bl la pa H' V' fav'/\LL h' lo fav' (F.set f (y1::s++y2::i.reverse)++[y2::t++y1::i])/\Kp (λc=>c=la\/c=pa\/c=bb\/lo<=c) h h'/\(∀j,H' j=true↔H j=true\/(j∈Bl/\On (grE n E hE hL) (y1::i++[y2]) j))/\(∀v,V' v=true↔V v=true\/v∈y1::i++[y2]):=by
 have hne:y1≠y2:=by
  intro e;rw[aS]at hwd;exact hwd.2.2 y1 (by simp) y2 (by simp) e
 obtain⟨a0,b0,hc⟩:=bT m1;generalize hcc:F[f]=c at *
 have ha0:y1∉a0:=by
  intro hm;rw[hc,aS]at hcn;exact hcn.2.2 y1 hm y1 (by simp) rfl
 have hrot:Rot c (y1::b0++a0):=⟨a0,y1::b0,hc,rfl⟩
 have hm2:y2∈b0++a0:=by
  have:=hrot.mem.2 m2;simpa[Ne.symm hne]using this
 obtain⟨s,t,hst⟩:∃s t,b0++a0=s++y2::t:=bT hm2;have hface:y1::b0++a0=y1::s++y2::t:=by rw[aH,hst];rfl
 have hnd:(y1::s++y2::t).Nodup:=by
  rw[<-hface];have:(y1::b0++a0).Perm c:=by rw[hc];exact jt
  exact this.nodup_iff.2 hcn
 have hs2:y2∉y1::s:=by
  intro hm;rw[aS]at hnd;exact hnd.2.2 y2 hm y2 (by simp) rfl
 have hlen:c.length=s.length+t.length+2:=by
  have h1:=congrArg List.length hc;have h2:=congrArg List.length hst;simp at h1 h2;omega
 have hal:a0.length<c.length:=by rw[hc];simp
 refine Oj pf67 ?_;have r5:ar h bb 5 1=some [fav]:=bF u.o rfl;obtain⟨b1,o1,fv,q1,q2,q3,_⟩:=hF.at hf;rw[hcc]at q3;refine ai (aE (Mi3 r5 q1 q2) ?_);obtain⟨bw,ow,w1,w2,_⟩:=hw.at1 (i:=0) (y:=.int .i64 (y1:Nat)) rfl;rw[bJ]at w1;have hi1:=sI (y:=((y1:Nat):Int)) (et q3) (by rw[ah];omega);rw[hc,yb a0 b0 0 ha0,bX]at hi1;refine ai (cJ (bK 4 (Mi2 w1 w2) rfl (Zi2 w1 w2) (Mi2 w1 w2) (hi1) λr h1 hq=>?_));obtain⟨rfl,x1⟩:=hq;refine bU (M0) ?_;have n1:=x1.nx;have sf:=SlN.keep1 ((et q3).ext x1 (ab _));have inf:=SlN.inb ((et q3).ext x1 (ab _));obtain⟨va,fa,ta,ia,_⟩:=Sl.from sf (lo:=a0.length) (by rw[ah,ah];omega);obtain⟨vb,fb,tb,ib,_⟩:=Sl.upto sf (hi:=a0.length) (by rw[ah,ah];omega);have ta:SlN (h1.keep 1) va (y1::b0):=by
  rw[<-fz,<-fz,hc,pK]at ta;exact ta
 have tb:SlN (h1.keep 1) vb a0:=by
  rw[<-fy,<-fy,hc,yA]at tb;exact tb
 have hcat1:=catK (h:=h1) (vs:=[va,vb]) (ls:=[y1::b0,a0]) rfl (λj v l e1 e2=>by
  have hj:j=0\/j=1:=by
   have:=(aM.1 e1).1;simp at this;omega
  rcases hj with rfl|rfl
  .simp only[br,aa]at e1 e2;subst e1 e2;exact⟨ta,ia _ inf⟩
  .simp only[cD,br,aa]at e1 e2;subst e1 e2;exact⟨tb,ib _ inf⟩) (by simp) (by simp;rw[hc]at hcl;simp at hcl;omega)
 have hl1:[y1::b0,a0].flatten=y1::s++y2::t:=by rw[<-hface];simp
 rw[hl1]at hcat1;have rp2:df [AV.nils] 2=[.nils,.nils]:=rfl;have kg1:(h1.keep 1).get h1.next=some .resv:=jE;refine ai (nZ (bK 7 (by simp only[am,aJ,simprocAttr,eB,bO,aI,fa,fb,eO,ez kg1,ta.cells.1,tb.cells.1,ta.cells.2,tb.cells.2,rp2,aA,aQ,cL,bN,Nat.reduceAdd,Nat.reduceLeDiff,if_true]<;>rfl) rfl (by simp only[am,aJ,simprocAttr,eB,bO,aI,fa,fb,eO,ez kg1,ta.cells.1,tb.cells.1,ta.cells.2,tb.cells.2,rp2,aA,aQ,cL,bN,Nat.reduceAdd,Nat.reduceLeDiff,if_true]) (by simp only[am,aJ,simprocAttr,eB,bO,aI,fa,fb,eO,ez kg1,ta.cells.1,tb.cells.1,ta.cells.2,tb.cells.2,rp2,aA,aQ,cL,bN,Nat.reduceAdd,Nat.reduceLeDiff,if_true]<;>rfl) (hcat1) λr h2 hq=>?_));obtain⟨i2,x2,n2⟩:=hq;refine bU (M0) ?_;have x02:Ext h.next h h2:=x1.trans (x2.mono n1);have hw2:=Sl.ext hw x02 (ab _);have wl2:=hw2.len;have wlen:(y1::i++[y2]).length=i.length+2:=by simp
 rw[ah,ah,wlen]at wl2;have wr2:IntKind.i64.wrap (((i.length+2:Nat):Int)-1)=((i.length+1:Nat):Int):=KZ (z:=i.length+1) om;obtain⟨bl2,ol2,al2,rl2,_⟩:=hw2.at1 (i:=i.length+1) (y:=.int .i64 (y2:Nat)) (by
  rw[aF,aF,bp (by simp)];simp[eI])
 have hfl:(y1::s++y2::t).length=c.length:=by rw[hlen];simp;omega
 have hi2:=sI (y:=((y2:Nat):Int)) (et i2) (by rw[ah,hfl];omega);rw[yb (y1::s) t 0 hs2,bX,aA]at hi2;refine ai (cJ (bK 7 (Mi4 wl2 wr2 al2 rl2) rfl (Zi4 wl2 wr2 al2 rl2) (Mi4 wl2 wr2 al2 rl2) (hi2) λr3 h3 hq=>?_));obtain⟨rfl,x3⟩:=hq;refine bU (M0) ?_;have n3:=x3.nx;have x03:Ext h.next h h3:=x02.trans (x3.mono om);have hw3:=Sl.ext hw x03 (ab _);have wl3:=hw3.len;rw[ah,ah,wlen]at wl3;obtain⟨wm,fm,tm,_,_⟩:=Sl.part hw3 (lo:=1) (hi:=i.length+1) om (by rw[ah,ah,wlen];omega);rw[Int.natCast_one]at fm;have tm:SlN h3 wm i:=by
  have e:((((y1::i++[y2]).map λn=>((n:Nat):Int)).map eI).drop 1).take (i.length+1-1)=(i.map λn=>((n:Nat):Int)).map eI:=by
   rw[<-fz,<-fz,<-fy,<-fy];simp
  rw[e]at tm;exact tm
 refine ai (cJ (bK 5 (by simp only[am,aJ,simprocAttr,bL,eB,bO,aI,wl3,wr2,fm]<;>rfl) rfl (by simp only[am,aJ,simprocAttr,bL,eB,bO,aI,wl3,wr2,fm]) (by simp only[am,aJ,simprocAttr,bL,eB,bO,aI,wl3,wr2,fm]<;>rfl) (wU tm (by rw[ah];omega)) λiv h4 hq=>?_));obtain⟨i4,x4,_⟩:=hq;have i4:IsSl h4 1 h3.next iv (nC i):=i4;refine bU (M0) ?_;have n4:=x4.nx;have i24:=(i2.ext x3 (ab _)).ext x4 (ab _);have sf4:=SlN.keep1 (et i24);have inf4:=SlN.inb (et i24);obtain⟨vc,fc',tc,ic,_⟩:=Sl.from sf4 (lo:=(y1::s).length) (by rw[ah,ah,hfl,aA];omega);obtain⟨vd,fd,td,id',_⟩:=Sl.upto sf4 (hi:=1) (by rw[ah,ah,hfl];omega);have tc:SlN (h4.keep 1) vc (y2::t):=by
  rw[<-fz,<-fz,pK]at tc;exact tc
 have td:SlN (h4.keep 1) vd [y1]:=by
  rw[<-fy,<-fy]at td;exact td
 have ti:=SlN.keep1 (et i4);have hcat2:=catK (h:=h4) (vs:=[vc,vd,iv]) (ls:=[y2::t,[y1],i]) rfl (λj v l e1 e2=>by
  have hj:j=0\/j=1\/j=2:=by
   have:=(aM.1 e1).1;simp at this;omega
  rcases hj with rfl|rfl|rfl
  .simp only[br,aa]at e1 e2;subst e1 e2;exact⟨tc,ic _ inf4⟩
  .simp only[cD,br,aa]at e1 e2;subst e1 e2;exact⟨td,id' _ inf4⟩
  .simp only[cD,br,aa]at e1 e2;subst e1 e2;exact⟨ti,SlN.inb (et i4)⟩) (by simp) (by simp;omega)
 have hl2:[y2::t,[y1],i].flatten=y2::t++y1::i:=by simp
 rw[hl2]at hcat2;have rp3:df [AV.nils] 3=[.nils,.nils,.nils]:=rfl;have kg4:(h4.keep 1).get h4.next=some .resv:=jE;rw[Int.natCast_one]at fd;rw[aA]at fc';refine ai (nZ (bK 7 (by simp only[am,aJ,simprocAttr,eB,bO,aI,fc',fd,eO,ez kg4,tc.cells.1,td.cells.1,ti.cells.1,tc.cells.2,td.cells.2,ti.cells.2,rp3,aA,aQ,cL,bN,Nat.reduceAdd,Nat.reduceLeDiff,if_true]<;>rfl) rfl (by simp only[am,aJ,simprocAttr,eB,bO,aI,fc',fd,eO,ez kg4,tc.cells.1,td.cells.1,ti.cells.1,tc.cells.2,td.cells.2,ti.cells.2,rp3,aA,aQ,cL,bN,Nat.reduceAdd,Nat.reduceLeDiff,if_true]) (by simp only[am,aJ,simprocAttr,eB,bO,aI,fc',fd,eO,ez kg4,tc.cells.1,td.cells.1,ti.cells.1,tc.cells.2,td.cells.2,ti.cells.2,rp3,aA,aQ,cL,bN,Nat.reduceAdd,Nat.reduceLeDiff,if_true]<;>rfl) (hcat2) λsv h5 hq=>?_));obtain⟨i5,x5,n5⟩:=hq;refine bU (M0) ?_;have i45:=i4.ext x5 (ab _);refine ai (cJ (bK 1 (M0) rfl (Z0) (M0) (xr i45 om) λv6 h6 hq=>?_));obtain⟨i6,x6,n6,fr6⟩:=hq;refine bU (M0) ?_;have X26:Ext h2.next h2 h6:=(x3.mono (ab _)).trans ((x4.mono om).trans ((x5.mono om).trans (x6.mono om)));have x06:Ext h.next h h6:=x02.trans (X26.mono om);have N6:=x06.nx;have u6:=u.ext x06 (ab _);have i26:=i2.ext X26 (ab _);have lt_bb:=AH.lt_of_get u.o;have gk6:∀c,c<h6.next->(h6.keep 1).get c=h6.get c:=λc hc=>tN hc;have rk5:ar (h6.keep 1) bb 5 1=some [fav]:=by rw[cN (gk6 bb om)];exact bF u6.o rfl
 have sf6:=SlN.keep1 (et i26);have inf6:=SlN.inb (et i26);obtain⟨ve,fe,te,ie,_⟩:=Sl.upto sf6 (hi:=s.length+2) (by rw[ah,ah,hfl,hlen];omega);have te:SlN (h6.keep 1) ve (y1::s++[y2]):=by
  rw[<-fy,<-fy]at te;have e:(y1::s++y2::t).take (s.length+2)=y1::s++[y2]:=by
   rw[show y1::s++y2::t=(y1::s++[y2])++t by simp];exact List.take_left' (by simp)
  rw[e]at te;exact te
 have ti6:=SlN.keep1 (et i6);have hcat3:=catK (h:=h6) (vs:=[ve,iv]) (ls:=[y1::s++[y2],i.reverse]) rfl (λj v l e1 e2=>by
  have hj:j=0\/j=1:=by
   have:=(aM.1 e1).1;simp at this;omega
  rcases hj with rfl|rfl
  .simp only[br,aa]at e1 e2;subst e1 e2;exact⟨te,ie _ inf6⟩
  .simp only[cD,br,aa]at e1 e2;subst e1 e2;exact⟨ti6,SlN.inb (et i6)⟩) (by simp) (by simp;omega)
 have hl3:[y1::s++[y2],i.reverse].flatten=y1::s++y2::i.reverse:=by simp
 rw[hl3]at hcat3;have kg6:(h6.keep 1).get h6.next=some .resv:=jE;have wf1:IntKind.i64.wrap (((s.length+1:Nat):Int)+1)=((s.length+2:Nat):Int):=ft om om;refine ai (nZ (od 11 (by simp only[am,aJ,simprocAttr,bL,rk5,wf1,eB,bO,aI,fe,eO,ez kg6,te.cells.1,ti6.cells.1,te.cells.2,ti6.cells.2,rp2,aA,aQ,cL,bN,Nat.reduceAdd,Nat.reduceLeDiff,if_true]<;>rfl) rfl (by simp only[am,aJ,simprocAttr,bL,rk5,wf1,eB,bO,aI,fe,eO,ez kg6,te.cells.1,ti6.cells.1,te.cells.2,ti6.cells.2,rp2,aA,aQ,cL,bN,Nat.reduceAdd,Nat.reduceLeDiff,if_true]) (by simp only[am,aJ,simprocAttr,bL,rk5,wf1,eB,bO,aI,fe,eO,ez kg6,te.cells.1,ti6.cells.1,te.cells.2,ti6.cells.2,rp2,aA,aQ,cL,bN,Nat.reduceAdd,Nat.reduceLeDiff,if_true]<;>rfl) (hcat3) λnv h7 hq=>?_));obtain⟨i7,x7,n7⟩:=hq;have x07:Ext h.next h h7:=x06.trans (x7.mono N6);have u7:=u.ext x07 (ab _);have r57:ar h7 bb 5 1=some [fav]:=bF u7.o rfl;have lt_fav:∀b m,fav=.sl b 0 m m->b<h.next:=λb m e=>hF.lt e;have F7:=hF.ext x07 (ab _);obtain⟨fb,fo,h8,s1,s2,F8,fl1,fl2,⟨oo,u8⟩,fm',hfm⟩:=F7.set (f:=f) (xs:=y1::s++y2::i.reverse) hf (i7.mono om) (λb m b' m' e e'=>by
  have l1:=lt_fav b' m' e';rcases i7 with⟨h1,_⟩|⟨b2,m2,hb2,h1,_⟩
  .rw[h1]at e;cases e
  .rw[h1]at e;cases e;omega)
 have hsame:fav.same fav=true:=by rw[hfm];simp[AV.same]
 refine⟨by simp only[am,aJ,simprocAttr,r57];exact hsame,?_⟩;refine bU (by simp only[am,aJ,simprocAttr,bL,s1,i7.cells.1,i7.cells.2,s2]<;>rfl) ?_;have hfb:fb<h.next:=lt_fav fb fm' hfm;have kfb:Kp (λc=>c=fb) h7 h8:=u8.kp rfl;have u8':Bu h8 bb n ev edv E Bl la pa H V fav:=u7.kp kfb om om om (gm oe2 λc e=>by omega) (gm ob2 λc e=>by omega);have r58:ar h8 bb 5 1=some [fav]:=bF u8'.o rfl;have n8:=u8.nx;have lt_sv:∀b m,sv=.sl b 0 m m->h4.next+1<=b/\b<h5.next:=λb m e=>⟨by
  rcases i5 with⟨h1,_⟩|⟨b2,m2,hb2,h1,_⟩
  .rw[h1]at e;cases e
  .rw[h1]at e;cases e;exact hb2,i5.lt e⟩
 have i58:IsSl h8 1 (h4.next+1) sv (nC (y2::t++y1::i)):=i5.cong λb m e hb=>by
  have l1:=(lt_sv b m e).2;rw[u8.ne om,x7.gt b om,fr6 b l1 (λb' m' e'=>by have:=i4.lt e';omega)]
 have x9:Ext h8.next h8 (h8.new (.cells [sv] 1 false)):=Og (ab _);have g9:(h8.new (.cells [sv] 1 false)).get h8.next=some (.cells [sv] 1 false):=by rw[AH.get_new,if_pos rfl]
 have N9:(h8.new (.cells [sv] 1 false)).next=h8.next+1:=rfl;have hFsl:(F.set f (y1::s++y2::i.reverse)).length=F.length:=cB;obtain⟨fav',h10,a10,F10,x10,n10,fr10,fa10⟩:=(F8.ext x9 (ab _)).push (xs:=y2::t++y1::i) om ((i58.mono om).ext x9 (ab _)) g9 om (λb m e=>by have:=lt_fav b m e;omega) (λb m b' m' e e'=>by
  have l1:=lt_fav b' m' e';have l2:=(lt_sv b m e).1;omega) (by rw[hFsl];unfold bd;omega)
 have ty10:∀c,h10.tyOf c=(h8.new (.cells [sv] 1 false)).tyOf c:=by
  obtain⟨vs,g1,g2,_⟩:=F8.ext x9 (ab _);have hdv:vs.length/1=F.length:=by rw[g2,hFsl,lz]
  obtain⟨a2,h2',e1,_,_,_,_,_,e2⟩:=g1.app (bytes:=24) (x:=h8.next) (new:=[sv]) om om g9 om (λb m e=>by have:=lt_fav b m e;omega) rfl (by simp[i58.cells.2]) (by rw[hdv];unfold bd;omega) (by rw[hdv];unfold bd;omega);rw[a10]at e1;cases e1;exact e2
 have k10:Kp (λc=>c=fb) (h8.new (.cells [sv] 1 false)) h10:=⟨om,λc hc hne=>fr10 c hc λb m e=>by rw[hfm]at e;cases e;exact hne,λc _=>ty10 c⟩
 have u10:Bu h10 bb n ev edv E Bl la pa H V fav:=(u8'.ext x9 (ab _)).kp k10 om om om (gm oe2 λc e=>by omega) (gm ob2 λc e=>by omega);obtain⟨h11,w11,u11,o11,up11⟩:=u10.putF fav';have rp1:df [AV.nils] 1=[.nils]:=rfl;have hone:fav'.cells=[fav']/\fav'.one=true:=by
  obtain⟨vs,g1,_⟩:=F10;exact g1.cells
 refine ai (ai (bW (λts h'=>h'=h11/\bt ts 0=.ptr bb 0/\bt ts 2=wv) (by simp only[am,aJ,simprocAttr,bL,r58,i58.cells.1,i58.cells.2,rp1,aA,aQ,cL,bN,Nat.reduceAdd,Nat.reduceLeDiff,if_true,a10,hone.1,hone.2,w11]) ?_));rintro ts h11' ⟨rfl,e0,e2⟩;have back:∀c,c<h.next->c≠bb->c≠fb->h11'.get c=h.get c:=λc hc h1 h2=>by
  rw[up11.ne h1,k10.gt c om h2,x9.gt c om,u8.ne h2,x07.gt c hc]
 have backT:∀c,c<h.next->h11'.tyOf c=h.tyOf c:=λc hc=>by
  rw[up11.ty c,ty10 c,x9.ty c om,u8.ty c,x07.ty c hc]
 have hwfb:Off (λc=>c=fb) wv:=hwf fb fm' hfm;have hw11:SlN h11' wv (y1::i++[y2]):=Sl.cong hw λb o m c e=>back b (Sl.lt hw e) (λq=>by
  rw[e]at hwo;exact hwo (.inr (.inr q))) (λq=>by rw[e]at hwfb;exact hwfb q)
 refine cJ (bK 2 (M2 e0 e2) rfl (Z2 e0 e2) (M2 e0 e2) (zj u11 hE hL hn hm hB hBn hw11 hwn (by rw[wlen];omega) (gm hwo λc e=>by rcases e with e|e;exact .inl e;exact .inr (.inl e))) λv12 h12 hq=>?_);obtain⟨H',V',u12,k12,hH',hV'⟩:=hq;refine bU (M0) ?_;have n11:=up11.nx;refine⟨.tup [],rfl,s,t,H',V',fav',hface▸hrot,u12,F10.cong λc h1 h2=>?_,⟨?_,λc hc hne=>?_,λc hc=>?_⟩,hH',hV'⟩
 .rw[k12.gt c om (by rintro (q|q)<;>omega),up11.ne om]
 .have:=k12.nx;omega
 .have h1:c≠bb:=λq=>hne (.inr (.inr (.inl q)));have h2:c≠fb:=λq=>hne (.inr (.inr (.inr om)));rw[k12.gt c om (by rintro (q|q);exact hne (.inl q);exact hne (.inr (.inl q))),back c hc h1 h2]
 .rw[k12.ty c om,backT c hc]
open Go.Am
open Go.Blk (Gr Lst Cls)
theorem Ns{k:IntKind}{a b:Int}:jR mnA [.int k a,.int k b]=some (.int k (if b<a then b else a)):=by
 simp[jR,mnA]
theorem Fa{ev:RO->AV}{e:Nat}{z:List AV}(hg:h.get n=some .resv):iR ev h n (.new z e)=some (.ptr n 0,h.put n (.cells z e false)):=by
 rw[mP hg];rfl
end Go.Proofs.YtcfncejilmimpaaGreat
