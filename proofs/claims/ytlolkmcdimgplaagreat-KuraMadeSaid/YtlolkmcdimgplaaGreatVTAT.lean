/- planar -/
import Derived.Test.YtlolkmcdimgplaaGreatVTAS
set_option linter.all false
namespace Go.Proofs.YtlolkmcdimgplaaGreat
open Go.Am
def mY(F:List (List Nat))(at':List Nat)(f:Nat):Bool:=at'.all λx=>decide (x∈F.getD f [])
def fq(F:List (List Nat))(at':List Nat):List Nat:=(List.range F.length).filter (mY F at')
theorem Bq{h:AH}{fb lo:Nat}{fv:AV}{c:List Nat}(hg:h.get fb=some (.cells [fv] 1 false))(hf:IsSl h 1 lo fv (nC c))(hl:c.length<2^30){x:Nat}:C prg 95 [.int .i64 (x:Nat),.ptr fb 0] h λv h'=>v=.bool (!(decide (x∈c)))/\Ext h.next h h':=by
 refine Ny pf95 ?_;have r1:aA h fb 0 1=some [fv]:=bJ hg rfl;have hct:=mI (y:=((x:Nat):Int)) (et hf) (by rw[ah];omega);rw[oI]at hct;refine ai (aD (Mi0) ?_);refine ai (bS (bE 2 (Mi1 r1) rfl (Zi1 r1) (Mi1 r1) (hct) λv h1 hq=>?_));obtain⟨rfl,x1⟩:=hq;refine bM (M0) ?_;exact bU ⟨.bool (!(decide (x∈c))),(by simp only[rs,rf95,am,aI,simprocAttr]<;>rfl),rfl,x1⟩
set_option maxHeartbeats 2000000 in
theorem vS{h:AH}{bb n lo:Nat}{ev edv atv:AV}{E:List (Int×Int)}{Bl at':List Nat}{la pa:Nat}{H V:Nat->Bool}{fav:AV}{F:List (List Nat)}{s e:Int}(u:Bu h bb n ev edv E Bl la pa H V fav)(hF:LL h lo fav F)(hFl:F.length<2^30)(hFn:∀c∈F,c.length<2^30)(hat:SlN h atv at')(hal:at'.length<2^30) :
 C prg 74 [.ptr bb 0,.agg [atv,.int .i64 s,.int .i64 e]] h λv h'=>IsSl h' 1 h.next v (nC (fq F at'))/\Ext h.next h h':=by
 refine Ny pf74 ?_;have bx:=uT (k:=3) (cs:=[atv,.int .i64 s,.int .i64 e]) rfl;have x1:Ext h.next h (h.new (.cells [atv,.int .i64 s,.int .i64 e] 3 false)):=Nt (ab _);have g1:(h.new (.cells [atv,.int .i64 s,.int .i64 e] 3 false)).get h.next=some (.cells [atv,.int .i64 s,.int .i64 e] 3 false):=by rw[AH.get_new,if_pos rfl]
 have n1:(h.new (.cells [atv,.int .i64 s,.int .i64 e] 3 false)).next=h.next+1:=rfl;refine ai (bW (λts h'=>h'=h.new (.cells [atv,.int .i64 s,.int .i64 e] 3 false)/\aR ts 0=.ptr bb 0/\aR ts 3=.ptr h.next 0/\aR ts 4=.nils) (by simp only[am,aI,simprocAttr,bP,hat.cells.1,AV.cells,ar,aU,if_true]) ?_);rintro ts h1 ⟨rfl,e0,e3,e4⟩;generalize h.new (.cells [atv,.int .i64 s,.int .i64 e] 3 false)=h1 at *
 have u1:=u.ext x1 (ab _);have F1:=hF.ext x1 (ab _);have r5:aA h1 bb 5 1=some [fav]:=bJ u1.o rfl;have lf:=F1.len;refine ai (ai (aD (M3 e0 r5 lf) ?_))
 refine gA (α:=AV) (N:=F.length) (λ_ a=>[(10,fav),(3,.ptr h.next 0),(4,a)])
  (λk a h'=>IsSl h' 1 (h.next+1) a (nC ((List.range k).filter (mY F at')))/\Ext h.next h h'/\h'.get h.next=some (.cells [atv,.int .i64 s,.int .i64 e] 3 false)/\h.next<h'.next)
  .nils (λ_ _=>rfl) om (H2 e3 e4) ⟨.inl ⟨rfl,rfl⟩,x1,g1,om⟩ ?_ ?_
 .clear e0 e3 e4 r5 lf;rintro k a ts h2 hk ⟨j1,j2,j3,j4⟩ ⟨ei,en,e10,e3,e4,-⟩;have F2:=hF.ext j2 (ab _);obtain⟨b,o,fv,a2,r2,i2,_⟩:=F2.at hk;obtain⟨h3,w3,x3,g3,n3⟩:=gv (h:=h2) (z:=[.nils]) (cs:=[fv]) (e:=1) rfl;refine ai (bW (λts h'=>h'=h3/\Held [(12,.int .i64 (k:Nat)),(11,.int .i64 (F.length:Nat)),(10,fav),(3,.ptr h.next 0),(4,a),(5,.int .i64 (k:Nat)),(6,.ptr h2.next 0)] ts) (by simp only[am,aI,simprocAttr,ei,en,e10,e3,e4,a2,r2,i2.cells.1,i2.cells.2,w3,cG,dl]) ?_);rintro ts h3' ⟨rfl,ei,en,e10,e3,e4,e5,e6,-⟩;have g3p:h3'.get h.next=some (.cells [atv,.int .i64 s,.int .i64 e] 3 false):=by rw[x3.gt _ j4];exact j3
  have rp:aA h3' h.next 0 1=some [atv]:=bJ g3p rfl;have x3':Ext h.next h h3':=j2.trans (x3.mono om);have hat3:=hat.ext x3' (ab _);have hcl:F[k].length<2^30:=hFn _ (aO hk);have hFk:F.getD k []=F[k]:=by simp[List.getD,hk]
  have i3:=i2.ext x3 (ab _);have lat:=hat3.len;rw[ah,ah]at lat;have hcf:=wZ (h:=h3') (v:=atv) (xs:=at'.map λn=>((n:Nat):Int)) (P:=λz=>!((F[k].map λn=>((n:Nat):Int)).any (z==·))) (k:=95) (caps:=[.ptr h2.next 0]) (λ_ h'=>Ext h3'.next h3' h') (λ_ h'=>Ext h3'.next h3' h') (by rw[lat,ah]) (by rw[ah];omega) Nu (λi h' hx=>hat3.ext hx (ab _)) (λi hi h' hx=>by
   have hi':i<at'.length:=by rw[ah]at hi;exact hi
   have hxi:(at'.map λn=>((n:Nat):Int))[i]=((at'[i]:Nat):Int):=by rw[ft]
   rw[hxi];refine(Bq (x:=at'[i]) (by rw[hx.gt _ om];exact g3) (i3.ext hx (ab _)) hcl).mono λr h'' hq=>?_;rw[oI];refine⟨hq.1,?_⟩;split<;>exact hx.trans (hq.2.mono hx.nx))
  have hany:(at'.map λn=>((n:Nat):Int)).any (λz=>!((F[k].map λn=>((n:Nat):Int)).any (z==·)))=!(mY F at' k):=by
   rw[List.any_map,mY,hFk,List.not_all_eq_any_not];congr 1;funext x;simp only[Function.comp];rw[oI]
  rw[hany]at hcf;refine ai (bS (bE 3 (M3 e3 rp e6) rfl (Z3 e3 rp e6) (M3 e3 rp e6) (hcf) λv h4 hq=>?_));obtain⟨rfl,hx⟩:=hq;have x4:Ext h3'.next h3' h4:=by
   rcases hx with⟨_,h⟩|⟨_,_,h⟩<;>exact h
  have x4':Ext h.next h h4:=x3'.trans (x4.mono (by have:=x3'.nx;omega));have j14:IsSl h4 1 (h.next+1) a (nC ((List.range k).filter (mY F at'))):=(j1.ext x3 (ab _)).ext x4 (ab _);have n4:=x4.nx;have g4p:h4.get h.next=some (.cells [atv,.int .i64 s,.int .i64 e] 3 false):=by rw[x4.gt _ om];exact g3p
  cases hA:mY F at' k with
  |false =>
    refine bM (by simp only[am,aI,simprocAttr,cr,cD]<;>rfl) ?_;refine dR (by simp only[am,aI,simprocAttr,cr,cD]) (bQ ?_);exact⟨a,⟨by rw[cJ,eL];simpa[hA]using j14,x4',g4p,om⟩,H5 ei en e10 e3 e4⟩
  |true =>
    refine bM (by simp only[am,aI,simprocAttr,cr,cD]<;>rfl) ?_;refine dv (by simp only[am,aI,simprocAttr,cr,cD]) ?_;have hll:((List.range k).filter (mY F at')).length<2^34:=by
     have:=cF (mY F at') (List.range k);rw[br]at this;omega
    obtain⟨v',h5,a5,i5,x5,n5,_,_⟩:=IsSl.grow j14 om hll k;refine bW (λts h'=>h'=h5/\Held [(12,.int .i64 (k:Nat)),(11,.int .i64 (F.length:Nat)),(10,fav),(3,.ptr h.next 0),(4,v')] ts) (by simp only[am,aI,simprocAttr,ei,en,e10,e3,e4,e5,a5,cG,dl]) ?_;rintro ts h5' ⟨rfl,hh⟩;exact⟨v',⟨by rw[cJ,eL];simpa[hA]using i5,x4'.trans (x5.mono om),by rw[x5.gt _ om];exact g4p,om⟩,hh⟩
 .rintro a ts h2 ⟨j1,j2,j3,j4⟩ ⟨e10,e3,e4,-⟩;refine ai (aD (M1 e4) ?_);exact bU ⟨a,(by simp only[rs,rf74,am,aI,simprocAttr,e4]<;>rfl),j1.mono om,j2⟩
end Go.Proofs.YtlolkmcdimgplaaGreat
namespace Go.Pla
open Go.Blk
variable {g:Gr}{Bl:List Nat}{H V:Nat->Bool}{pt:Nat->Nat}{e0 y1 y2:Nat}{i:List Nat}
structure Thr(g:Gr)(Bl:List Nat)(H V:Nat->Bool)(pt:Nat->Nat)(e0:Nat)(y1 y2:Nat)(i:List Nat):Prop where
 ch:Ch g Bl (y1::i++[y2])
 nd:(y1::i++[y2]).Nodup
 fr:∀z∈i,V z=false
 v1:V y1=true
 v2:V y2=true
 new:i=[]->∀e∈Bl,jn g e y1 y2=true->H e=false
 part:∀e∈Bl,On g (y1::i++[y2]) e->pt e=pt e0
theorem zB{x y u v:Nat}{a b:List Nat}(hi:i≠[])(h1:x::i++[y]=a++u::v::b):u∈i\/v∈i:=by
 obtain⟨q,i',rfl⟩:=dL hi;cases a with
 |nil =>
   simp only[bt,aH]at h1;injection h1 with h3 h4;injection h4 with h4 _;subst h4;exact .inr (by simp)
 |cons c a =>
   simp only[aH]at h1;injection h1 with h3 h4;have:u∈q::i':=by
    have h5:(q::i'++[y]).dropLast=q::i':=yM;rw[<-h5,show q::i'++[y]=(a++[u])++(v::b) by rw[aH,h4];simp,eR (by simp)];simp
   exact .inl this
theorem thr_edge(p:Pln g Bl){k:Nat}(hk:k∈Bl)(hH:H k=false)(h1:V (g.tl k)=true)(h2:V (g.hd k)=true):Thr g Bl H V pt k (g.tl k) (g.hd k) []:=by
 have jk:jn g k (g.tl k) (g.hd k)=true:=by rw[jn_iff];exact .inl ⟨rfl,rfl⟩
 refine⟨⟨⟨k,hk,jk⟩,trivial⟩,by simp[p.ne hk],by simp,h1,h2,λ_ e he hj=>by rw[p.one e he k hk _ _ hj jk];exact hH,λe he ho=>?_⟩;obtain⟨a,u,v,b,h3,h4⟩:=ho;have hl:=congrArg List.length h3;cases a with
 |nil =>
   simp only[bt,aH]at h3;injection h3 with h5 h6;injection h6 with h6 _;subst h5 h6;rw[p.one e he k hk _ _ h4 jk]
 |cons c a=>simp at hl;omega
theorem thr_mid(p:Pln g Bl)(hV:Plc g Bl H V)(P:Part g Bl H pt){x0:Nat}{F:List (Nat×Nat)}(d:Deep g Bl H V x0 F)(h0:V x0=false)(he0:e0∈Bl)(ha0:at_ g e0 x0=true)(v1:V y1=true)(v2:V y2=true)(nd:(y1::i++[y2]).Nodup)(ch:Ch g Bl (y1::i++[y2]))(hi:i≠[])(hin:∀z∈i,z∈ks F/\V z=false):Thr g Bl H V pt e0 y1 y2 i:=by
 refine⟨ch,nd,λz hz=>(hin z hz).2,v1,v2,λh=>absurd h hi,λe he ho=>?_⟩;obtain⟨a,u,v,b,h1,h2⟩:=ho;have key:∀z∈i,at_ g e z=true->pt e=pt e0:=λz hz ha=>Hy p hV P h0 he0 ha0 F.length (ab _) d.met z (hin z hz).1 (hin z hz).2 e he ha;rcases zB hi h1 with h|h
 .exact key u h (by rw[p.jat he h2];simp[Ne.symm (p.jne he h2)])
 .exact key v h (by rw[p.jat he h2];simp[p.jne he h2])
theorem Thr.fresh(p:Pln g Bl)(hV:Plc g Bl H V)(t:Thr g Bl H V pt e0 y1 y2 i):∀e∈Bl,On g (y1::i++[y2]) e->H e=false:=λe he ho=>by
 obtain⟨a,u,v,b,h1,h2⟩:=ho;by_cases hi:i=[]
 .subst hi;have hl:=congrArg List.length h1;cases a with
  |nil =>
    simp only[bt,aH]at h1;injection h1 with h5 h6;injection h6 with h6 _;subst h5 h6;exact t.new rfl e he h2
  |cons c a=>simp at hl;omega
 .rcases zB hi h1 with h|h
  .exact hV.fresh (t.fr u h) e he (by rw[p.jat he h2];simp[Ne.symm (p.jne he h2)])
  .exact hV.fresh (t.fr v h) e he (by rw[p.jat he h2];simp[p.jne he h2])
theorem Thr.ends(p:Pln g Bl)(hV:Plc g Bl H V)(t:Thr g Bl H V pt e0 y1 y2 i):Hg g Bl H pt (pt e0) y1/\Hg g Bl H pt (pt e0) y2:=by
 have fresh:=t.fresh p hV;have go:∀{a b:List Nat}{u v:Nat},y1::i++[y2]=a++u::v::b->(∃e∈Bl,jn g e u v=true)->(V u=true->Hg g Bl H pt (pt e0) u)/\(V v=true->Hg g Bl H pt (pt e0) v):=fun {a b u v} h ⟨e,he,hj⟩=>by
  have ho:On g (y1::i++[y2]) e:=⟨a,u,v,b,h,hj⟩
  refine⟨λhv=>?_,λhv=>?_⟩
  .obtain⟨j,hj',ha,hH⟩:=(hV u).1 hv;exact⟨e,he,fresh e he ho,t.part e he ho,by rw[p.jat he hj];simp[Ne.symm (p.jne he hj)],j,hj',ha,hH⟩
  .obtain⟨j,hj',ha,hH⟩:=(hV v).1 hv;exact⟨e,he,fresh e he ho,t.part e he ho,by rw[p.jat he hj];simp[p.jne he hj],j,hj',ha,hH⟩
 have hch:=t.ch;constructor
 .cases i with
  |nil=>exact(go (a:=[]) rfl hch.1).1 t.v1
  |cons q i=>exact(go (a:=[]) rfl hch.1).1 t.v1
 .rcases cS i with rfl|⟨i',q,rfl⟩
  .exact(go (a:=[]) rfl hch.1).2 t.v2
  .have e1:y1::(i'.concat q)++[y2]=(y1::i')++q::[y2]:=by simp
   rw[e1,iK]at hch;exact(go e1 hch.2.1).2 t.v2
end Go.Pla
namespace Go.Proofs.YtlolkmcdimgplaaGreat
open Go.Am
open Go.Pla (at_ jn On Part Plc Hg Pln Bond Link tr full ks Hit Ch Thr)
variable {A bb n pa:Nat}{E:List (Int×Int)}{edv ev fav:AV}{h:AH}
theorem vQ{Bl:List Nat}{la:Nat}{H V:Nat->Bool}(u:Bu h bb n ev edv E Bl la pa H V fav)(hg:h.get A=some (.cells [.ptr bb 0] 1 false)){y:Nat}(hy:y<n):C prg 96 [.int .i64 (y:Nat),.ptr A 0] h λv h'=>v=.bool (!(V y))/\Ext h.next h h':=by
 refine Ny pf96 ?_;have r1:aA h A 0 1=some [.ptr bb 0]:=bJ hg rfl;have r4:aA h bb 4 1=some [.sl pa 0 n n]:=bJ u.o rfl;have iy:iV ((y:Nat):Int) n=some y:=eU hy;have rv:aA h pa y 1=some [.bool (V y)]:=bJ u.v (nJ hy);refine ai (aD (Mi0) ?_);refine ai (bW (λts h'=>h'=h/\aR ts 3=.bool (!(V y))) (by simp only[am,aI,simprocAttr,bP,r1,r4,iy,bh,rv]) ?_);rintro ts h' ⟨rfl,e3⟩;exact bU ⟨.bool (!(V y)),(by simp only[rs,rf96,am,aI,simprocAttr,e3]<;>rfl),rfl,Nu⟩
theorem Ez{Bl:List Nat}{la:Nat}{H V:Nat->Bool}(u:Bu h bb n ev edv E Bl la pa H V fav)(hg:h.get A=some (.cells [.ptr bb 0] 1 false)){y:Nat}(hy:y<n):C prg 97 [.int .i64 (y:Nat),.ptr A 0] h λv h'=>v=.bool (V y)/\Ext h.next h h':=by
 refine Ny pf97 ?_;have r1:aA h A 0 1=some [.ptr bb 0]:=bJ hg rfl;have r4:aA h bb 4 1=some [.sl pa 0 n n]:=bJ u.o rfl;have iy:iV ((y:Nat):Int) n=some y:=eU hy;have rv:aA h pa y 1=some [.bool (V y)]:=bJ u.v (nJ hy);refine ai (aD (Mi0) ?_);refine ai (bW (λts h'=>h'=h/\aR ts 3=.bool (V y)) (by simp only[am,aI,simprocAttr,bP,r1,r4,iy,bh,rv]) ?_);rintro ts h' ⟨rfl,e3⟩;exact bU ⟨.bool (V y),(by simp only[rs,rf97,am,aI,simprocAttr,e3]<;>rfl),rfl,Nu⟩
theorem Ey{B y1:Nat}{Bl:List Nat}{la:Nat}{H V:Nat->Bool}(u:Bu h bb n ev edv E Bl la pa H V fav)(hg:h.get A=some (.cells [.ptr bb 0] 1 false))(hb:h.get B=some (.cells [.int .i64 (y1:Nat)] 1 false)){y:Nat}(hy:y<n):C prg 98 [.int .i64 (y:Nat),.ptr A 0,.ptr B 0] h λv h'=>v=.bool (V y&&!(decide (y=y1)))/\Ext h.next h h':=by
 refine Ny pf98 ?_;have r1:aA h A 0 1=some [.ptr bb 0]:=bJ hg rfl;have r2:aA h B 0 1=some [.int .i64 (y1:Nat)]:=bJ hb rfl;have r4:aA h bb 4 1=some [.sl pa 0 n n]:=bJ u.o rfl;have iy:iV ((y:Nat):Int) n=some y:=eU hy;have rv:aA h pa y 1=some [.bool (V y)]:=bJ u.v (nJ hy);have d1:decide (((y:Nat):Int)=((y1:Nat):Int))=decide (y=y1):=by rw[decide_eq_decide];omega
 refine ai (aD (Mi0) ?_);cases hv:V y with
 |false =>
   rw[hv]at rv;refine ai (bW (λts h'=>h'=h/\aR ts 4=.bool false) (by simp only[am,aI,simprocAttr,bP,r1,r4,iy,bh,rv]) ?_);rintro ts h' ⟨rfl,e4⟩;exact bU ⟨.bool false,(by simp only[rs,rf98,am,aI,simprocAttr,e4]<;>rfl),rfl,Nu⟩
 |true =>
   rw[hv]at rv;refine ai (bW (λts h'=>h'=h/\aR ts 4=.bool (!(decide (y=y1)))) (by simp only[am,aI,simprocAttr,bP,r1,r2,r4,iy,bh,rv,d1]) ?_);rintro ts h' ⟨rfl,e4⟩;exact bU ⟨.bool (!(decide (y=y1))),(by simp only[rs,rf98,am,aI,simprocAttr,e4]<;>rfl),by simp,Nu⟩
set_option maxHeartbeats 4000000 in
theorem GV{lo:Nat}{atv:AV}{Bl:List Nat}{la:Nat}{H V:Nat->Bool}(u:Bu h bb n ev edv E Bl la pa H V fav)(hE:InG n E)(hL:∀i,i<E.length->tlE E i≠hdE E i)(hn:n<2^30)(hm:E.length<2^30)(hB:∀i∈Bl,i<E.length)(hBn:Bl.length<2^30)
 (hp:Pln (grE n E hE hL) Bl) (hb:Bond (grE n E hE hL) Bl) (hl:Link (grE n E hE hL) Bl) (hV:Plc (grE n E hE hL) Bl H V) {pt:Nat->Nat} (P:Part (grE n E hE hL) Bl H pt) (hex:∃j∈Bl,H j=true) {p:Pc}{e0:Nat} (hof:Of (grE n E hE hL) Bl H V pt p e0) (hat:IsSl h 1 lo atv (nC p.1)) (hlo:la<lo/\pa<lo) :
 C prg 75 [.ptr bb 0,.agg [atv,.int .i64 p.2.1,.int .i64 p.2.2]] h λv h'=>Ext h.next h h'/\∃y1 y2 i,SlN h' v (y1::i++[y2])/\Off (λc=>c<lo/\c<h.next) v/\Thr (grE n E hE hL) Bl H V pt e0 y1 y2 i:=by
 have hBg:∀i∈Bl,i<(grE n E hE hL).m:=hB;refine Ny pf75 ?_;have x1:Ext h.next h (h.new (.cells [.ptr bb 0] 1 false)):=Nt (ab _);have g1:(h.new (.cells [.ptr bb 0] 1 false)).get h.next=some (.cells [.ptr bb 0] 1 false):=by rw[AH.get_new,if_pos rfl]
 have n1:(h.new (.cells [.ptr bb 0] 1 false)).next=h.next+1:=rfl;obtain⟨h1,hh1⟩:∃h1,h1=h.new (.cells [.ptr bb 0] 1 false):=⟨_,rfl⟩
 rw[<-hh1]at x1 g1 n1;have x2:Ext h1.next h1 (h1.new (.cells [atv,.int .i64 p.2.1,.int .i64 p.2.2] 3 false)):=Nt (ab _);have g2:(h1.new (.cells [atv,.int .i64 p.2.1,.int .i64 p.2.2] 3 false)).get h1.next=some (.cells [atv,.int .i64 p.2.1,.int .i64 p.2.2] 3 false):=by rw[AH.get_new,if_pos rfl]
 have n2:(h1.new (.cells [atv,.int .i64 p.2.1,.int .i64 p.2.2] 3 false)).next=h1.next+1:=rfl;refine ai (bW (λts h'=>h'=h1.new (.cells [atv,.int .i64 p.2.1,.int .i64 p.2.2] 3 false)/\aR ts 2=.ptr h.next 0/\aR ts 3=.ptr (h.next+1) 0) (by simp only[am,aI,simprocAttr,bP,hat.cells.1,AV.cells,ar,aU,if_true,AH.next_new,hh1]) ?_);rintro ts h2 ⟨rfl,e2,e3⟩;generalize h1.new (.cells [atv,.int .i64 p.2.1,.int .i64 p.2.2] 3 false)=h2 at *
 rw[n1]at g2 n2;have x12:Ext h.next h h2:=x1.trans (x2.mono om);have gA2:h2.get h.next=some (.cells [.ptr bb 0] 1 false):=by rw[x2.gt _ om];exact g1
 have u2:=u.ext x12 (ab _);have hat2:=hat.ext x12 (ab _);have rsm:aA h2 (h.next+1) 1 1=some [.int .i64 p.2.1]:=bJ g2 rfl;have ra:aA h2 (h.next+1) 0 1=some [atv]:=bJ g2 rfl;rcases hof.kind with⟨k1,k2,k3,k4⟩|⟨x0,k1,k2,k3,k4⟩
 .have dz:decide (p.2.1<0)=true:=by rw[k1];rfl
  refine ai (ai (aD (M3 e3 rsm dz) ?_));refine dv (Z1 dz) ?_;refine ai (bW (λts h'=>h'=h2/\aR ts 4=atv) (by simp only[am,aI,simprocAttr,e3,ra]) ?_);rintro ts h2' ⟨rfl,e4⟩;refine bU ⟨atv,(by simp only[rs,rf75,am,aI,simprocAttr,e4]<;>rfl),x12,_,_,[],?_,IsSl.off hat λc hc=>hc.1,Go.Pla.thr_edge hp hof.mem hof.new k2 k3⟩;have:=et hat2;rw[k4]at this;exact this
 .have dz:decide (p.2.1<0)=false:=by rw[k1,aZ];omega
  refine ai (ai (aD (M3 e3 rsm dz) ?_));refine dR (Z1 dz) (bQ ?_);rw[k1]at rsm;have k2:x0<n:=k2;refine ai (aD (M1 e2) ?_);obtain⟨F,hF⟩:∃F,F=full (grE n E hE hL) Bl H (λz=>!(V z)) (n+1) ([(x0,x0)],[x0]):=⟨_,rfl⟩
  have hdeep:Go.Pla.Deep (grE n E hE hL) Bl H V x0 F:=by rw[hF];exact Go.Pla.deep_full hp hV k3 k2 (Nat.le_succ _)
  have rA:aA h2 h.next 0 1=some [.ptr bb 0]:=bJ gA2 rfl;have hw1:=tO u2 hE hL hn hm hB hBn k2 (ke:=97) (kt:=96) (ce:=[.ptr h.next 0]) (ct:=[.ptr h.next 0]) (fin:=V) (thr:=λz=>!(V z)) (λy hy h' x'=>Ez (u2.ext x' (ab _)) (by rw[x'.gt _ om];exact gA2) hy) (λy hy h' x'=>vQ (u2.ext x' (ab _)) (by rw[x'.gt _ om];exact gA2) hy);rw[<-hF]at hw1;refine ai (bS (bE 5 (M4 e2 e3 rA rsm) rfl (Z4 e2 e3 rA rsm) (M4 e2 e3 rA rsm) (hw1) λfv h3 hq=>?_));obtain⟨x3,o1,hit1,res1⟩:=hq;refine bM (M0) ?_;obtain⟨y1,ho1,hy1,hv1⟩:=Go.Pla.first_end hp hl hV hdeep k3 hof.mem k4 hex hit1;subst ho1;have res1:IsSl h3 1 h2.next fv (nC (tr F y1)):=res1;have x3':Ext h.next h h3:=x12.trans (x3.mono x12.nx);obtain⟨t1,q1,q2,q3,q4,q5⟩:=Go.Pla.tr_ok F.length (ab _) hdeep.met y1 hy1;obtain⟨s1,hs1⟩:=Go.Pla.lst_cat (r:=x0) (t:=t1);rw[q2]at hs1;have hp1:tr F y1=s1++[y1]:=by rw[q1,hs1]
  have hFl:F.length<=n:=by
   have:=Go.Pla.nd_lt hdeep.met.nd (hdeep.met.lt hBg k2);rw[ks,ah]at this;exact this
  have L1:(tr F y1).length<=n:=cI (Go.Pla.tr_len F y1) hFl;have lf:=(et res1).len;rw[ah,ah]at lf;have hp1l:(tr F y1).length=s1.length+1:=by rw[hp1];simp
  have ws1:IntKind.i64.wrap (((tr F y1).length:Nat)-(1:Int))=((s1.length:Nat):Int):=by
   have:(((tr F y1).length:Nat):Int)-1=((s1.length:Nat):Int):=om;rw[this];exact fx om om
  obtain⟨b6,o6,a6,r6,_⟩:=(et res1).at1 (i:=s1.length) (y:=.int .i64 (y1:Nat)) (by
   rw[aG,aG,hp1,aV (ab _),dP];rfl)
  obtain⟨h4,w4,x4,g4,n4⟩:=gv (h:=h3) (z:=[.int .i64 0]) (cs:=[.int .i64 (y1:Nat)]) (e:=1) rfl;refine ai (bW (λts h'=>h'=h4/\aR ts 2=.ptr h.next 0/\aR ts 3=.ptr (h.next+1) 0/\aR ts 5=.fn 96 [.ptr h.next 0]/\aR ts 6=fv/\aR ts 7=.ptr h3.next 0) (by simp only[am,aI,simprocAttr,e2,e3,lf,ws1,a6,r6,w4]) ?_);rintro ts h4' ⟨rfl,e2,e3,e5,e6,e7⟩;have n3:=x3.nx;have x4':Ext h.next h h4':=x3'.trans (x4.mono om);have u4:=u.ext x4' (ab _);have gA4:h4'.get h.next=some (.cells [.ptr bb 0] 1 false):=by rw[x4.gt _ om,x3.gt _ om];exact gA2
  have gB4:h4'.get (h.next+1)=some (.cells [atv,.int .i64 p.2.1,.int .i64 p.2.2] 3 false):=by rw[x4.gt _ om,x3.gt _ om];exact g2
  have rA4:aA h4' h.next 0 1=some [.ptr bb 0]:=bJ gA4 rfl;have rs4:aA h4' (h.next+1) 1 1=some [.int .i64 p.2.1]:=bJ gB4 rfl;rw[k1]at rs4;have hw2:=tO u4 hE hL hn hm hB hBn k2 (ke:=98) (kt:=96) (ce:=[.ptr h.next 0,.ptr h3.next 0]) (ct:=[.ptr h.next 0]) (fin:=λy=>V y&&!(decide (y=y1))) (thr:=λz=>!(V z)) (λy hy h' x'=>Ey (u4.ext x' (ab _)) (by rw[x'.gt _ om];exact gA4) (by rw[x'.gt _ om];exact g4) hy) (λy hy h' x'=>vQ (u4.ext x' (ab _)) (by rw[x'.gt _ om];exact gA4) hy);rw[<-hF]at hw2;refine ai (bS (bE 5 (M6 e2 e3 e5 e7 rA4 rs4) rfl (Z6 e2 e3 e5 e7 rA4 rs4) (M6 e2 e3 e5 e7 rA4 rs4) (hw2) λsv h5 hq=>?_));obtain⟨x5,o2,hit2,res2⟩:=hq;refine bM (M0) ?_;obtain⟨y2,ho2,hy2,hv2,hne⟩:=Go.Pla.second_end hp hb hV hdeep k3 hy1 hv1 hit2;subst ho2;have res2:IsSl h5 1 h4'.next sv (nC (tr F y2)):=res2;have x5':Ext h.next h h5:=x4'.trans (x5.mono om);obtain⟨t2,r1,r2,r3,r4,r5⟩:=Go.Pla.tr_ok F.length (ab _) hdeep.met y2 hy2;have L2:(tr F y2).length<=n:=cI (Go.Pla.tr_len F y2) hFl;have res1':=(res1.ext x4 (ab _)).ext x5 (ab _);have lf:=(et res1').len;rw[ah,ah]at lf;have ls:=(et res2).len;rw[ah,ah]at ls;refine ai (aD (M0) ?_);obtain⟨P1,hP1⟩:∃P1,P1=tr F y1:=⟨_,rfl⟩
  obtain⟨P2,hP2⟩:∃P2,P2=tr F y2:=⟨_,rfl⟩
  rw[<-hP1]at res1' lf L1 q1 hp1 hp1l;rw[<-hP2]at res2 ls L2 r1;have at0:P1[0]?=some x0/\P2[0]?=some x0:=by rw[q1,r1];exact⟨rfl,rfl⟩
  refine ai (jB (λts h'=>h'=h5/\aR ts 6=fv/\aR ts 8=sv/\∃k,aR ts 9=.int .i64 (k:Nat)/\k<=P1.length/\k<=P2.length/\P1.take k=P2.take k/\(k<P1.length->k<P2.length->P1[k]?≠P2[k]?)) ?_ ?_)
  .refine cA (fO (λm ts h'=>h'=h5/\aR ts 6=fv/\aR ts 8=sv/\∃k,m=P1.length-k/\aR ts 9=.int .i64 (k:Nat)/\k<=P1.length/\k<=P2.length/\P1.take k=P2.take k) ?_ (n:=P1.length) ⟨rfl,Z1 e6,Z0,0,rfl,Z1 @de,dx _,dx _,by simp⟩);rintro m ts h' ⟨rfl,e6,e8,k,rfl,e9,hk1,hk2,htk⟩;by_cases c1:k<P1.length
   .have d1:decide (((k:Nat):Int)<((P1.length:Nat):Int))=true:=by rw[aK];omega
    by_cases c2:k<P2.length
    .have d2:decide (((k:Nat):Int)<((P2.length:Nat):Int))=true:=by rw[aK];omega
     obtain⟨b7,o7,a7,r7,_⟩:=(et res1').at1 (i:=k) (y:=.int .i64 (P1[k]:Nat)) (by rw[aG,aG,ae c1];rfl);obtain⟨b8,o8,a8,r8,_⟩:=(et res2).at1 (i:=k) (y:=.int .i64 (P2[k]:Nat)) (by rw[aG,aG,ae c2];rfl);by_cases c3:P1[k]=P2[k]
     .have d3:decide (((P1[k]:Nat):Int)=((P2[k]:Nat):Int))=true:=by rw[aK,c3]
      refine ai (ai (aD (M12 e9 e6 e8 lf ls d1 d2 a7 r7 a8 r8 d3) ?_));refine dv (Z1 d3) (bQ (cA ?_));have wk:IntKind.i64.wrap (((k:Nat):Int)+1)=((k+1:Nat):Int):=fx om om;refine bW (λts h''=>h''=h'/\aR ts 6=fv/\aR ts 8=sv/\aR ts 9=.int .i64 ((k+1:Nat):Int)) (by simp only[am,aI,simprocAttr,e6,e8,e9,wk]) ?_;rintro ts h'' ⟨rfl,e6,e8,e9⟩;exact⟨_,om,rfl,e6,e8,k+1,rfl,e9,om,om,by rw[fH,fH,htk,ae c1,ae c2,c3]⟩
     .have d3:decide (((P1[k]:Nat):Int)=((P2[k]:Nat):Int))=false:=by rw[aZ];omega
      refine ai (ai (aD (M12 e9 e6 e8 lf ls d1 d2 a7 r7 a8 r8 d3) ?_));refine dR (Z1 d3) (fp ⟨λ_=>⟨rfl,Z1 e6,Z1 e8,k,Z1 e9,hk1,hk2,htk,λh1 h2=>by
       rw[ae h1,ae h2];simpa using c3⟩,λe=>absurd rfl e⟩)
    .have d2:decide (((k:Nat):Int)<((P2.length:Nat):Int))=false:=by rw[aZ];omega
     refine ai (ai (aD (M7 e9 e6 e8 lf ls d1 d2) ?_));exact dR (Z1 d2) (fp ⟨λ_=>⟨rfl,Z1 e6,Z1 e8,k,Z1 e9,hk1,hk2,htk,λ_ h2=>absurd h2 c2⟩,λe=>absurd rfl e⟩)
   .have d1:decide (((k:Nat):Int)<((P1.length:Nat):Int))=false:=by rw[aZ];omega
    refine ai (ai (aD (M6 e9 e6 e8 lf ls d1) ?_));exact dR (Z1 d1) (fp ⟨λ_=>⟨rfl,Z1 e6,Z1 e8,k,Z1 e9,hk1,hk2,htk,λh1 _=>absurd h1 c1⟩,λe=>absurd rfl e⟩)
  .clear e2 e3 e5 e6 e7;rintro ts h5' ⟨rfl,e6,e8,k,e9,hk1,hk2,htk,hend⟩;have hk0:0<k:=by
    refine Nat.pos_of_ne_zero λh0=>?_;subst h0;have l1:0<P1.length:=by rw[q1];simp
    have l2:0<P2.length:=by rw[r1];simp
    exact hend l1 l2 (by rw[at0.1,at0.2])
   obtain⟨k',rfl⟩:∃k',k=k'+1:=⟨k-1,om⟩
   have c1:k'<P1.length:=om;have c2:k'<P2.length:=om;have hv:P1[k']=P2[k']:=by
    have h1:(P1.take (k'+1))[k']?=(P2.take (k'+1))[k']?:=by rw[htk]
    rw[cM,cM,if_pos om,if_pos om,ae c1,ae c2]at h1;injection h1
   have e1:P1=P1.take k'++P1[k']::P1.drop (k'+1):=by rw[<-cn c1,cm]
   have e2:P2=P1.take k'++P1[k']::P2.drop (k'+1):=by
    have h1:P1.take k'=P2.take k':=by
     have:=congrArg (List.take k') htk;rw[qd,qd,dU om]at this;exact this
    rw[h1,hv,<-cn c2,cm]
   obtain⟨c,hc⟩:∃c,c=P1.take k':=⟨_,rfl⟩
   obtain⟨v,hv'⟩:∃v,v=P1[k']:=⟨_,rfl⟩
   obtain⟨a,ha⟩:∃a,a=P1.drop (k'+1):=⟨_,rfl⟩
   obtain⟨b,hb'⟩:∃b,b=P2.drop (k'+1):=⟨_,rfl⟩
   rw[<-hc,<-hv',<-ha]at e1;rw[<-hc,<-hv',<-hb']at e2;have hdiff:∀z a' b',a=z::a'->b=z::b'->False:=λz a' b' h1 h2=>by
    have l1:k'+1<P1.length:=by
     have:=congrArg List.length (ha▸h1:P1.drop (k'+1)=z::a');rw[dr,ar]at this;omega
    have l2:k'+1<P2.length:=by
     have:=congrArg List.length (hb'▸h2:P2.drop (k'+1)=z::b');rw[dr,ar]at this;omega
    refine hend l1 l2 ?_;have h3:(P1.drop (k'+1))[0]?=some z:=by rw[<-ha,h1];rfl
    have h4:(P2.drop (k'+1))[0]?=some z:=by rw[<-hb',h2];rfl
    rw[eK]at h3 h4;rw[dX]at h3 h4;rw[h3,h4]
   obtain⟨i,m1,m2,m3,m4,m5⟩:=Go.Pla.mid_way hp hV hdeep k3 hy1 hy2 hv1 hv2 hne (hP1▸e1) (hP2▸e2) hdiff;have hThr:=Go.Pla.thr_mid (pt:=pt) (e0:=e0) hp hV P hdeep k3 hof.mem k4 hv1 hv2 m2 m3 m4 m5;have hPl:P1.length=c.length+1+a.length:=by rw[e1,aB,ar];omega
   have hcl:c.length=k':=by rw[hc,bK];omega
   rcases res1' with⟨_,hz⟩|⟨b1,nn,hb1,rfl,gb1,hl1⟩
   .have:=congrArg List.length hz;rw[eJ,aU]at this;omega
   rw[eJ,bh]at hl1;subst hl1;have wk:IntKind.i64.wrap (((k'+1:Nat):Int)-1)=((k':Nat):Int):=by
    have:((k'+1:Nat):Int)-1=((k':Nat):Int):=om;rw[this];exact fx om om
   have st:=za (L:=P1.length) (k:=k') (c:=P1.length) gb1 c1 (ab _) (pp c1);rw[bh]at st;refine ai (bW (λts h'=>h'=h5'/\aR ts 6=.sl b1 k' (P1.length-k') (P1.length-k')/\aR ts 8=sv/\aR ts 9=.int .i64 ((k'+1:Nat):Int)) (by simp only[am,aI,simprocAttr,dY,bN,e6,e8,e9,wk,st]) ?_);rintro ts h5'' ⟨rfl,e6,e8,e9⟩;obtain⟨d,hd⟩:∃d:Array Int,d=((v::a).map λn=>((n:Nat):Int)).toArray:=⟨_,rfl⟩
   have hds:d.size=P1.length-k':=by rw[hd];simp;omega
   have hdi:iJ d=nC (v::a):=by rw[hd,nC,Dk];rfl
   have hn1:nC P1=nC c++nC (v::a):=by rw[<-lS,<-e1]
   have hsp:dD (nC P1) k' (iJ d)=nC P1:=by
    refine sa ?_ ?_
    .rw[iU,eJ,hds];omega
    .rw[hn1,Jo,eJ,hcl,dP,bT,cL (by rw[eJ];omega),bt,hdi];exact cV (ab _)
   have gb1':h5''.get b1=some (nu (nC P1) k' d):=by rw[nu,hsp];exact gb1
   have hrev:=tL (c:=P1.length-k') gb1' (by rw[eJ,hds];omega) (by rw[hds];omega);rw[hds]at hrev;refine ai (bS (bE 1 (M1 e6) rfl (Z1 e6) (M1 e6) (hrev) λv6 h6 hq=>?_));refine bM (M0) ?_;have hb1lt:b1<h4'.next:=by
    have:=res1.lt (b:=b1) (o:=0) (n:=P1.length) (c:=P1.length) rfl;omega
   have s6:SlI h6 (.sl b1 k' (P1.length-k') (P1.length-k')) d.reverse.toList:=by
    have:=Ni (c:=P1.length-k') hq.get (by rw[eJ];simp;omega) (by simp;omega);rwa [show d.reverse.size=P1.length-k' by simp;omega]at this
   have res26:IsSl h6 1 h4'.next sv (nC P2):=res2.cong λb m e hb=>hq.ne om;obtain⟨sv',st2,ssv,_,_⟩:=(et res26).from (lo:=k'+1) (by rw[ah,ah];exact hk2);have hdrop:((P2.map λn=>((n:Nat):Int)).map eI).drop (k'+1)=(b.map λn=>((n:Nat):Int)).map eI:=by rw[hb',<-fE,<-fE]
   rw[hdrop]at ssv;have x7:Ext h6.next h6 (h6.new (.cells [.sl b1 k' (P1.length-k') (P1.length-k'),sv'] 1 false)):=Nt (ab _);have g7:(h6.new (.cells [.sl b1 k' (P1.length-k') (P1.length-k'),sv'] 1 false)).get h6.next=some (.cells [.sl b1 k' (P1.length-k') (P1.length-k'),sv'] 1 false):=by rw[AH.get_new,if_pos rfl]
   have n7:(h6.new (.cells [.sl b1 k' (P1.length-k') (P1.length-k'),sv'] 1 false)).next=h6.next+1:=rfl;have rp2:dA [AV.nils] 2=[.nils,.nils]:=rfl;have hrl:d.reverse.toList=((v::a).reverse).map λn=>((n:Nat):Int):=by rw[hd];simp
   have hcat:=uK (h:=h6.new (.cells [.sl b1 k' (P1.length-k') (P1.length-k'),sv'] 1 false)) (v:=.sl h6.next 0 2 2) (vs:=[.sl b1 k' (P1.length-k') (P1.length-k'),sv']) (xss:=[((v::a).reverse).map λn=>((n:Nat):Int),b.map λn=>((n:Nat):Int)]) (Sl.row g7 rfl (ab _)) rfl (λi w xs h1 h2=>by
    have hi:i=0\/i=1:=by
     have:=(aF.1 h1).1;simp at this;omega
    rcases hi with rfl|rfl
    .simp only[aW,aa]at h1 h2;subst h1 h2;rw[<-hrl];exact s6.ext x7 (ab _)
    .simp only[cR,aW,aa]at h1 h2;subst h1 h2;exact Sl.ext ssv x7 (ab _)) (by simp) (by
    have h1:b.length<=P2.length:=by rw[hb',dr];omega
    simp only[jI,nG,bV,aB,ah,kB,ar];omega)
   refine ai (bS (bE 5 (by simp only[am,aI,simprocAttr,dY,bN,e6,e8,e9,st2,ssv.cells.1,ssv.cells.2,rp2,ar,aU,cN,bT,Nat.reduceAdd,Nat.reduceLeDiff,if_true]<;>rfl) rfl (by simp only[am,aI,simprocAttr,dY,bN,e6,e8,e9,st2,ssv.cells.1,ssv.cells.2,rp2,ar,aU,cN,bT,Nat.reduceAdd,Nat.reduceLeDiff,if_true]) (by simp only[am,aI,simprocAttr,dY,bN,e6,e8,e9,st2,ssv.cells.1,ssv.cells.2,rp2,ar,aU,cN,bT,Nat.reduceAdd,Nat.reduceLeDiff,if_true]<;>rfl) (hcat) λrv h8 hq8=>?_));obtain⟨i8,x8⟩:=hq8;refine bM (M0) ?_;have n6:=hq.nx;have n5:=x5.nx;have hfl:([((v::a).reverse).map λn=>((n:Nat):Int),b.map λn=>((n:Nat):Int)].flatten).flatMap eI=nC (y1::i++[y2]):=by
    rw[<-m1,nC];congr 1;simp
   rw[hfl,n7]at i8;refine bU ⟨rv,(by simp only[rs,rf75,am,aI,simprocAttr]<;>rfl),?_,y1,y2,i,et i8,IsSl.off i8 λc hc=>?_,hThr⟩
   .exact x5'.trans (((hq.ext (show h.next<=b1 by have:=x12.nx;omega)).trans (x7.mono om)).trans (x8.mono (by rw[n7];omega)))
   .have l1:=AH.lt_of_get u.l;have l2:=AH.lt_of_get u.v;omega
end Go.Proofs.YtlolkmcdimgplaaGreat
