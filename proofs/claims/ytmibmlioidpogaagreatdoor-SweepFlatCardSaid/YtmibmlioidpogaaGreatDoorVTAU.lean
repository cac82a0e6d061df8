/- planar -/
import Derived.Test.YtmibmlioidpogaaGreatDoorVTAT
set_option linter.all false
namespace Go.Proofs.YtmibmlioidpogaaGreatDoor
open Go.Am
def lZ(F:List (List Nat))(at':List Nat)(f:Nat):Bool:=at'.all λx=>decide (x∈F.getD f [])
def fi(F:List (List Nat))(at':List Nat):List Nat:=(List.range F.length).filter (lZ F at')
theorem zW{h:AH}{fb lo:Nat}{fv:AV}{c:List Nat}(hg:h.get fb=some (.cells [fv] 1 false))(hf:IsSl h 1 lo fv (nC c))(hl:c.length<2^30){x:Nat}:C prg 126 [.int .i64 (x:Nat),.ptr fb 0] h λv h'=>v=.bool (!(decide (x∈c)))/\Ext h.next h h':=by
 refine Me pf126 ?_;have r1:ak h fb 0 1=some [fv]:=br hg rfl;have hct:=nh (y:=((x:Nat):Int)) (eP hf) (by rw[ah];omega);rw[np]at hct;refine ae (ar (Mi0) ?_);refine ae (bM (aV 2 (Mi1 r1) rfl (Zi1 r1) (Mi1 r1) (hct) λv h1 hq=>?_));obtain⟨rfl,x1⟩:=hq;refine bF (M0) ?_;exact bG ⟨.bool (!(decide (x∈c))),(by simp only[rs,rf126,am,aD,simprocAttr]<;>rfl),rfl,x1⟩
set_option maxHeartbeats 2000000 in
theorem uh{h:AH}{bb n lo:Nat}{ev edv atv:AV}{E:List (Int×Int)}{Bl at':List Nat}{la pa:Nat}{H V:Nat->Bool}{fav:AV}{F:List (List Nat)}{s e:Int}(u:Bu h bb n ev edv E Bl la pa H V fav)(hF:LL h lo fav F)(hFl:F.length<2^30)(hFn:∀c∈F,c.length<2^30)(hat:SlN h atv at')(hal:at'.length<2^30) :
 C prg 98 [.ptr bb 0,.agg [atv,.int .i64 s,.int .i64 e]] h λv h'=>IsSl h' 1 h.next v (nC (fi F at'))/\Ext h.next h h':=by
 refine Me pf98 ?_;have bx:=px (k:=3) (cs:=[atv,.int .i64 s,.int .i64 e]) rfl;have x1:Ext h.next h (h.new (.cells [atv,.int .i64 s,.int .i64 e] 3 false)):=Mb (ab _);have g1:(h.new (.cells [atv,.int .i64 s,.int .i64 e] 3 false)).get h.next=some (.cells [atv,.int .i64 s,.int .i64 e] 3 false):=by rw[AH.get_new,if_pos rfl]
 have n1:(h.new (.cells [atv,.int .i64 s,.int .i64 e] 3 false)).next=h.next+1:=rfl;refine ae (cr (λts h'=>h'=h.new (.cells [atv,.int .i64 s,.int .i64 e] 3 false)/\bz ts 0=.ptr bb 0/\bz ts 3=.ptr h.next 0/\bz ts 4=.nils) (by simp only[am,aD,simprocAttr,bE,hat.cells.1,AV.cells,aq,aK,if_true]) ?_);rintro ts h1 ⟨rfl,e0,e3,e4⟩;generalize h.new (.cells [atv,.int .i64 s,.int .i64 e] 3 false)=h1 at *
 have u1:=u.ext x1 (ab _);have F1:=hF.ext x1 (ab _);have r5:ak h1 bb 5 1=some [fav]:=br u1.o rfl;have lf:=F1.len;refine ae (ae (ar (M3 e0 r5 lf) ?_))
 refine fj (α:=AV) (N:=F.length) (λ_ a=>[(10,fav),(3,.ptr h.next 0),(4,a)])
  (λk a h'=>IsSl h' 1 (h.next+1) a (nC ((List.range k).filter (lZ F at')))/\Ext h.next h h'/\h'.get h.next=some (.cells [atv,.int .i64 s,.int .i64 e] 3 false)/\h.next<h'.next)
  .nils (λ_ _=>rfl) om (H2 e3 e4) ⟨.inl ⟨rfl,rfl⟩,x1,g1,om⟩ ?_ ?_
 .clear e0 e3 e4 r5 lf;rintro k a ts h2 hk ⟨j1,j2,j3,j4⟩ ⟨ei,en,e10,e3,e4,-⟩;have F2:=hF.ext j2 (ab _);obtain⟨b,o,fv,a2,r2,i2,_⟩:=F2.at hk;obtain⟨h3,w3,x3,g3,n3⟩:=iB (h:=h2) (z:=[.nils]) (cs:=[fv]) (e:=1) rfl;refine ae (cr (λts h'=>h'=h3/\Held [(12,.int .i64 (k:Nat)),(11,.int .i64 (F.length:Nat)),(10,fav),(3,.ptr h.next 0),(4,a),(5,.int .i64 (k:Nat)),(6,.ptr h2.next 0)] ts) (by simp only[am,aD,simprocAttr,ei,en,e10,e3,e4,a2,r2,i2.cells.1,i2.cells.2,w3,cm,cI]) ?_);rintro ts h3' ⟨rfl,ei,en,e10,e3,e4,e5,e6,-⟩;have g3p:h3'.get h.next=some (.cells [atv,.int .i64 s,.int .i64 e] 3 false):=by rw[x3.gt _ j4];exact j3
  have rp:ak h3' h.next 0 1=some [atv]:=br g3p rfl;have x3':Ext h.next h h3':=j2.trans (x3.mono om);have hat3:=hat.ext x3' (ab _);have hcl:F[k].length<2^30:=hFn _ (aZ hk);have hFk:F.getD k []=F[k]:=by simp[List.getD,hk]
  have i3:=i2.ext x3 (ab _);have lat:=hat3.len;rw[ah,ah]at lat;have hcf:=DK (h:=h3') (v:=atv) (xs:=at'.map λn=>((n:Nat):Int)) (P:=λz=>!((F[k].map λn=>((n:Nat):Int)).any (z==·))) (k:=126) (caps:=[.ptr h2.next 0]) (λ_ h'=>Ext h3'.next h3' h') (λ_ h'=>Ext h3'.next h3' h') (by rw[lat,ah]) (by rw[ah];omega) Mc (λi h' hx=>hat3.ext hx (ab _)) (λi hi h' hx=>by
   have hi':i<at'.length:=by rw[ah]at hi;exact hi
   have hxi:(at'.map λn=>((n:Nat):Int))[i]=((at'[i]:Nat):Int):=by rw[List.getElem_map]
   rw[hxi];refine(zW (x:=at'[i]) (by rw[hx.gt _ om];exact g3) (i3.ext hx (ab _)) hcl).mono λr h'' hq=>?_;rw[np];refine⟨hq.1,?_⟩;split<;>exact hx.trans (hq.2.mono hx.nx))
  have hany:(at'.map λn=>((n:Nat):Int)).any (λz=>!((F[k].map λn=>((n:Nat):Int)).any (z==·)))=!(lZ F at' k):=by
   rw[List.any_map,lZ,hFk,List.not_all_eq_any_not];congr 1;funext x;simp only[Function.comp];rw[np]
  rw[hany]at hcf;refine ae (bM (aV 3 (M3 e3 rp e6) rfl (Z3 e3 rp e6) (M3 e3 rp e6) (hcf) λv h4 hq=>?_));obtain⟨rfl,hx⟩:=hq;have x4:Ext h3'.next h3' h4:=by
   rcases hx with⟨_,h⟩|⟨_,_,h⟩<;>exact h
  have x4':Ext h.next h h4:=x3'.trans (x4.mono (by have:=x3'.nx;omega));have j14:IsSl h4 1 (h.next+1) a (nC ((List.range k).filter (lZ F at'))):=(j1.ext x3 (ab _)).ext x4 (ab _);have n4:=x4.nx;have g4p:h4.get h.next=some (.cells [atv,.int .i64 s,.int .i64 e] 3 false):=by rw[x4.gt _ om];exact g3p
  cases hA:lZ F at' k with
  |false =>
    refine bF (by simp only[am,aD,simprocAttr,cj,cz]<;>rfl) ?_;refine dQ (by simp only[am,aD,simprocAttr,cj,cz]) (bK ?_);exact⟨a,⟨by rw[ee,dW];simpa[hA]using j14,x4',g4p,om⟩,H5 ei en e10 e3 e4⟩
  |true =>
    refine bF (by simp only[am,aD,simprocAttr,cj,cz]<;>rfl) ?_;refine dg (by simp only[am,aD,simprocAttr,cj,cz]) ?_;have hll:((List.range k).filter (lZ F at')).length<2^34:=by
     have:=dP (lZ F at') (List.range k);rw[cN]at this;omega
    obtain⟨v',h5,a5,i5,x5,n5,_,_⟩:=IsSl.grow j14 om hll k;refine cr (λts h'=>h'=h5/\Held [(12,.int .i64 (k:Nat)),(11,.int .i64 (F.length:Nat)),(10,fav),(3,.ptr h.next 0),(4,v')] ts) (by simp only[am,aD,simprocAttr,ei,en,e10,e3,e4,e5,a5,cm,cI]) ?_;rintro ts h5' ⟨rfl,hh⟩;exact⟨v',⟨by rw[ee,dW];simpa[hA]using i5,x4'.trans (x5.mono om),by rw[x5.gt _ om];exact g4p,om⟩,hh⟩
 .rintro a ts h2 ⟨j1,j2,j3,j4⟩ ⟨e10,e3,e4,-⟩;refine ae (ar (M1 e4) ?_);exact bG ⟨a,(by simp only[rs,rf98,am,aD,simprocAttr,e4]<;>rfl),j1.mono om,j2⟩
end Go.Proofs.YtmibmlioidpogaaGreatDoor
namespace Go.Pla
open Go.Blk
variable {g:Gr}{Bl:List Nat}{H V:Nat->Bool}{pt:Nat->Nat}{e0 y1 y2:Nat}{i:List Nat}
structure Thr(g:Gr)(Bl:List Nat)(H V:Nat->Bool)(pt:Nat->Nat)(e0:Nat)(y1 y2:Nat)(i:List Nat):Prop where
 ch:Ch g Bl (y1::i++[y2])
 nd:(y1::i++[y2]).Nodup
 fr:∀z∈i,V z=false
 v1:V y1=true
 v2:V y2=true
 new:i=[]->∀e∈Bl,jn g e y1 y2=true->H e=false
 part:∀e∈Bl,On g (y1::i++[y2]) e->pt e=pt e0
theorem yi{x y u v:Nat}{a b:List Nat}(hi:i≠[])(h1:x::i++[y]=a++u::v::b):u∈i\/v∈i:=by
 obtain⟨q,i',rfl⟩:=eO hi;cases a with
 |nil =>
   simp only[aW,aB]at h1;injection h1 with h3 h4;injection h4 with h4 _;subst h4;exact .inr (by simp)
 |cons c a =>
   simp only[aB]at h1;injection h1 with h3 h4;have:u∈q::i':=by
    have h5:(q::i'++[y]).dropLast=q::i':=xm;rw[<-h5,show q::i'++[y]=(a++[u])++(v::b) by rw[aB,h4];simp,eV (by simp)];simp
   exact .inl this
theorem thr_edge(p:Pln g Bl){k:Nat}(hk:k∈Bl)(hH:H k=false)(h1:V (g.tl k)=true)(h2:V (g.hd k)=true):Thr g Bl H V pt k (g.tl k) (g.hd k) []:=by
 have jk:jn g k (g.tl k) (g.hd k)=true:=by rw[jn_iff];exact .inl ⟨rfl,rfl⟩
 refine⟨⟨⟨k,hk,jk⟩,trivial⟩,by simp[p.ne hk],by simp,h1,h2,λ_ e he hj=>by rw[p.one e he k hk _ _ hj jk];exact hH,λe he ho=>?_⟩;obtain⟨a,u,v,b,h3,h4⟩:=ho;have hl:=congrArg List.length h3;cases a with
 |nil =>
   simp only[aW,aB]at h3;injection h3 with h5 h6;injection h6 with h6 _;subst h5 h6;rw[p.one e he k hk _ _ h4 jk]
 |cons c a=>simp at hl;omega
theorem thr_mid(p:Pln g Bl)(hV:Plc g Bl H V)(P:Part g Bl H pt){x0:Nat}{F:List (Nat×Nat)}(d:Deep g Bl H V x0 F)(h0:V x0=false)(he0:e0∈Bl)(ha0:at_ g e0 x0=true)(v1:V y1=true)(v2:V y2=true)(nd:(y1::i++[y2]).Nodup)(ch:Ch g Bl (y1::i++[y2]))(hi:i≠[])(hin:∀z∈i,z∈ks F/\V z=false):Thr g Bl H V pt e0 y1 y2 i:=by
 refine⟨ch,nd,λz hz=>(hin z hz).2,v1,v2,λh=>absurd h hi,λe he ho=>?_⟩;obtain⟨a,u,v,b,h1,h2⟩:=ho;have key:∀z∈i,at_ g e z=true->pt e=pt e0:=λz hz ha=>FQ p hV P h0 he0 ha0 F.length (ab _) d.met z (hin z hz).1 (hin z hz).2 e he ha;rcases yi hi h1 with h|h
 .exact key u h (by rw[p.jat he h2];simp[Ne.symm (p.jne he h2)])
 .exact key v h (by rw[p.jat he h2];simp[p.jne he h2])
theorem Thr.fresh(p:Pln g Bl)(hV:Plc g Bl H V)(t:Thr g Bl H V pt e0 y1 y2 i):∀e∈Bl,On g (y1::i++[y2]) e->H e=false:=λe he ho=>by
 obtain⟨a,u,v,b,h1,h2⟩:=ho;by_cases hi:i=[]
 .subst hi;have hl:=congrArg List.length h1;cases a with
  |nil =>
    simp only[aW,aB]at h1;injection h1 with h5 h6;injection h6 with h6 _;subst h5 h6;exact t.new rfl e he h2
  |cons c a=>simp at hl;omega
 .rcases yi hi h1 with h|h
  .exact hV.fresh (t.fr u h) e he (by rw[p.jat he h2];simp[Ne.symm (p.jne he h2)])
  .exact hV.fresh (t.fr v h) e he (by rw[p.jat he h2];simp[p.jne he h2])
theorem Thr.ends(p:Pln g Bl)(hV:Plc g Bl H V)(t:Thr g Bl H V pt e0 y1 y2 i):Hg g Bl H pt (pt e0) y1/\Hg g Bl H pt (pt e0) y2:=by
 have fresh:=t.fresh p hV;have go:∀{a b:List Nat}{u v:Nat},y1::i++[y2]=a++u::v::b->(∃e∈Bl,jn g e u v=true)->(V u=true->Hg g Bl H pt (pt e0) u)/\(V v=true->Hg g Bl H pt (pt e0) v):=fun {a b u v} h ⟨e,he,hj⟩=>by
  have ho:On g (y1::i++[y2]) e:=⟨a,u,v,b,h,hj⟩
  refine⟨λhv=>?_,λhv=>?_⟩
  .obtain⟨j,hj',ha,hH⟩:=(hV u).1 hv;exact⟨e,he,fresh e he ho,t.part e he ho,by rw[p.jat he hj];simp[Ne.symm (p.jne he hj)],j,hj',ha,hH⟩
  .obtain⟨j,hj',ha,hH⟩:=(hV v).1 hv;exact⟨e,he,fresh e he ho,t.part e he ho,by rw[p.jat he hj];simp[p.jne he hj],j,hj',ha,hH⟩
 have hch:=t.ch;constructor
 .cases i with
  |nil=>exact(go (a:=[]) rfl hch.1).1 t.v1
  |cons q i=>exact(go (a:=[]) rfl hch.1).1 t.v1
 .rcases cU i with rfl|⟨i',q,rfl⟩
  .exact(go (a:=[]) rfl hch.1).2 t.v2
  .have e1:y1::(i'.concat q)++[y2]=(y1::i')++q::[y2]:=by simp
   rw[e1,im]at hch;exact(go e1 hch.2.1).2 t.v2
end Go.Pla
namespace Go.Proofs.YtmibmlioidpogaaGreatDoor
open Go.Am
open Go.Pla (at_ jn On Part Plc Hg Pln Bond Link tr full ks Hit Ch Thr)
variable {A bb n pa:Nat}{E:List (Int×Int)}{edv ev fav:AV}{h:AH}
theorem uf{Bl:List Nat}{la:Nat}{H V:Nat->Bool}(u:Bu h bb n ev edv E Bl la pa H V fav)(hg:h.get A=some (.cells [.ptr bb 0] 1 false)){y:Nat}(hy:y<n):C prg 127 [.int .i64 (y:Nat),.ptr A 0] h λv h'=>v=.bool (!(V y))/\Ext h.next h h':=by
 refine Me pf127 ?_;have r1:ak h A 0 1=some [.ptr bb 0]:=br hg rfl;have r4:ak h bb 4 1=some [.sl pa 0 n n]:=br u.o rfl;have iy:gh ((y:Nat):Int) n=some y:=dL hy;have rv:ak h pa y 1=some [.bool (V y)]:=br u.v (mD hy);refine ae (ar (Mi0) ?_);refine ae (cr (λts h'=>h'=h/\bz ts 3=.bool (!(V y))) (by simp only[am,aD,simprocAttr,bE,r1,r4,iy,aM,rv]) ?_);rintro ts h' ⟨rfl,e3⟩;exact bG ⟨.bool (!(V y)),(by simp only[rs,rf127,am,aD,simprocAttr,e3]<;>rfl),rfl,Mc⟩
theorem CV{Bl:List Nat}{la:Nat}{H V:Nat->Bool}(u:Bu h bb n ev edv E Bl la pa H V fav)(hg:h.get A=some (.cells [.ptr bb 0] 1 false)){y:Nat}(hy:y<n):C prg 128 [.int .i64 (y:Nat),.ptr A 0] h λv h'=>v=.bool (V y)/\Ext h.next h h':=by
 refine Me pf128 ?_;have r1:ak h A 0 1=some [.ptr bb 0]:=br hg rfl;have r4:ak h bb 4 1=some [.sl pa 0 n n]:=br u.o rfl;have iy:gh ((y:Nat):Int) n=some y:=dL hy;have rv:ak h pa y 1=some [.bool (V y)]:=br u.v (mD hy);refine ae (ar (Mi0) ?_);refine ae (cr (λts h'=>h'=h/\bz ts 3=.bool (V y)) (by simp only[am,aD,simprocAttr,bE,r1,r4,iy,aM,rv]) ?_);rintro ts h' ⟨rfl,e3⟩;exact bG ⟨.bool (V y),(by simp only[rs,rf128,am,aD,simprocAttr,e3]<;>rfl),rfl,Mc⟩
theorem CU{B y1:Nat}{Bl:List Nat}{la:Nat}{H V:Nat->Bool}(u:Bu h bb n ev edv E Bl la pa H V fav)(hg:h.get A=some (.cells [.ptr bb 0] 1 false))(hb:h.get B=some (.cells [.int .i64 (y1:Nat)] 1 false)){y:Nat}(hy:y<n):C prg 129 [.int .i64 (y:Nat),.ptr A 0,.ptr B 0] h λv h'=>v=.bool (V y&&!(decide (y=y1)))/\Ext h.next h h':=by
 refine Me pf129 ?_;have r1:ak h A 0 1=some [.ptr bb 0]:=br hg rfl;have r2:ak h B 0 1=some [.int .i64 (y1:Nat)]:=br hb rfl;have r4:ak h bb 4 1=some [.sl pa 0 n n]:=br u.o rfl;have iy:gh ((y:Nat):Int) n=some y:=dL hy;have rv:ak h pa y 1=some [.bool (V y)]:=br u.v (mD hy);have d1:decide (((y:Nat):Int)=((y1:Nat):Int))=decide (y=y1):=by rw[decide_eq_decide];omega
 refine ae (ar (Mi0) ?_);cases hv:V y with
 |false =>
   rw[hv]at rv;refine ae (cr (λts h'=>h'=h/\bz ts 4=.bool false) (by simp only[am,aD,simprocAttr,bE,r1,r4,iy,aM,rv]) ?_);rintro ts h' ⟨rfl,e4⟩;exact bG ⟨.bool false,(by simp only[rs,rf129,am,aD,simprocAttr,e4]<;>rfl),rfl,Mc⟩
 |true =>
   rw[hv]at rv;refine ae (cr (λts h'=>h'=h/\bz ts 4=.bool (!(decide (y=y1)))) (by simp only[am,aD,simprocAttr,bE,r1,r2,r4,iy,aM,rv,d1]) ?_);rintro ts h' ⟨rfl,e4⟩;exact bG ⟨.bool (!(decide (y=y1))),(by simp only[rs,rf129,am,aD,simprocAttr,e4]<;>rfl),by simp,Mc⟩
set_option maxHeartbeats 4000000 in
theorem Fm{lo:Nat}{atv:AV}{Bl:List Nat}{la:Nat}{H V:Nat->Bool}(u:Bu h bb n ev edv E Bl la pa H V fav)(hE:InG n E)(hL:∀i,i<E.length->tlE E i≠hdE E i)(hn:n<2^30)(hm:E.length<2^30)(hB:∀i∈Bl,i<E.length)(hBn:Bl.length<2^30)
 (hp:Pln (grE n E hE hL) Bl) (hb:Bond (grE n E hE hL) Bl) (hl:Link (grE n E hE hL) Bl) (hV:Plc (grE n E hE hL) Bl H V) {pt:Nat->Nat} (P:Part (grE n E hE hL) Bl H pt) (hex:∃j∈Bl,H j=true) {p:Pc}{e0:Nat} (hof:Of (grE n E hE hL) Bl H V pt p e0) (hat:IsSl h 1 lo atv (nC p.1)) (hlo:la<lo/\pa<lo) :
 C prg 99 [.ptr bb 0,.agg [atv,.int .i64 p.2.1,.int .i64 p.2.2]] h λv h'=>Ext h.next h h'/\∃y1 y2 i,SlN h' v (y1::i++[y2])/\Off (λc=>c<lo/\c<h.next) v/\Thr (grE n E hE hL) Bl H V pt e0 y1 y2 i:=by
 have hBg:∀i∈Bl,i<(grE n E hE hL).m:=hB;refine Me pf99 ?_;have x1:Ext h.next h (h.new (.cells [.ptr bb 0] 1 false)):=Mb (ab _);have g1:(h.new (.cells [.ptr bb 0] 1 false)).get h.next=some (.cells [.ptr bb 0] 1 false):=by rw[AH.get_new,if_pos rfl]
 have n1:(h.new (.cells [.ptr bb 0] 1 false)).next=h.next+1:=rfl;obtain⟨h1,hh1⟩:∃h1,h1=h.new (.cells [.ptr bb 0] 1 false):=⟨_,rfl⟩
 rw[<-hh1]at x1 g1 n1;have x2:Ext h1.next h1 (h1.new (.cells [atv,.int .i64 p.2.1,.int .i64 p.2.2] 3 false)):=Mb (ab _);have g2:(h1.new (.cells [atv,.int .i64 p.2.1,.int .i64 p.2.2] 3 false)).get h1.next=some (.cells [atv,.int .i64 p.2.1,.int .i64 p.2.2] 3 false):=by rw[AH.get_new,if_pos rfl]
 have n2:(h1.new (.cells [atv,.int .i64 p.2.1,.int .i64 p.2.2] 3 false)).next=h1.next+1:=rfl;refine ae (cr (λts h'=>h'=h1.new (.cells [atv,.int .i64 p.2.1,.int .i64 p.2.2] 3 false)/\bz ts 2=.ptr h.next 0/\bz ts 3=.ptr (h.next+1) 0) (by simp only[am,aD,simprocAttr,bE,hat.cells.1,AV.cells,aq,aK,if_true,AH.next_new,hh1]) ?_);rintro ts h2 ⟨rfl,e2,e3⟩;generalize h1.new (.cells [atv,.int .i64 p.2.1,.int .i64 p.2.2] 3 false)=h2 at *
 rw[n1]at g2 n2;have x12:Ext h.next h h2:=x1.trans (x2.mono om);have gA2:h2.get h.next=some (.cells [.ptr bb 0] 1 false):=by rw[x2.gt _ om];exact g1
 have u2:=u.ext x12 (ab _);have hat2:=hat.ext x12 (ab _);have rsm:ak h2 (h.next+1) 1 1=some [.int .i64 p.2.1]:=br g2 rfl;have ra:ak h2 (h.next+1) 0 1=some [atv]:=br g2 rfl;rcases hof.kind with⟨k1,k2,k3,k4⟩|⟨x0,k1,k2,k3,k4⟩
 .have dz:decide (p.2.1<0)=true:=by rw[k1];rfl
  refine ae (ae (ar (M3 e3 rsm dz) ?_));refine dg (Z1 dz) ?_;refine ae (cr (λts h'=>h'=h2/\bz ts 4=atv) (by simp only[am,aD,simprocAttr,e3,ra]) ?_);rintro ts h2' ⟨rfl,e4⟩;refine bG ⟨atv,(by simp only[rs,rf99,am,aD,simprocAttr,e4]<;>rfl),x12,_,_,[],?_,IsSl.off hat λc hc=>hc.1,Go.Pla.thr_edge hp hof.mem hof.new k2 k3⟩;have:=eP hat2;rw[k4]at this;exact this
 .have dz:decide (p.2.1<0)=false:=by rw[k1,aO];omega
  refine ae (ae (ar (M3 e3 rsm dz) ?_));refine dQ (Z1 dz) (bK ?_);rw[k1]at rsm;have k2:x0<n:=k2;refine ae (ar (M1 e2) ?_);obtain⟨F,hF⟩:∃F,F=full (grE n E hE hL) Bl H (λz=>!(V z)) (n+1) ([(x0,x0)],[x0]):=⟨_,rfl⟩
  have hdeep:Go.Pla.Deep (grE n E hE hL) Bl H V x0 F:=by rw[hF];exact Go.Pla.deep_full hp hV k3 k2 (Nat.le_succ _)
  have rA:ak h2 h.next 0 1=some [.ptr bb 0]:=br gA2 rfl;have hw1:=rW u2 hE hL hn hm hB hBn k2 (ke:=128) (kt:=127) (ce:=[.ptr h.next 0]) (ct:=[.ptr h.next 0]) (fin:=V) (thr:=λz=>!(V z)) (λy hy h' x'=>CV (u2.ext x' (ab _)) (by rw[x'.gt _ om];exact gA2) hy) (λy hy h' x'=>uf (u2.ext x' (ab _)) (by rw[x'.gt _ om];exact gA2) hy);rw[<-hF]at hw1;refine ae (bM (aV 5 (M4 e2 e3 rA rsm) rfl (Z4 e2 e3 rA rsm) (M4 e2 e3 rA rsm) (hw1) λfv h3 hq=>?_));obtain⟨x3,o1,hit1,res1⟩:=hq;refine bF (M0) ?_;obtain⟨y1,ho1,hy1,hv1⟩:=Go.Pla.first_end hp hl hV hdeep k3 hof.mem k4 hex hit1;subst ho1;have res1:IsSl h3 1 h2.next fv (nC (tr F y1)):=res1;have x3':Ext h.next h h3:=x12.trans (x3.mono x12.nx);obtain⟨t1,q1,q2,q3,q4,q5⟩:=Go.Pla.tr_ok F.length (ab _) hdeep.met y1 hy1;obtain⟨s1,hs1⟩:=Go.Pla.lst_cat (r:=x0) (t:=t1);rw[q2]at hs1;have hp1:tr F y1=s1++[y1]:=by rw[q1,hs1]
  have hFl:F.length<=n:=by
   have:=Go.Pla.nd_lt hdeep.met.nd (hdeep.met.lt hBg k2);rw[ks,ah]at this;exact this
  have L1:(tr F y1).length<=n:=cw (Go.Pla.tr_len F y1) hFl;have lf:=(eP res1).len;rw[ah,ah]at lf;have hp1l:(tr F y1).length=s1.length+1:=by rw[hp1];simp
  have ws1:IntKind.i64.wrap (((tr F y1).length:Nat)-(1:Int))=((s1.length:Nat):Int):=by
   have:(((tr F y1).length:Nat):Int)-1=((s1.length:Nat):Int):=om;rw[this];exact fW om om
  obtain⟨b6,o6,a6,r6,_⟩:=(eP res1).at1 (i:=s1.length) (y:=.int .i64 (y1:Nat)) (by
   rw[aE,aE,hp1,aX (ab _),eF];rfl)
  obtain⟨h4,w4,x4,g4,n4⟩:=iB (h:=h3) (z:=[.int .i64 0]) (cs:=[.int .i64 (y1:Nat)]) (e:=1) rfl;refine ae (cr (λts h'=>h'=h4/\bz ts 2=.ptr h.next 0/\bz ts 3=.ptr (h.next+1) 0/\bz ts 5=.fn 127 [.ptr h.next 0]/\bz ts 6=fv/\bz ts 7=.ptr h3.next 0) (by simp only[am,aD,simprocAttr,e2,e3,lf,ws1,a6,r6,w4]) ?_);rintro ts h4' ⟨rfl,e2,e3,e5,e6,e7⟩;have n3:=x3.nx;have x4':Ext h.next h h4':=x3'.trans (x4.mono om);have u4:=u.ext x4' (ab _);have gA4:h4'.get h.next=some (.cells [.ptr bb 0] 1 false):=by rw[x4.gt _ om,x3.gt _ om];exact gA2
  have gB4:h4'.get (h.next+1)=some (.cells [atv,.int .i64 p.2.1,.int .i64 p.2.2] 3 false):=by rw[x4.gt _ om,x3.gt _ om];exact g2
  have rA4:ak h4' h.next 0 1=some [.ptr bb 0]:=br gA4 rfl;have rs4:ak h4' (h.next+1) 1 1=some [.int .i64 p.2.1]:=br gB4 rfl;rw[k1]at rs4;have hw2:=rW u4 hE hL hn hm hB hBn k2 (ke:=129) (kt:=127) (ce:=[.ptr h.next 0,.ptr h3.next 0]) (ct:=[.ptr h.next 0]) (fin:=λy=>V y&&!(decide (y=y1))) (thr:=λz=>!(V z)) (λy hy h' x'=>CU (u4.ext x' (ab _)) (by rw[x'.gt _ om];exact gA4) (by rw[x'.gt _ om];exact g4) hy) (λy hy h' x'=>uf (u4.ext x' (ab _)) (by rw[x'.gt _ om];exact gA4) hy);rw[<-hF]at hw2;refine ae (bM (aV 5 (M6 e2 e3 e5 e7 rA4 rs4) rfl (Z6 e2 e3 e5 e7 rA4 rs4) (M6 e2 e3 e5 e7 rA4 rs4) (hw2) λsv h5 hq=>?_));obtain⟨x5,o2,hit2,res2⟩:=hq;refine bF (M0) ?_;obtain⟨y2,ho2,hy2,hv2,hne⟩:=Go.Pla.second_end hp hb hV hdeep k3 hy1 hv1 hit2;subst ho2;have res2:IsSl h5 1 h4'.next sv (nC (tr F y2)):=res2;have x5':Ext h.next h h5:=x4'.trans (x5.mono om);obtain⟨t2,r1,r2,r3,r4,r5⟩:=Go.Pla.tr_ok F.length (ab _) hdeep.met y2 hy2;have L2:(tr F y2).length<=n:=cw (Go.Pla.tr_len F y2) hFl;have res1':=(res1.ext x4 (ab _)).ext x5 (ab _);have lf:=(eP res1').len;rw[ah,ah]at lf;have ls:=(eP res2).len;rw[ah,ah]at ls;refine ae (ar (M0) ?_);obtain⟨P1,hP1⟩:∃P1,P1=tr F y1:=⟨_,rfl⟩
  obtain⟨P2,hP2⟩:∃P2,P2=tr F y2:=⟨_,rfl⟩
  rw[<-hP1]at res1' lf L1 q1 hp1 hp1l;rw[<-hP2]at res2 ls L2 r1;have at0:P1[0]?=some x0/\P2[0]?=some x0:=by rw[q1,r1];exact⟨rfl,rfl⟩
  refine ae (pA (λts h'=>h'=h5/\bz ts 6=fv/\bz ts 8=sv/\∃k,bz ts 9=.int .i64 (k:Nat)/\k<=P1.length/\k<=P2.length/\P1.take k=P2.take k/\(k<P1.length->k<P2.length->P1[k]?≠P2[k]?)) ?_ ?_)
  .refine cE (fI (λm ts h'=>h'=h5/\bz ts 6=fv/\bz ts 8=sv/\∃k,m=P1.length-k/\bz ts 9=.int .i64 (k:Nat)/\k<=P1.length/\k<=P2.length/\P1.take k=P2.take k) ?_ (n:=P1.length) ⟨rfl,Z1 e6,Z0,0,rfl,Z1 @dj,dA _,dA _,by simp⟩);rintro m ts h' ⟨rfl,e6,e8,k,rfl,e9,hk1,hk2,htk⟩;by_cases c1:k<P1.length
   .have d1:decide (((k:Nat):Int)<((P1.length:Nat):Int))=true:=by rw[aI];omega
    by_cases c2:k<P2.length
    .have d2:decide (((k:Nat):Int)<((P2.length:Nat):Int))=true:=by rw[aI];omega
     obtain⟨b7,o7,a7,r7,_⟩:=(eP res1').at1 (i:=k) (y:=.int .i64 (P1[k]:Nat)) (by rw[aE,aE,ai c1];rfl);obtain⟨b8,o8,a8,r8,_⟩:=(eP res2).at1 (i:=k) (y:=.int .i64 (P2[k]:Nat)) (by rw[aE,aE,ai c2];rfl);by_cases c3:P1[k]=P2[k]
     .have d3:decide (((P1[k]:Nat):Int)=((P2[k]:Nat):Int))=true:=by rw[aI,c3]
      refine ae (ae (ar (M12 e9 e6 e8 lf ls d1 d2 a7 r7 a8 r8 d3) ?_));refine dg (Z1 d3) (bK (cE ?_));have wk:IntKind.i64.wrap (((k:Nat):Int)+1)=((k+1:Nat):Int):=fW om om;refine cr (λts h''=>h''=h'/\bz ts 6=fv/\bz ts 8=sv/\bz ts 9=.int .i64 ((k+1:Nat):Int)) (by simp only[am,aD,simprocAttr,e6,e8,e9,wk]) ?_;rintro ts h'' ⟨rfl,e6,e8,e9⟩;exact⟨_,om,rfl,e6,e8,k+1,rfl,e9,om,om,by rw[fB,fB,htk,ai c1,ai c2,c3]⟩
     .have d3:decide (((P1[k]:Nat):Int)=((P2[k]:Nat):Int))=false:=by rw[aO];omega
      refine ae (ae (ar (M12 e9 e6 e8 lf ls d1 d2 a7 r7 a8 r8 d3) ?_));refine dQ (Z1 d3) (fh ⟨λ_=>⟨rfl,Z1 e6,Z1 e8,k,Z1 e9,hk1,hk2,htk,λh1 h2=>by
       rw[ai h1,ai h2];simpa using c3⟩,λe=>absurd rfl e⟩)
    .have d2:decide (((k:Nat):Int)<((P2.length:Nat):Int))=false:=by rw[aO];omega
     refine ae (ae (ar (M7 e9 e6 e8 lf ls d1 d2) ?_));exact dQ (Z1 d2) (fh ⟨λ_=>⟨rfl,Z1 e6,Z1 e8,k,Z1 e9,hk1,hk2,htk,λ_ h2=>absurd h2 c2⟩,λe=>absurd rfl e⟩)
   .have d1:decide (((k:Nat):Int)<((P1.length:Nat):Int))=false:=by rw[aO];omega
    refine ae (ae (ar (M6 e9 e6 e8 lf ls d1) ?_));exact dQ (Z1 d1) (fh ⟨λ_=>⟨rfl,Z1 e6,Z1 e8,k,Z1 e9,hk1,hk2,htk,λh1 _=>absurd h1 c1⟩,λe=>absurd rfl e⟩)
  .clear e2 e3 e5 e6 e7;rintro ts h5' ⟨rfl,e6,e8,k,e9,hk1,hk2,htk,hend⟩;have hk0:0<k:=by
    refine Nat.pos_of_ne_zero λh0=>?_;subst h0;have l1:0<P1.length:=by rw[q1];simp
    have l2:0<P2.length:=by rw[r1];simp
    exact hend l1 l2 (by rw[at0.1,at0.2])
   obtain⟨k',rfl⟩:∃k',k=k'+1:=⟨k-1,om⟩
   have c1:k'<P1.length:=om;have c2:k'<P2.length:=om;have hv:P1[k']=P2[k']:=by
    have h1:(P1.take (k'+1))[k']?=(P2.take (k'+1))[k']?:=by rw[htk]
    rw[cF,cF,if_pos om,if_pos om,ai c1,ai c2]at h1;injection h1
   have e1:P1=P1.take k'++P1[k']::P1.drop (k'+1):=by rw[<-bT c1,cT]
   have e2:P2=P1.take k'++P1[k']::P2.drop (k'+1):=by
    have h1:P1.take k'=P2.take k':=by
     have:=congrArg (List.take k') htk;rw[xg,xg,dZ om]at this;exact this
    rw[h1,hv,<-bT c2,cT]
   obtain⟨c,hc⟩:∃c,c=P1.take k':=⟨_,rfl⟩
   obtain⟨v,hv'⟩:∃v,v=P1[k']:=⟨_,rfl⟩
   obtain⟨a,ha⟩:∃a,a=P1.drop (k'+1):=⟨_,rfl⟩
   obtain⟨b,hb'⟩:∃b,b=P2.drop (k'+1):=⟨_,rfl⟩
   rw[<-hc,<-hv',<-ha]at e1;rw[<-hc,<-hv',<-hb']at e2;have hdiff:∀z a' b',a=z::a'->b=z::b'->False:=λz a' b' h1 h2=>by
    have l1:k'+1<P1.length:=by
     have:=congrArg List.length (ha▸h1:P1.drop (k'+1)=z::a');rw[cH,aq]at this;omega
    have l2:k'+1<P2.length:=by
     have:=congrArg List.length (hb'▸h2:P2.drop (k'+1)=z::b');rw[cH,aq]at this;omega
    refine hend l1 l2 ?_;have h3:(P1.drop (k'+1))[0]?=some z:=by rw[<-ha,h1];rfl
    have h4:(P2.drop (k'+1))[0]?=some z:=by rw[<-hb',h2];rfl
    rw[eN]at h3 h4;rw[eG]at h3 h4;rw[h3,h4]
   obtain⟨i,m1,m2,m3,m4,m5⟩:=Go.Pla.mid_way hp hV hdeep k3 hy1 hy2 hv1 hv2 hne (hP1▸e1) (hP2▸e2) hdiff;have hThr:=Go.Pla.thr_mid (pt:=pt) (e0:=e0) hp hV P hdeep k3 hof.mem k4 hv1 hv2 m2 m3 m4 m5;have hPl:P1.length=c.length+1+a.length:=by rw[e1,aC,aq];omega
   have hcl:c.length=k':=by rw[hc,bB];omega
   rcases res1' with⟨_,hz⟩|⟨b1,nn,hb1,rfl,gb1,hl1⟩
   .have:=congrArg List.length hz;rw[jj,aK]at this;omega
   rw[jj,aM]at hl1;subst hl1;have wk:IntKind.i64.wrap (((k'+1:Nat):Int)-1)=((k':Nat):Int):=by
    have:((k'+1:Nat):Int)-1=((k':Nat):Int):=om;rw[this];exact fW om om
   have st:=xJ (L:=P1.length) (k:=k') (c:=P1.length) gb1 c1 (ab _) (Nat.le_of_lt c1);rw[aM]at st;refine ae (cr (λts h'=>h'=h5'/\bz ts 6=.sl b1 k' (P1.length-k') (P1.length-k')/\bz ts 8=sv/\bz ts 9=.int .i64 ((k'+1:Nat):Int)) (by simp only[am,aD,simprocAttr,cY,bh,e6,e8,e9,wk,st]) ?_);rintro ts h5'' ⟨rfl,e6,e8,e9⟩;obtain⟨d,hd⟩:∃d:Array Int,d=((v::a).map λn=>((n:Nat):Int)).toArray:=⟨_,rfl⟩
   have hds:d.size=P1.length-k':=by rw[hd];simp;omega
   have hdi:ij d=nC (v::a):=by rw[hd,nC,kV];rfl
   have hn1:nC P1=nC c++nC (v::a):=by rw[<-vO,<-e1]
   have hsp:dH (nC P1) k' (ij d)=nC P1:=by
    refine mL ?_ ?_
    .rw[gR,jj,hds];omega
    .rw[hn1,HO,jj,hcl,eF,bQ,cW (by rw[jj];omega),aW,hdi];exact cB (ab _)
   have gb1':h5''.get b1=some (lA (nC P1) k' d):=by rw[lA,hsp];exact gb1
   have hrev:=oj (c:=P1.length-k') gb1' (by rw[jj,hds];omega) (by rw[hds];omega);rw[hds]at hrev;refine ae (bM (aV 1 (M1 e6) rfl (Z1 e6) (M1 e6) (hrev) λv6 h6 hq=>?_));refine bF (M0) ?_;have hb1lt:b1<h4'.next:=by
    have:=res1.lt (b:=b1) (o:=0) (n:=P1.length) (c:=P1.length) rfl;omega
   have s6:SlI h6 (.sl b1 k' (P1.length-k') (P1.length-k')) d.reverse.toList:=by
    have:=Hs (c:=P1.length-k') hq.get (by rw[jj];simp;omega) (by simp;omega);rwa [show d.reverse.size=P1.length-k' by simp;omega]at this
   have res26:IsSl h6 1 h4'.next sv (nC P2):=res2.cong λb m e hb=>hq.ne om;obtain⟨sv',st2,ssv,_,_⟩:=(eP res26).from (lo:=k'+1) (by rw[ah,ah];exact hk2);have hdrop:((P2.map λn=>((n:Nat):Int)).map eI).drop (k'+1)=(b.map λn=>((n:Nat):Int)).map eI:=by rw[hb',<-ez,<-ez]
   rw[hdrop]at ssv;have x7:Ext h6.next h6 (h6.new (.cells [.sl b1 k' (P1.length-k') (P1.length-k'),sv'] 1 false)):=Mb (ab _);have g7:(h6.new (.cells [.sl b1 k' (P1.length-k') (P1.length-k'),sv'] 1 false)).get h6.next=some (.cells [.sl b1 k' (P1.length-k') (P1.length-k'),sv'] 1 false):=by rw[AH.get_new,if_pos rfl]
   have n7:(h6.new (.cells [.sl b1 k' (P1.length-k') (P1.length-k'),sv'] 1 false)).next=h6.next+1:=rfl;have rp2:cA [AV.nils] 2=[.nils,.nils]:=rfl;have hrl:d.reverse.toList=((v::a).reverse).map λn=>((n:Nat):Int):=by rw[hd];simp
   have hcat:=oL (h:=h6.new (.cells [.sl b1 k' (P1.length-k') (P1.length-k'),sv'] 1 false)) (v:=.sl h6.next 0 2 2) (vs:=[.sl b1 k' (P1.length-k') (P1.length-k'),sv']) (xss:=[((v::a).reverse).map λn=>((n:Nat):Int),b.map λn=>((n:Nat):Int)]) (Ma g7 rfl (ab _)) rfl (λi w xs h1 h2=>by
    have hi:i=0\/i=1:=by
     have:=(aG.1 h1).1;simp at this;omega
    rcases hi with rfl|rfl
    .simp only[aP,aa]at h1 h2;subst h1 h2;rw[<-hrl];exact s6.ext x7 (ab _)
    .simp only[bP,aP,aa]at h1 h2;subst h1 h2;exact Sl.ext ssv x7 (ab _)) (by simp) (by
    have h1:b.length<=P2.length:=by rw[hb',cH];omega
    simp only[fD,fk,bW,aC,ah,List.length_reverse,aq];omega)
   refine ae (bM (aV 5 (by simp only[am,aD,simprocAttr,cY,bh,e6,e8,e9,st2,ssv.cells.1,ssv.cells.2,rp2,aq,aK,cQ,bQ,Nat.reduceAdd,Nat.reduceLeDiff,if_true]<;>rfl) rfl (by simp only[am,aD,simprocAttr,cY,bh,e6,e8,e9,st2,ssv.cells.1,ssv.cells.2,rp2,aq,aK,cQ,bQ,Nat.reduceAdd,Nat.reduceLeDiff,if_true]) (by simp only[am,aD,simprocAttr,cY,bh,e6,e8,e9,st2,ssv.cells.1,ssv.cells.2,rp2,aq,aK,cQ,bQ,Nat.reduceAdd,Nat.reduceLeDiff,if_true]<;>rfl) (hcat) λrv h8 hq8=>?_));obtain⟨i8,x8⟩:=hq8;refine bF (M0) ?_;have n6:=hq.nx;have n5:=x5.nx;have hfl:([((v::a).reverse).map λn=>((n:Nat):Int),b.map λn=>((n:Nat):Int)].flatten).flatMap eI=nC (y1::i++[y2]):=by
    rw[<-m1,nC];congr 1;simp
   rw[hfl,n7]at i8;refine bG ⟨rv,(by simp only[rs,rf99,am,aD,simprocAttr]<;>rfl),?_,y1,y2,i,eP i8,IsSl.off i8 λc hc=>?_,hThr⟩
   .exact x5'.trans (((hq.ext (show h.next<=b1 by have:=x12.nx;omega)).trans (x7.mono om)).trans (x8.mono (by rw[n7];omega)))
   .have l1:=AH.lt_of_get u.l;have l2:=AH.lt_of_get u.v;omega
end Go.Proofs.YtmibmlioidpogaaGreatDoor
