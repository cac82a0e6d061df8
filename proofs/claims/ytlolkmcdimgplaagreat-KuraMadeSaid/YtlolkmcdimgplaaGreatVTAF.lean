/- kura -/
import Derived.Test.YtlolkmcdimgplaaGreatVTAE
set_option linter.all false
namespace Go.Proofs.YtlolkmcdimgplaaGreat
open Go.Am
open Go.Kur (Gr Wk)
variable {E:List (Int×Int)}{c db wb:Nat}{es:List (AV×AV×Nat)}{g:Gr}{h h0:AH}{hs seen:List Nat}{hv:AV}{n:Int}
theorem nx_ok{it mb:Nat}(hi:h.get it=some (.mit (some mb) c seen c))(hm:h.get mb=some (.mapo es c))(hs:∀e∈es,e.2.2<c) :
 ∃al,qZ h (.ptr it 0)=some al/\∀v h',(v,h')∈al->((∀e∈es,e.2.2∈seen)/\v=.tup [.bool false]/\h'=h)\/∃e∈es,e.2.2∉seen/\v=.tup [.bool true,e.1,e.2.1]/\h'=h.put it (.mit (some mb) c (seen++[e.2.2]) c):=by
 have hno:(!seen.isEmpty&&!es.isEmpty&&es.all (λe=>decide (e.2.2>=c)))=false:=by
  cases es with
  |nil=>simp
  |cons e r =>
    have:=hs e (aM ..);have h1:decide (e.2.2>=c)=false:=aX om;simp[h1]
 refine⟨_,by simp only[qZ,hi,hm,hno];rfl,λv h' hv=>?_⟩;rcases aw.1 hv with hv|hv
 .split at hv
  .rename_i ho
   rw[aP]at hv;cases hv;refine .inl ⟨λe he=>?_,rfl,rfl⟩;simp only[tQ,nE]at ho;refine Classical.byContradiction λhc=>?_;have:e∈(es.filter λe=>!seen.contains e.2.2).filter λe=>decide (e.2.2<c):=aJ.2 ⟨aJ.2 ⟨he,by simpa using hc⟩,bp (hs e he)⟩;rw[ho]at this;cases this
  .cases hv
 .obtain⟨e,he,q⟩:=bG.1 hv;cases q;have:e∈es/\e.2.2∉seen:=by
   unfold IP at he;rcases aw.1 he with he|he
   .have:=(aJ.1 he).1;obtain⟨a,b⟩:=aJ.1 this;exact⟨a,by simpa using b⟩
   .have:=(aJ.1 he).1;obtain⟨a,b⟩:=aJ.1 this;exact⟨a,by simpa using b⟩
  exact .inr ⟨e,this.1,this.2,rfl,rfl⟩
theorem MY{it mb:Nat}{e:AV×AV×Nat}(hi:h.get it=some (.mit (some mb) c (seen++[e.2.2]) c))(hm:h.get mb=some (.mapo es c))(hs:(es.map (·.2.2)).Pairwise (·<·))(he:e∈es) :
 BN h (.ptr it 0)=some (.tup [e.1,e.2.1]):=by
 have hf:es.find? (λx=>x.2.2==e.2.2)=some e:=by
  clear hm;induction es with
  |nil=>cases he
  |cons a r ih =>
    rw[aS,cW]at hs;rw[LP];rcases ao.1 he with rfl|he
    .rw[show(e.2.2==e.2.2)=true from by simp]
    .have:=hs.1 e.2.2 (iE he);rw[show(a.2.2==e.2.2)=false from by rw[beq_eq_false_iff_ne];omega];exact ih hs.2 he
 simp only[BN,hi,hm,List.getLast?_append,sR,Option.some_or,if_true,hf,aC]
theorem rise_ext:∀{l m:List Nat},l.Pairwise (·<·)->m.Pairwise (·<·)->(∀x,x∈l↔x∈m)->l=m
 |[],[],_,_,_=>rfl
 |[],y::m,_,_,h=>by have:=(h y).2 (aM ..);cases this
 |x::l,[],_,_,h=>by have:=(h x).1 (aM ..);cases this
 |x::l,y::m,h1,h2,h=>by
   obtain⟨a1,a2⟩:=cW.1 h1;obtain⟨b1,b2⟩:=cW.1 h2;have e:x=y:=by
    have hx:=(h x).1 (aM ..);have hy:=(h y).2 (aM ..);rcases ao.1 hx with q|q
    .exact q
    .rcases ao.1 hy with p|p
     .exact p.symm
     .have:=a1 y p;have:=b1 x q;omega
   subst e;rw[rise_ext a2 b2 λz=>?_];have hz:=h z;rw[ao,ao]at hz;constructor
   .intro q;rcases hz.1 (.inr q)with p|p
    .have:=a1 z q;omega
    .exact p
   .intro q;rcases hz.2 (.inr q)with p|p
    .have:=b1 z q;omega
    .exact p
theorem DY{l:List Nat}(h:l.Nodup):(iY l).Pairwise (·<·):=by
 have h1:=qW l;have h2:(iY l).Nodup:=((fy l).nodup_iff).2 h;exact(h1.and h2).imp λ⟨a,b⟩=>by have b:_≠_:=b;omega
def gZ(g:Gr)(hs:List Nat):Prop:=hs.Pairwise (·<·)/\∀x,x∈hs↔g.ends x≠[]/\g.deg x≠2
set_option maxHeartbeats 2000000 in
theorem zZ(w:Web g h0 wb n E)(hx:Ext h0.next h0 h){cnt:Nat}(hc:cnt<100) :
 C prg 15 [.ptr wb 0,.int .i64 (cnt:Nat)] h λr h'=>Ext h.next h h'/\((∃a hs,r=.tup [a,.bool true]/\IsSl h' 1 h.next a (nC hs)/\gZ g hs/\∀x∈hs,g.deg x=cnt)\/(r=.tup [.nils,.bool false]/\∃x,g.ends x≠[]/\g.deg x≠2/\g.deg x≠cnt)):=by
 refine Ny pf15 ?_;refine ai (aD (Mi0) ?_);obtain⟨ev,mb,h1,h2,es,c,ml,lo,h3,h4,h5,h6,h7,h8⟩:=w.cell;have l1:=AH.lt_of_get h1;have l3:=AH.lt_of_get h3;have g1:h.get wb=some (.cells [.int .i64 n,ev,.mp mb] 3 false):=by rw[hx.gt _ l1];exact h1
 have g3:h.get mb=some (.mapo es c):=by rw[hx.gt _ l3];exact h3
 have m3:MapL h lo es c ml:=h4.cong λc _ hc=>hx.gt c hc;have r2:aA h wb 2 1=some [.mp mb]:=bJ g1 rfl;have hel:=m3.len;have hnx:=hx.nx;have hrg:Es h (.mp mb)=some (.ptr h.next 0,h.new (.mit (some mb) c [] c)):=by simp only[Es,g3]
 have x1:Ext h.next h (h.new (.mit (some mb) c [] c)):=Nt (ab _);have gi:(h.new (.mit (some mb) c [] c)).get h.next=some (.mit (some mb) c [] c):=by rw[AH.get_new,if_pos rfl]
 have n1:(h.new (.mit (some mb) c [] c)).next=h.next+1:=rfl;refine ai (ai (aD (Mi2 r2 hrg) ?_));generalize h.new (.mit (some mb) c [] c)=hA at *
 have hent:∀i,(hi:i<es.length)->∃p,ml[i]?=some p/\es[i].1=.int .i64 ((p.1:Nat):Int)/\IsSl h 1 lo es[i].2.1 (nC (g.ends p.1))/\g.ends p.1≠[]:=λi hi=>by
  have hml:i<ml.length:=om;refine⟨ml[i],ae hml,?_,?_,?_⟩
  .have q:(es.map (·.1))[i]?=_:=congrArg (·[i]?) m3.keys;rw[aG,aG,aG,ae hi,ae hml]at q;exact Option.some.inj q
  .have q:=m3.at_ i _ _ (ae hi) (ae hml);rw[<-xS h6 (aO hml),h5]at q;exact q
  .rw[<-h5,xS h6 (aO hml)];exact h7 _ (aO hml)
 have hstamp:∀i j,(hi:i<es.length)->(hj:j<es.length)->es[i].2.2=es[j].2.2->i=j:=λi j hi hj e=>by
  have hp:=m3.st.1;rcases jF i j with q|q|q
  .have:=(dm.1 hp) i j (by simpa using hi) (by simpa using hj) q;rw[ft,ft]at this;omega
  .exact q
  .have:=(dm.1 hp) j i (by simpa using hj) (by simpa using hi) q;rw[ft,ft]at this;omega
 let key:Nat->Nat:=λi=>(ml.getD i (0,[])).1
 let outL:List Nat->List Nat:=λix=>(ix.map key).filter λx=>!decide (g.deg x=2)
 have hkey:∀{i:Nat}{p:Nat×List Nat},ml[i]?=some p->key i=p.1:=fun {i p} q=>by
  show(ml.getD i (0,[])).1=p.1;rw[aj,q];rfl
 have hcdeg:∀{i:Nat},i<es.length->g.ends (key i)≠[]:=fun {i} hi=>by
  obtain⟨p,q1,_,_,q4⟩:=hent i hi;rw[hkey q1];exact q4
 refine jB (λts h'=>∃a ix,ix.Perm (List.range es.length)/\(∀i∈ix,g.deg (key i)=2\/g.deg (key i)=cnt)/\IsSl h' 1 hA.next a (nC (outL ix))/\Ext h.next h h'/\hA.next<=h'.next/\Held [(4,a)] ts) ?_ ?_
 .refine cA (fO (λm ts h'=>∃a ix,m=es.length-ix.length/\ix.Nodup/\(∀i∈ix,i<es.length)/\(∀i∈ix,g.deg (key i)=2\/g.deg (key i)=cnt)/\IsSl h' 1 hA.next a (nC (outL ix))/\Ext h.next h h'/\hA.next<=h'.next /\
   h'.get h.next=some (.mit (some mb) c (ix.map λi=>(es.getD i (.nilp,.nilp,0)).2.2) c)/\Held [(0,.ptr wb 0),(1,.int .i64 (cnt:Nat)),(12,.ptr h.next 0),(4,a)] ts) ?_ (n:=es.length)
   ⟨.nils,[],by simp,fI,(λi hi=>by cases hi),(λi hi=>by cases hi),.inl ⟨rfl,rfl⟩,x1,ab _,gi,Hi0⟩)
  rintro m ts hB ⟨a,ix,rfl,i1,i2,i3,i4,i5,i6,i7,e0,e1,e12,e4,-⟩;simp only at e0 e1 e12 e4;have b3:hB.get mb=some (.mapo es c):=by rw[i5.gt _ om];exact g3
  obtain⟨al,q1,q2⟩:=nx_ok i7 b3 m3.st.2;refine ai (bS (G.nxM rfl (by rw[Fl,e12];exact q1) λv h' hv=>⟨rfl,?_⟩));rcases q2 v h' hv with⟨p1,rfl,rfl⟩|⟨e,p1,p2,rfl,rfl⟩
  ·
   refine bM (M0) ?_;refine ai (dR (Z0) ?_);refine fp ⟨λ_=>⟨a,ix,?_,i3,i4,i5,i6,H1 e4⟩,λe=>absurd rfl e⟩;refine Kur.perm_of_sub i1 (λi hi=>aq.2 (i2 i hi)) ?_;rw[br];have:∀i∈List.range es.length,i∈ix:=λi hi=>by
    have hi:=aq.1 hi;obtain⟨j,hj,e⟩:=bG.1 (p1 _ (aO hi));have hj':=i2 j hj;rw[aj,ae hj']at e;have:=hstamp j i hj' hi e;rwa [<-this]
   have:=Kur.len_le_of_sub be this;rwa [br]at this
  ·
   obtain⟨k,hk,rfl⟩:=fK p1;have hkx:k∉ix:=λq=>p2 (bG.2 ⟨k,q,by rw[aj,ae hk];rfl⟩);obtain⟨p,v1,v2,v3,v4⟩:=hent k hk;have u:=Nv (o:=.mit (some mb) c ((ix.map λi=>(es.getD i (.nilp,.nilp,0)).2.2)++[es[k].2.2]) c) i7;generalize hB.put h.next (.mit (some mb) c ((ix.map λi=>(es.getD i (.nilp,.nilp,0)).2.2)++[es[k].2.2]) c)=hC at *
   have c3:hC.get mb=some (.mapo es c):=by rw[u.ne om];exact b3
   have hentA:=MY u.get c3 m3.st.1 (aO hk);have X3:Ext h.next h hC:=i5.trans (u.ext (ab _));have nC3:=u.nx;have sv:IsSl hC 1 lo es[k].2.1 (nC (g.ends p.1)):=v3.ext X3 (ab _);have svl:ly es[k].2.1=some (.int .i64 ((g.ends p.1).length:Nat)):=by
    have:=(et sv).len;rw[ah,ah]at this;exact this
   have hkp:=hkey v1;have hmit:(ix.map λi=>(es.getD i (.nilp,.nilp,0)).2.2)++[es[k].2.2]=(ix++[k]).map λi=>(es.getD i (.nilp,.nilp,0)).2.2:=by
    rw[bR];simp[aj,ae hk]
   rw[hmit]at u;have hlt:(ix++[k]).length<=es.length:=by
    have:=Kur.len_le_of_sub (l:=ix++[k]) (m:=List.range es.length) (by
     rw[aN];exact⟨i1,by simp,λa ha b hb=>by rw[aP]at hb;subst hb;rintro rfl;exact hkx ha⟩) λi hi=>by
      rw[aq];rcases aw.1 hi with q|q
      .exact i2 i q
      .rw[aP]at q;subst q;exact hk
    rwa [br]at this
   rw[aB,ar,aU]at hlt;have nd':(ix++[k]).Nodup:=by
    rw[aN];exact⟨i1,by simp,λa ha b hb=>by rw[aP]at hb;subst hb;rintro rfl;exact hkx ha⟩
   have in':∀i∈ix++[k],i<es.length:=λi hi=>by
    rcases aw.1 hi with q|q
    .exact i2 i q
    .rw[aP]at q;subst q;exact hk
   have i4':IsSl hC 1 hA.next a (nC (outL ix)):=i4.cong λb m _ hb=>u.ne om;refine bM (M0) ?_;refine ai (dv (Z0) (bQ ?_));refine cA (ai (aD (M2 e12 hentA) ?_));refine ai ?_;by_cases d2:g.deg p.1=2
   .have d2':(g.ends p.1).length=2:=d2;have c1:decide ((((g.ends p.1).length:Nat):Int)=2)=true:=bp om;refine ai (aD (M2 svl c1) ?_);refine dv (Z0) (fp ⟨λ_=>?_,λe=>absurd rfl e⟩);have ho:outL (ix++[k])=outL ix:=by
     show((ix++[k]).map key).filter _=_;rw[bR,eL];simp[hkp,d2,outL]
    refine⟨es.length-(ix++[k]).length,by rw[aB,ar,aU];omega,a,ix++[k],rfl,nd',in',λi hi=>?_,by rw[ho];exact i4',X3,om,u.get,H4 e0 e1 e12 e4⟩;rcases aw.1 hi with q|q
    .exact i3 i q
    .rw[aP]at q;subst q;rw[hkp];exact .inl d2
   .have d2':¬(g.ends p.1).length=2:=d2;have c1:decide ((((g.ends p.1).length:Nat):Int)=2)=false:=aX om;refine ai (aD (M2 svl c1) ?_);refine dR (Z0) (bQ ?_);refine ai ?_;by_cases d4:g.deg p.1=cnt
    .have d4':(g.ends p.1).length=cnt:=d4;have c2:decide ((((g.ends p.1).length:Nat):Int)=((cnt:Nat):Int))=true:=bp om;refine ai (aD (M3 svl e1 c2) ?_);refine dR (Z0) (bQ ?_);have hol:(outL ix).length<=ix.length:=cI (cF _ _) (by rw[ah];exact ab _);obtain⟨a',hD,t1,t2,t3,t4⟩:=i4'.push (bytes:=8) [.int .i64 ((p.1:Nat):Int)] om om rfl rfl (by rw[eJ];unfold bq;omega) (by rw[eJ];unfold bq;omega);refine aD (M3 e4 v2 t1) ?_;have ho:outL (ix++[k])=outL ix++[p.1]:=by
      show((ix++[k]).map key).filter _=_;rw[bR,eL];simp[hkp,d2,outL]
     refine⟨es.length-(ix++[k]).length,by rw[aB,ar,aU];omega,a',ix++[k],rfl,nd',in',λi hi=>?_,by rw[ho,lS];exact t2,X3.trans (t3.mono om),om,by rw[t3.gt _ om];exact u.get,H3 e0 e1 e12⟩;rcases aw.1 hi with q|q
     .exact i3 i q
     .rw[aP]at q;subst q;rw[hkp];exact .inr d4
    .have d4':¬(g.ends p.1).length=cnt:=d4;have c2:decide ((((g.ends p.1).length:Nat):Int)=((cnt:Nat):Int))=false:=aX om;refine ai (aD (M3 svl e1 c2) ?_);refine dv (Z0) (ai (aD (M0) ?_));exact bU ⟨_,(by simp only[rs,rf15,am,aI,simprocAttr]<;>rfl),X3,.inr ⟨rfl,p.1,v4,d2,d4⟩⟩
 .rintro ts hB ⟨a,ix,i1,i2,i3,i4,i5,e4,-⟩;simp only at e4;have hol:(outL ix).length<=ix.length:=cI (cF _ _) (by rw[ah];exact ab _);have hxl:=i1.length_eq;rw[br]at hxl;have hs:=yW i3 om;refine ai (bS (bE 1 (M1 e4) rfl (Z1 e4) (M1 e4) (hs) λr h2 hq=>?_));obtain⟨s1,s2,s3,s4⟩:=hq;refine bM (M0) ?_;have hab:∀c,c<hA.next->∀n,a≠.sl c 0 n n:=λc hc n e=>by
   rcases i3 with⟨q,_⟩|⟨b,m,hb,q,_⟩
   .rw[q]at e;cases e
   .rw[q]at e;cases e;omega
  refine ai (aD (M1 e4) ?_);have hmap:(ix.map key).Perm (ml.map (·.1)):=by
   refine(i1.map key).trans ?_;rw[hel];have:(List.range ml.length).map key=ml.map (·.1):=by
    refine dI λi=>?_;rw[aG,aG];by_cases hi:i<ml.length
    .rw[fL hi,ae hi];show some (key i)=_;rw[hkey (ae hi)];rfl
    .rw[bX (by simp;omega),bX om];rfl
   rw[this]
  have hnd:(outL ix).Nodup:=((hmap.nodup_iff).2 h6).filter _;have hmem:∀x,x∈outL ix↔g.ends x≠[]/\g.deg x≠2:=λx=>by
   show x∈(ix.map key).filter _↔_;rw[aJ,hmap.mem_iff];simp only[dJ,aZ];constructor
   .rintro⟨q1,q2⟩;obtain⟨p,hp,rfl⟩:=bG.1 q1;refine⟨?_,q2⟩;rw[<-h5,xS h6 hp];exact h7 p hp
   .rintro⟨q1,q2⟩;refine⟨Classical.byContradiction λhc=>q1 ?_,q2⟩;rw[<-h5,ua hc]
  refine bU ⟨_,(by simp only[rs,rf15,am,aI,simprocAttr]<;>rfl),⟨by rw[s3];exact i4.nx,λc hc=>by rw[s2 c (hab c om)];exact i4.gt c hc,λc hc=>by rw[s4];exact i4.ty c hc⟩,.inl ⟨a,iY (outL ix),rfl,s1.mono om,⟨DY hnd,λx=>?_⟩,λx hx=>?_⟩⟩
  .rw[(fy _).mem_iff];exact hmem x
  .rw[(fy _).mem_iff]at hx;have hx2:x∈(ix.map key).filter _:=hx;obtain⟨q1,q2⟩:=aJ.1 hx2;obtain⟨i,hi,rfl⟩:=bG.1 q1;rcases i2 i hi with q|q
   .simp[q]at q2
   .exact q
open Go.Am
open Go.Kur (Gr Wk)
theorem Md(l:List Nat)(p:Int->Bool):(l.map λn=>((n:Nat):Int)).filter p=(l.filter λn=>p ((n:Nat):Int)).map λn=>((n:Nat):Int):=by
 rw[LR];rfl
theorem Mj(l:List Nat)(x:Nat):(l.map λn=>((n:Nat):Int)).any (((x:Nat):Int)==·)=decide (x∈l):=by
 rw[eq,aK,fU];constructor
 .rintro⟨z,h1,h2⟩;obtain⟨n,hn,rfl⟩:=bG.1 h1;have:=beq_iff_eq.1 h2;have e:x=n:=om;rw[e];exact hn
 .intro h;exact⟨_,iE h,by simp⟩
theorem Mi(l m:List Nat):((l.map λn=>((n:Nat):Int))==(m.map λn=>((n:Nat):Int)))=(l==m):=by
 rw[eq,beq_iff_eq,beq_iff_eq];constructor
 .intro h;have:=congrArg (List.map Int.toNat) h;rw[gC,gC]at this;have e:(Int.toNat ∘ λn:Nat=>((n:Nat):Int))=id:=by funext n;simp
  rw[e,yK,yK]at this;exact this
 .rintro rfl;rfl
theorem EY{xb:Nat}{x y:Nat}(hx:aA h xb 0 1=some [.int .i64 (x:Nat)]):C prg 28 ([.int .i64 (y:Nat)]++[.ptr xb 0]) h λr h'=>r=.bool (decide (y=x))/\Ext h.next h h':=by
 refine Ny pf28 ?_;have c:decide (((y:Nat):Int)=((x:Nat):Int))=decide (y=x):=by rw[decide_eq_decide];omega
 refine ai (aD (Mi0) ?_);refine ai (aD (Mi2 hx c) ?_);exact bU ⟨_,(by simp only[rs,rf28,am,aI,simprocAttr]<;>rfl),rfl,Nu⟩
def yB(g:Gr)(hs:List Nat)(x:Nat):Bool:=fF g x==hs.filter λy=>!decide (y=x)
set_option maxHeartbeats 1000000 in
theorem Ii{hb pb qb:Nat}{ks:List Nat}(w:Web g h0 wb n E)(hx:Ext h0.next h0 h)(md:MapK h db ks)(hdb:h0.next<=db)
 (rh:aA h hb 0 1=some [hv]) (rp:aA h pb 0 1=some [.ptr wb 0]) (rq:aA h qb 0 1=some [.mp db]) (lh:hb<h.next) (lp:pb<h.next) (lq:qb<h.next) (sh:SlN h hv hs) (hl:hs.length<2^30) {x:Nat} (ha:Alive g x) (hxb:x<2^31) :
 C prg 25 ([.int .i64 (x:Nat)]++[.ptr hb 0,.ptr pb 0,.ptr qb 0]) h λr h'=>r=.bool (!yB g hs x)/\Kp (λc=>c=db) h h'/\MapK h' db (fk ks (fM g x)):=by
 refine Ny pf25 ?_;refine ai (aD (Mi0) ?_);have x1:Ext h.next h (h.new (.cells [.int .i64 ((x:Nat):Int)] 1 false)):=Nt (ab _);have g1:(h.new (.cells [.int .i64 ((x:Nat):Int)] 1 false)).get h.next=some (.cells [.int .i64 ((x:Nat):Int)] 1 false):=by rw[AH.get_new,if_pos rfl]
 have n1:(h.new (.cells [.int .i64 ((x:Nat):Int)] 1 false)).next=h.next+1:=rfl;generalize h.new (.cells [.int .i64 ((x:Nat):Int)] 1 false)=hA at *
 have rd:∀{h':AH}{b:Nat}{v:AV},Ext h.next h h'->b<h.next->aA h b 0 1=some [v]->aA h' b 0 1=some [v]:=fun {h' b v} x hb r=>by rw[cU (x.gt b hb)];exact r
 have sA:=Sl.ext sh x1 (ab _);have u0:=rd x1 lh rh;refine ai (bS (bE 1 (Mi1 u0) rfl (Zi1 u0) (Mi1 u0) (oW sA (by rw[ah];omega)) λr h2 hq=>?_));obtain⟨i2,x2,_⟩:=hq;have n2:=x2.nx;have X2:Ext h.next h h2:=x1.trans (x2.mono om);have hdel:=Au (lo:=hA.next) (P:=λz=>decide (z=((x:Nat):Int))) (f:=28) (caps:=[.ptr h.next 0]) i2 n2 (by rw[ah];exact hl) λz hz h' x'=>by
  obtain⟨y,_,rfl⟩:=bG.1 hz;refine(EY (x:=x) (y:=y) ?_).mono λr h'' hq=>⟨?_,hq.2⟩
  .exact bJ (by rw[x'.gt _ om,x2.gt _ om];exact g1) rfl
  .rw[hq.1,show decide (((y:Nat):Int)=((x:Nat):Int))=decide (y=x) from by rw[decide_eq_decide];omega]
 refine Cw ?_;simp only[am,aI,simprocAttr,bP];refine jU (Z0) (M0) (hdel) λr3 h3 hq=>?_;obtain⟨s3,x3,b3⟩:=hq;rw[Md]at s3;have n3:=x3.nx;have X3:Ext h.next h h3:=X2.trans (x3.mono om);refine bM (M0) ?_;have hdl:=md.lt;have md3:MapK h3 db ks:=md.cong (X3.gt _ hdl);have X03:Ext h0.next h0 h3:=hx.trans (X3.mono hx.nx);have hm:=tW w X03 md3 hdb ha hxb;have g3:h3.get h.next=some (.cells [.int .i64 ((x:Nat):Int)] 1 false):=by rw[x3.gt _ om,x2.gt _ om];exact g1
 have u1:=rd X3 lp rp;have u2:=rd X3 lq rq;have u3:aA h3 h.next 0 1=some [.int .i64 ((x:Nat):Int)]:=bJ g3 rfl;refine ai (bS (bE 3 (Mi3 u1 u2 u3) rfl (Zi3 u1 u2 u3) (Mi3 u1 u2 u3) (hm) λr4 h4 hq=>?_));obtain⟨i4,k4,m4⟩:=hq;have n4:=k4.nx;have s4:SlN h4 r3 (hs.filter λy=>!decide (((y:Nat):Int)=((x:Nat):Int))):=Sl.kp s3 k4 (by
  cases r3<;>first|trivial|skip
  intro e;have:=b3 _ _ _ _ rfl;omega)
 refine Cw ?_;simp only[am,aI,simprocAttr];have hfl:((hs.filter λy=>!decide (((y:Nat):Int)=((x:Nat):Int))).map λn=>((n:Nat):Int)).length<2^40:=by
  rw[ah];have:=cF (λy=>!decide (((y:Nat):Int)=((x:Nat):Int))) hs;omega
 have hml:((fF g x).map λn=>((n:Nat):Int)).length<2^40:=by
  unfold fF fins;rw[ah,(fy _).length_eq,ah];have h2:=w.len.2;have:(g.ends x).length<=2*g.E.length:=by
   unfold Gr.ends;generalize g.E=l;induction l with
   |nil=>exact ab _
   |cons a r ih =>
     rw[bm,aB,ar];have:(g.at1 x a).length<=2:=by
      unfold Gr.at1;rw[aB];split<;>split<;>simp
     omega
  omega
 refine jU (Z0) (M0) (wP (et i4) s4 hml hfl) λr5 h5 hq=>?_;obtain⟨rfl,rfl⟩:=hq;refine bM (M0) ?_;refine bU ⟨_,(by simp only[rs,rf25,am,aI,simprocAttr]<;>rfl),?_,?_,m4⟩
 .rw[Mi];unfold yB;congr 3;refine hU λy _=>?_;congr 1;rw[decide_eq_decide];omega
 .exact⟨om,λc hc hn=>(k4.gt c om hn).trans (X3.gt c hc),λc hc=>(k4.ty c om).trans (X3.ty c hc)⟩
def mF(g:Gr)(hs:List Nat):Bool:=decide (hs.length=5)&&hs.all (yB g hs)
set_option maxHeartbeats 1000000 in
theorem Ld{ks:List Nat}(w:Web g h0 wb n E)(hx:Ext h0.next h0 h)(md:MapK h db ks)(hdb:h0.next<=db)(sh:SlN h hv hs)(hl:hs.length<2^30)(ha:∀x∈hs,Alive g x/\x<2^31) :
 C prg 16 [.ptr wb 0,hv,.mp db] h λr h'=>r=.bool (mF g hs)/\Kp (λc=>c=db) h h'/\∃ks',MapK h' db ks'/\(mF g hs=true->ks'=fk ks (hs.flatMap (fM g))):=by
 refine Ny pf16 ?_;obtain⟨hc1,hc2⟩:=sh.cells;have shl:=sh.len;rw[ah,ah]at shl;refine ai (aD (Mi2 hc1 hc2) ?_);have e1:Ext h.next h (((h.new (.cells [.ptr wb 0] 1 false)).new (.cells [hv] 1 false)).new (.cells [.mp db] 1 false)):=(Nt (ab _)).trans ((Nt (by rw[AH.next_new];omega)).trans (Nt (by rw[AH.next_new,AH.next_new];omega)));have g1:∀c,(((h.new (.cells [.ptr wb 0] 1 false)).new (.cells [hv] 1 false)).new (.cells [.mp db] 1 false)).get c=if c=h.next+2 then some (.cells [.mp db] 1 false)else if c=h.next+1 then some (.cells [hv] 1 false)else if c=h.next then some (.cells [.ptr wb 0] 1 false)else h.get c:=λc=>by
  rw[AH.get_new,AH.get_new,AH.get_new];rfl
 have n1:(((h.new (.cells [.ptr wb 0] 1 false)).new (.cells [hv] 1 false)).new (.cells [.mp db] 1 false)).next=h.next+3:=rfl;generalize ((h.new (.cells [.ptr wb 0] 1 false)).new (.cells [hv] 1 false)).new (.cells [.mp db] 1 false)=hA at *
 have gp:hA.get h.next=some (.cells [.ptr wb 0] 1 false):=by rw[g1,if_neg om,if_neg om,if_pos rfl]
 have gh:hA.get (h.next+1)=some (.cells [hv] 1 false):=by rw[g1,if_neg om,if_pos rfl]
 have gq:hA.get (h.next+2)=some (.cells [.mp db] 1 false):=by rw[g1,if_pos rfl]
 have rh:aA hA (h.next+1) 0 1=some [hv]:=bJ gh rfl;have hdl:=md.lt;have mdA:MapK hA db ks:=md.cong (e1.gt _ hdl);have XA:Ext h0.next h0 hA:=hx.trans (e1.mono hx.nx);have kA:Kp (λc=>c=db) h hA:=e1.kp (ab _);by_cases h5:hs.length=5
 .have c1:decide (((hs.length:Nat):Int)=5)=true:=bp om;have sA:=Sl.ext sh e1 (ab _);let P:Int->Bool:=λz=>!yB g hs z.toNat
  have hcf:=wZ (h:=hA) (v:=hv) (xs:=hs.map λn=>((n:Nat):Int)) (P:=P) (k:=25) (caps:=[.ptr (h.next+1) 0,.ptr h.next 0,.ptr (h.next+2) 0])
   (λi h'=>Kp (λc=>c=db) hA h'/\MapK h' db (fk ks ((hs.take i).flatMap (fM g)))) (λ_ h'=>Kp (λc=>c=db) hA h'/\∃ks',MapK h' db ks') (by rw[ah];exact shl) (by rw[ah];omega) ⟨Ns,mdA⟩
   (λi h' q=>Sl.kp sA q.1 (mdA.off sA)) (λi hi h' ⟨q1,q2⟩=>by
    have hi':i<hs.length:=by simpa using hi
    have qn:=q1.nx;obtain⟨a1,a2⟩:=ha hs[i] (aO hi');have X':=mU hdb XA q1;have rd:∀{b:Nat}{v:AV},b<hA.next->b≠db->aA hA b 0 1=some [v]->aA h' b 0 1=some [v]:=fun {b v} hb hn r=>by rw[cU (q1.gt b hb hn)];exact r
    have hc:=Ii (ks:=fk ks ((hs.take i).flatMap (fM g))) w X' q2 hdb (rd om om rh) (rd om om (bJ gp rfl)) (rd om om (bJ gq rfl)) om om om (Sl.kp sA q1 (mdA.off sA)) hl a1 a2;have hz:(hs.map λn=>((n:Nat):Int))[i]=((hs[i]:Nat):Int):=by simp
    rw[hz];refine hc.mono λr h'' ⟨t1,t2,t3⟩=>⟨by rw[t1];simp[P],?_⟩
    have k':=q1.trans t2 λc _ e=>e;split
    .exact⟨k',_,t3⟩
    .refine⟨k',?_⟩;rw[bu hi',bL,bm,eB,bV,pY];exact t3)
  have hany:(hs.map λn=>((n:Nat):Int)).any P=!hs.all (yB g hs):=by
   rw[List.any_map,eq];simp[P,fU,bZ]
  refine ai (bS ?_);refine bE 6 (Mi4 rh shl c1 @kD) rfl (Zi4 rh shl c1 @kD) (Mi4 rh shl c1 @kD) (hcf) λr h2 hq=>?_;obtain⟨rfl,hq⟩:=hq;refine bM (M2 shl c1) ?_;have hf5:mF g hs=hs.all (yB g hs):=by unfold mF;rw[bp h5];rfl
  refine bU ⟨_,(by simp only[rs,rf16,am,aI,simprocAttr]<;>rfl),by rw[hany,hf5,Bool.not_not],?_,?_⟩
  .rcases hq with⟨_,q,_⟩|⟨_,i,q,_⟩<;>exact kA.trans q λc _ e=>e
  .rcases hq with⟨q0,_,q⟩|⟨q0,i,_,ks',q⟩
   .refine⟨_,q,λ_=>?_⟩;rw[ah,cZ]
   .refine⟨ks',q,λe=>?_⟩;rw[hany,<-hf5,e]at q0;cases q0
 .have c1:decide (((hs.length:Nat):Int)=5)=false:=aX om;refine ai (bS ?_);refine kr 6 (Mi3 rh shl c1) rfl (Z0) ?_;refine bM (M2 shl c1) ?_;have hf5:mF g hs=false:=by unfold mF;rw[aX h5];rfl
  exact bU ⟨_,(by simp only[rs,rf16,am,aI,simprocAttr]<;>rfl),by rw[hf5],kA,ks,mdA,λe=>by rw[hf5]at e;cases e⟩
open Go.Am
open Go.Kur (Gr Wk)
theorem Im(g:Gr)(x:Nat):(g.ends x).length<=2*g.E.length:=by
 unfold Gr.ends;generalize g.E=l;induction l with
 |nil=>exact ab _
 |cons a r ih =>
   rw[bm,aB,ar];have:(g.at1 x a).length<=2:=by
    unfold Gr.at1;rw[aB];split<;>split<;>simp
   omega
theorem tX(g:Gr)(x:Nat):(fF g x).length<=2*g.E.length:=by
 unfold fF fins;rw[(fy _).length_eq,ah];exact Im g x
theorem BI{tb:Nat}{y:Nat}{tv:AV}{T:List Nat}(ht:aA h tb 0 1=some [tv])(hT:SlN h tv T)(hl:T.length<2^40):C prg 31 ([.int .i64 (y:Nat)]++[.ptr tb 0]) h λr h'=>r=.bool (decide (y∈T))/\Ext h.next h h':=by
 refine Ny pf31 ?_;refine ai (aD (Mi0) ?_);refine ai (bS (bE 2 (Mi1 ht) rfl (Zi1 ht) (Mi1 ht) (mI (y:=((y:Nat):Int)) hT (by rw[ah];exact hl)) λr h2 hq=>?_));obtain⟨rfl,x2⟩:=hq;refine bM (M0) ?_;exact bU ⟨_,(by simp only[rs,rf31,am,aI,simprocAttr]<;>rfl),by rw[Mj],x2⟩
def ql(g:Gr)(hs:List Nat)(T:List Nat):List Nat:=hs.filter λy=>!decide (y∈T)
def okH(g:Gr)(hs T:List Nat)(x:Nat):Bool:=(fF g x==if x∈T then ql g hs T else T)&&decide ((if x∈T then ql g hs T else T).length=3)
def gU(g:Gr)(hs:List Nat):Bool:=decide (hs.length=6)&&hs.all (okH g hs (fF g (hs.headD 0)))
set_option maxHeartbeats 2000000 in
theorem EX{ks:List Nat}(w:Web g h0 wb n E)(hx:Ext h0.next h0 h)(md:MapK h db ks)(hdb:h0.next<=db)(sh:SlN h hv hs)(hsl:hs.length<2^30)(ha:∀x∈hs,Alive g x/\x<2^31) :
 C prg 17 [.ptr wb 0,hv,.mp db] h λr h'=>r=.bool (gU g hs)/\Kp (λc=>c=db) h h'/\∃ks',MapK h' db ks'/\(gU g hs=true->ks'=fk ks (fM g (hs.headD 0)++hs.flatMap (fM g))):=by
 refine Ny pf17 ?_;obtain⟨hc1,hc2⟩:=sh.cells;have shl:=sh.len;rw[ah,ah]at shl;refine ai (aD (Mi0) ?_);refine ai ?_;by_cases h6:hs.length=6
 case neg =>
  have c1:decide (((hs.length:Nat):Int)=6)=false:=aX om;have hf:gU g hs=false:=by unfold gU;rw[aX h6];rfl
  refine ai (aD (Mi2 shl c1) ?_);refine dv (Z0) (ai (aD (M0) ?_));exact bU ⟨_,(by simp only[rs,rf17,am,aI,simprocAttr]<;>rfl),by rw[hf],Ns,ks,md,λe=>by rw[hf]at e;cases e⟩
 have c1:decide (((hs.length:Nat):Int)=6)=true:=bp om;refine ai (aD (Mi2 shl c1) ?_);refine dR (Z0) (bQ ?_);obtain⟨y0,r0,hcons⟩:∃y0 r0,hs=y0::r0:=by
  cases hs with
  |nil=>simp at h6
  |cons a r=>exact⟨a,r,rfl⟩
 have hd0:hs.headD 0=y0:=by rw[hcons];rfl
 have y0m:y0∈hs:=by rw[hcons];exact aM ..
 obtain⟨a0,a00⟩:=ha y0 y0m;obtain⟨b1,p1,f1,f2,_⟩:=sh.at1 (i:=0) (y:=.int .i64 ((y0:Nat):Int)) (by rw[hcons];rfl);have f1:lz 1 hv (.int .i64 0)=some (.ptr b1 p1):=f1;have hdl:=md.lt;have hm0:=tW w hx md hdb a0 a00;refine ai (bS (bE 5 (Mi2 f1 f2) rfl (Zi2 f1 f2) (Mi2 f1 f2) (hm0) λr h1 hq=>?_));obtain⟨iT,k1,m1⟩:=hq;generalize hTd:fF g y0=T at *
 have hTl:T.length<2^32:=by
  rw[<-hTd];have:=tX g y0;have:=w.len.2;omega
 have n1:=k1.nx;obtain⟨tc1,tc2⟩:=iT.cells;obtain⟨h2,w2,x2,g2,n2⟩:=gv (h:=h1) (z:=[.nils]) (cs:=[r]) (e:=1) rfl;refine bM (M3 tc1 tc2 w2) ?_;have k2:Kp (λc=>c=db) h h2:=k1.trans (x2.kp (ab _)) λc _ e=>e;have m2:MapK h2 db _:=m1.cong (x2.gt _ om);have s2:SlN h2 hv hs:=Sl.kp sh k2 (md.off sh);have iT2:IsSl h2 1 h.next r (nC T):=iT.ext x2 (ab _);refine ai (bS (bE 1 (Mi0) rfl (Zi0) (Mi0) (oW s2 (by rw[ah];omega)) λr3 h3 hq=>?_));obtain⟨i3,x3,_⟩:=hq;have n3:=x3.nx;have hdel:=Au (lo:=h2.next) (P:=λz=>decide (z.toNat∈T)) (f:=31) (caps:=[.ptr h1.next 0]) i3 n3 (by rw[ah];exact hsl) λz hz h' x'=>by
  obtain⟨y,_,rfl⟩:=bG.1 hz;refine(BI (y:=y) (T:=T) (tb:=h1.next) (tv:=r) ?_ ?_ om).mono λr h'' hq=>⟨by rw[hq.1,dn],hq.2⟩
  .exact bJ (by rw[x'.gt _ om,x3.gt _ om];exact g2) rfl
  .exact et ((iT2.ext x3 (ab _)).cong λb m e _=>x'.gt b (by have:=iT2.lt e;omega))
 refine Cw ?_;simp only[am,aI,simprocAttr,bP];refine jU (Z0) (M0) (hdel) λr4 h4 hq=>?_;obtain⟨s4,x4,b4⟩:=hq;rw[Md]at s4;have hS:(hs.filter λn=>!decide (((n:Nat):Int).toNat∈T))=ql g hs T:=by
  unfold ql;refine hU λy _=>by rw[dn]
 rw[hS]at s4;generalize hSd:ql g hs T=S at *
 have hSl:S.length<=hs.length:=by rw[<-hSd];exact cF _ _
 have n4:=x4.nx;refine bM (M0) ?_;have k4:Kp (λc=>c=db) h h4:=⟨by have:=k2.nx;omega,λc hc hn=>by have:=k2.nx;rw[x4.gt c om,x3.gt c om];exact k2.gt c hc hn,λc hc=>by have:=k2.nx;rw[x4.ty c om,x3.ty c om];exact k2.ty c hc⟩
 have m4:MapK h4 db (fk ks (fM g y0)):=m2.cong (by rw[x4.gt _ om,x3.gt _ om]);have iT4:IsSl h4 1 h.next r (nC T):=(iT2.ext x3 (ab _)).cong λb m e _=>x4.gt b (by have:=iT2.lt e;omega);have gT4:h4.get h1.next=some (.cells [r] 1 false):=by rw[x4.gt _ om,x3.gt _ om];exact g2
 have sh4:SlN h4 hv hs:=Sl.kp sh k4 (md.off sh);have X4:=mU hdb hx k4;refine ai (ai (aD (Mi1 shl) ?_))
 refine gA (α:=Unit) (N:=hs.length) (λ_ _=>[(0,.ptr wb 0),(2,.mp db),(7,.ptr h1.next 0),(8,r4),(25,hv)])
  (λk _ h'=>Kp (λc=>c=db) h4 h'/\MapK h' db (fk ks (fM g y0++(hs.take k).flatMap (fM g)))/\∀x∈hs.take k,okH g hs T x=true) () (λ_ _=>rfl) om (Hi0)
  ⟨Ns,by rw[eZ,eB,bV];exact m4,λx hx=>by rw[eZ]at hx;cases hx⟩ ?_ ?_
 .rintro k _ ts h5 hk ⟨j1,j2,j3⟩ ⟨ei,en,e0,e2,e7,e8,e25,-⟩;simp only at ei en e0 e2 e7 e8 e25;have n5:=j1.nx;have X5:=mU hdb X4 j1;have sh5:SlN h5 hv hs:=Sl.kp sh4 j1 (m4.off sh4);obtain⟨b5,p5,q1,q2,_⟩:=sh5.at1 (i:=k) (y:=.int .i64 ((hs[k]:Nat):Int)) (by rw[aG,aG,ae hk];rfl);refine ai (aD (M4 ei e25 q1 q2) ?_);have gT5:h5.get h1.next=some (.cells [r] 1 false):=by rw[j1.gt _ om om];exact gT4
  have rT5:aA h5 h1.next 0 1=some [r]:=bJ gT5 rfl;have sT4:SlN h4 r T:=et iT4;have sT5:SlN h5 r T:=Sl.kp sT4 j1 (m4.off sT4);obtain⟨ax,axb⟩:=ha hs[k] (aO hk);refine ai (aD (M2 e7 rT5) ?_);obtain⟨rc4,ro4⟩:=s4.cells;let wv:AV:=if hs[k]∈T then r4 else r
  refine ai (jB (λts' h'=>Ext h5.next h5 h'/\Held [(27,.int .i64 (k:Nat)),(26,.int .i64 (hs.length:Nat)),(0,.ptr wb 0),(2,.mp db),(7,.ptr h1.next 0),(8,r4),(25,hv),(10,.int .i64 ((hs[k]:Nat):Int)),(11,wv)] ts') ?_ ?_)
  .refine ai (bS (bE 2 (M2 e7 rT5) rfl (Z2 e7 rT5) (M2 e7 rT5) (mI (y:=((hs[k]:Nat):Int)) sT5 (by rw[ah];omega)) λrr h6 hq=>?_));obtain⟨rfl,x6⟩:=hq;rw[Mj];refine bM (M0) ?_;by_cases hm:hs[k]∈T
   .have hwv:wv=r4:=if_pos hm;refine dv (by simp only[am,aI,simprocAttr,bp hm]) (aD (M1 e8) ?_);exact⟨x6,H8 ei en e0 e2 e7 e8 e25 hwv⟩
   .have hwv:wv=r:=if_neg hm;refine dR (by simp only[am,aI,simprocAttr,aX hm]) (bQ ?_);exact⟨x6,H8 ei en e0 e2 e7 e8 e25 hwv⟩
  .rintro ts6 h6 ⟨x6,f27,f26,f0,f2',f7,f8,f25,f10,f11,-⟩;simp only at f27 f26 f0 f2' f7 f8 f25 f10 f11;have k6:Kp (λc=>c=db) h4 h6:=j1.trans (x6.kp (ab _)) λc _ e=>e;have X6:=mU hdb X4 k6;have m6:MapK h6 db _:=j2.cong (x6.gt _ om);have hm6:=tW w X6 m6 hdb ax axb;refine ai (bS (bE 3 (M3 f0 f10 f2') rfl (Z3 f0 f10 f2') (M3 f0 f10 f2') (hm6) λrr h7 hq=>?_));obtain⟨i7,k7,m7⟩:=hq;have k47:=k6.trans k7 λc _ e=>e;refine Cw ?_;simp only[am,aI,simprocAttr,f11];have swv:SlN h7 wv (if hs[k]∈T then S else T):=by
    show SlN h7 (if hs[k]∈T then r4 else r) _;split
    .exact Sl.kp s4 k47 (m4.off s4)
    .exact Sl.kp sT4 k47 (m4.off sT4)
   have wlen:=swv.len;rw[ah,ah]at wlen;have hwl:(if hs[k]∈T then S else T).length<2^40:=by split<;>omega
   have hml:=tX g hs[k];have hEl:=w.len.2;have hok:okH g hs T hs[k]=((fF g hs[k]==if hs[k]∈T then S else T)&&decide ((if hs[k]∈T then S else T).length=3)):=by unfold okH;rw[hSd]
   generalize (if hs[k]∈T then S else T)=wl at *
   refine jU (Z0) (M0) (wP (et i7) swv (by rw[ah];omega) (by rw[ah];exact hwl)) λrr h8 hq=>?_;obtain⟨rfl,rfl⟩:=hq;rw[Mi];cases hb:(fF g hs[k]==wl)with
   |false =>
     refine bM (M0) ?_;refine dv (Z0) (ai (aD (M0) ?_));have hf:gU g hs=false:=by
      unfold gU;rw[hd0,hTd,jE];right;rw[List.all_eq_false];exact⟨hs[k],aO hk,by rw[hok,hb];simp⟩
     exact bU ⟨_,(by simp only[rs,rf17,am,aI,simprocAttr]<;>rfl),by rw[hf],k4.trans k47 λc _ e=>e,_,m7,λe=>by rw[hf]at e;cases e⟩
   |true =>
     by_cases h3':wl.length=3
     .have c3:decide (((wl.length:Nat):Int)=3)=true:=bp om;refine bM (M3 f11 wlen c3) ?_;refine dR (Z0) (bQ ?_);refine⟨(),⟨k47,?_,λx hx=>?_⟩,H7 f27 f26 f0 f2' f7 f8 f25⟩
      .rw[bu hk,bL,bm,eB,bV,<-bO,pY];exact m7
      .rw[bu hk]at hx;rcases aw.1 hx with hx|hx
       .exact j3 x hx
       .rw[aP]at hx;rw[hx,hok,hb,bp h3'];rfl
     .have c3:decide (((wl.length:Nat):Int)=3)=false:=aX om;refine bM (M3 f11 wlen c3) ?_;refine dv (Z0) (ai (aD (M0) ?_));have hf:gU g hs=false:=by
       unfold gU;rw[hd0,hTd,jE];right;rw[List.all_eq_false];exact⟨hs[k],aO hk,by rw[hok,aX h3'];simp⟩
      exact bU ⟨_,(by simp only[rs,rf17,am,aI,simprocAttr]<;>rfl),by rw[hf],k4.trans k47 λc _ e=>e,_,m7,λe=>by rw[hf]at e;cases e⟩
 .rintro _ ts h5 ⟨j1,j2,j3⟩ ⟨e0,e2,e7,e8,e25,-⟩;rw[cZ]at j2 j3;refine ai (aD (M0) ?_);have hf:gU g hs=true:=by
   unfold gU;rw[hd0,hTd,bp h6,nK,bZ];exact j3
  exact bU ⟨_,(by simp only[rs,rf17,am,aI,simprocAttr]<;>rfl),by rw[hf],k4.trans j1 λc _ e=>e,_,j2,λ_=>by rw[hd0]⟩
end Go.Proofs.YtlolkmcdimgplaaGreat
