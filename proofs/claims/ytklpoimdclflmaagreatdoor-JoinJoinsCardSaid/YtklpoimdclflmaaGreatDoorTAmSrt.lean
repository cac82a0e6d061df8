/- A row of ints that the library sorts -/
import Derived.Test.YtklpoimdclflmaaGreatDoorTAmRun
import Derived.Lib.SortBridge
import Derived.Sort.EveryDepth
import Derived.Shelf.SlSortCmp.Whole1
set_option linter.all false
namespace Go.Am
open Go.Sort Go.RowKit Go.Shelf Go.Proofs Go.Lib
variable {P:Program}{b c n o:Nat}{f g:FuncId}{h h':AH}{ρ:Ren}
def Ke(P:Program)(f:FuncId):Prop:=∀(blk off cap:Nat) (zs:List Int) (w:World),Holds (Value.int .i64) w blk off zs.toArray->blk<w.heap.size->zs.length<4611686018427387904 ->
 Calls P f #[.slice (some ⟨blk,off,none⟩) zs.length cap] w λe w'=>e=.returned (.tuple #[])/\∃n os,w'=grow (putRow (Value.int .i64) (Sort.ahead w n) blk off (zs.mergeSort λx y=>decide (x<=y)).toArray) os
def Rep.drewN{K:Bs}{σ:Sg}{h:AH}{w:World}(r:Rep K σ h w):∀q:Nat,Rep K σ h (w.drewN q)
 |_=>⟨r.dom,λb o hg hl=>let ⟨i,hi,ho⟩:=r.obj b o hg hl;⟨i,hi,ho.keep (Sg.le_refl σ) rfl⟩,r.own,⟨r.below.os,r.below.tape,r.below.output,r.below.size,r.below.block⟩,r.le,r.esz,r.dfr⟩
def Rep.grow{K:Bs}{σ:Sg}{h:AH}{w:World}(r:Rep K σ h w)(os:Array Obj):Rep K σ h (Sort.grow w os):=by
 have old:∀k,k<w.heap.size->(Sort.grow w os).heap[k]?=w.heap[k]?:=λk hk=>heap_grow_old w os hk;have hsz:w.heap.size<=(Sort.grow w os).heap.size:=by simp[Sort.grow]
 refine⟨r.dom,λb o hg hl=>?_,r.own,⟨r.below.os,r.below.tape,r.below.output,cu r.below.size hsz,λk hk=>?_⟩,cu r.le hsz,r.esz,r.dfr.1,λk hk=>?_⟩
 .obtain⟨i,hi,ho⟩:=r.obj b o hg hl;exact⟨i,hi,ho.keep (Sg.le_refl σ) (old _ (ho.lt hl))⟩
 .rw[old _ (du hk r.le)];exact r.below.block k hk
 .have:=r.dfr.2 k hk;rw[old _ (ct.1 this).1];exact this
def vR{σ:Sg}:∀zs:List Int,VRs σ (zs.map (AV.int .i64)) (zs.map (Value.int .i64))
 |[]=>by simp[VRs]
 |z::r=>by
   simp only[bO,VRs];exact⟨_,_,rfl,by simp[VR],vR r⟩
def GP{zs:List Int}(hS:Ke P f)(hrd:ai h b o n=some (zs.map (AV.int .i64)))(hwr:bP h b o (BV zs)=some h')(hlen:n<2^62) :
 lu P f [.sl b o n c] h λx=>x=.val (.tup []) h':=by
 unfold BV at hwr;intro K σ w args' hK r hgl hv;simp only[VRs]at hv;obtain⟨v',vs',hargs,hv,rfl⟩:=hv;obtain rfl:args'=#[v']:=by cases args';simp_all
 simp only[VR]at hv;obtain⟨p,o',c',hp,rfl,hoff,hcc,hnc,hsp⟩:=hv;have hzn:zs.length=n:=by
  have hl:(zs.map (AV.int .i64)).length=n:=by
   unfold ai at hrd;split at hrd
   .split at hrd
    .rename_i hle
     simp only[aa]at hrd;rw[<-hrd,aS,cI];omega
    .cases hrd
   .cases hrd
  rwa [ah]at hl
 have hsl:(zs.mergeSort λx y=>decide (x<=y)).length=zs.length:=wo ..;obtain⟨vs,hvs,hvl,hcell⟩:=r.rd hrd hp;have hve:vs=zs.map (Value.int .i64):=by
  have key:∀(ys:List Int) (us:List Value),VRs σ (ys.map (AV.int .i64)) us->us=ys.map (Value.int .i64):=by
   intro ys;induction ys with
   |nil=>intro us h;simpa[VRs]using h
   |cons y r ih =>
     intro us h;simp only[bO,VRs]at h;obtain⟨x,xs,rfl,h1,h2⟩:=h;simp only[VR]at h1;rw[h1,ih _ h2];rfl
  exact key _ _ hvs
 subst hve;obtain⟨i',hi',g1,g2,g3⟩:=(r.drewN 0).wr hwr (vR _);rw[hp]at hi';cases hi';rw[ah,hsl]at g1 g2;have hlt:p.blk<w.heap.size:=by
  unfold bP at hwr;split at hwr
  .rename_i cs e hg
   obtain⟨i,hi,ho⟩:=r.obj b _ hg rfl;rw[hp]at hi;cases hi;exact ho.lt rfl
  .cases hwr
 have ho':n=0\/o'=p.d+o:=by rcases hoff with q|q<;>omega
 have hH:Holds (Value.int .i64) w p.blk o' zs.toArray:=by
  intro j hj;have hj':j<zs.length:=by simpa using hj
  have e:o'=p.d+o:=om;subst e;have h1:=hcell j (.int .i64 zs[j]) (by rw[aV,aj hj'];rfl);refine⟨?_,by have:=g2 j hj';simpa using this⟩;rw[h1];simp[hj']
 have hc:=hS p.blk o' c' zs w hH hlt om;rw[hzn]at hc;refine callsIn_wide.2 (hc.mono ?_);rintro e w' ⟨rfl,q,os,rfl⟩;rw[Lib.sorted_world _ w p.blk o' q _ _ os hH (by simp)];obtain⟨i2,hi2,_,_,g4⟩:=(r.drewN q).wr hwr (vR _);rw[hp]at hi2;cases hi2;have hset:(w.drewN q).setCells p.blk o' ((zs.mergeSort λx y=>decide (x<=y)).map (Value.int .i64))=(w.drewN q).setCells p.blk (p.d+o) ((zs.mergeSort λx y=>decide (x<=y)).map (Value.int .i64)):=by
  rcases ho' with q0|q0
  .have hz:zs=[]:=aW.1 om;subst hz;simp[World.setCells]
  .rw[q0]
 rw[hset];exact⟨.tup [],h',.tuple #[],σ,rfl,rfl,Sg.le_refl σ,by simp[VR,VRs],g4.grow os⟩
def Ky(hS:Ke P f)(hc:∃rf,bZ P f=some rf):Srts P f:=⟨hc,λa b c=>GP hS a b c⟩
def Kl(P:Program)(g:FuncId):Prop:=∀(W:World) (b1 o1 n1 c1 b2 o2 n2 c2:Nat) (k1 k2:Int),W.cell? ⟨b1,o1,none⟩=some (.int .i64 k1)->W.cell? ⟨b2,o2,none⟩=some (.int .i64 k2)->0<=k1->k1<2^62->0<=k2->k2<2^62 ->
 Calls P g #[.slice (some ⟨b1,o1,none⟩) (n1+1) c1,.slice (some ⟨b2,o2,none⟩) (n2+1) c2] W λe w'=>e=.returned (.int .i64 (k1-k2))/\∃q,w'=W.drewN q
def Dq{σ:Sg}:∀{vs:List AV}{us:List Value},VRs σ vs us->∀{i:Nat},i<us.length->VR σ (vs.getD i .un) (us.getD i .nilFunc)
 |[],us,h,i,hi=>by simp only[VRs]at h;subst h;exact absurd hi (gz _)
 |v::r,us,h,i,hi=>by
   simp only[VRs]at h;obtain⟨x,xs,rfl,h1,h2⟩:=h;cases i with
   |zero=>exact h1
   |succ i=>exact Dq h2 (Nat.lt_of_succ_lt_succ hi)
def BI{σ:Sg}{vs:List AV}{us:List Value}(h:VRs σ vs us){n:Nat}(hn:us.length=n):∀is:List Nat,(∀i∈is,i<n)->VRs σ (is.map λi=>vs.getD i .un) (is.map λi=>us.getD i .nilFunc)
 |[],_=>by simp[VRs]
 |i::r,hi=>by
   simp only[bO,VRs];refine⟨_,_,rfl,?_,BI h hn r λj hj=>hi j (aN _ hj)⟩;exact Dq h (hn▸hi i (aM ..))
def Ko{xs ys:List AV}(hw:bP h b o xs=some h')(hl:ys.length=xs.length):∃h2,bP h b o ys=some h2/\∀c,c≠b->h2.get c=h.get c:=by
 unfold bP at hw;split at hw
 .rename_i cs e hg
  split at hw
  .rename_i q
   refine⟨h.put b (.cells (dG cs o ys) e false),?_,λc hc=>by rw[AH.get_put _ _ _ _ (AH.lt_of_get hg),if_neg (Ne.symm hc)]⟩;unfold bP;simp only[hg];rw[if_pos om]
  .cases hw
 .cases hw
def GQ(L:SlLaysF.n6 P ρ)(eg:∀args w,(callFunc g args).run P w=.ok (.enter g args) w)(hc:Kl P g){vs:List AV}{kf:Nat->Int}{R:Out->Prop}(hrd:ai h b o n=some vs)(h0:0<n)(hn:n<2^62)
 (hrow:∀i v,vs[i]?=some v->tc h b (kf i) v)
 (hk:∀is:List Nat,is.Perm (List.range n)->is.Pairwise (λi j=>kf i<=kf j)->∃h',bP h b o (is.map λi=>vs.getD i .un)=some h'/\R (.val (.tup []) h')):lu P (ρ.f 6) [.sl b o n c,.fn g []] h R:=by
 intro K σ w args' hK r hgl hv;simp only[VRs]at hv;obtain⟨v',vs',hargs,hv,fv,vs2,rfl,hf,rfl⟩:=hv;obtain rfl:args'=#[v',fv]:=by cases args';simp_all
 simp only[VR,VRs]at hv hf;obtain⟨p,o',c',hp,rfl,hoff,hcc,hnc,hsp⟩:=hv;obtain⟨_,rfl,rfl⟩:=hf;obtain⟨us,hus,hul,hcell⟩:=r.rd hrd hp;have hvl:vs.length=n:=hus.length.symm.trans hul;obtain rfl:o'=p.d+o:=om;have wr:∀is:List Nat,is.length=n->∃h2,bP h b o (is.map λi=>vs.getD i .un)=some h2/\∀c,c≠b->h2.get c=h.get c:=by
  have q:=iY (le:=λi j=>decide (kf i<=kf j)) (λx y z h1 h2=>by simp only[aK]at *;omega) (λx y=>by simp only[dm,aK];omega) (List.range n);obtain⟨h',q1,_⟩:=hk _ (kP ..) (q.imp λh=>aY h);intro is hl;exact Ko q1 (by simp[hl])
 obtain⟨h1,hw1,_⟩:=wr (List.range n) (by simp);have pick:=λis hi=>BI hus hul is hi;obtain⟨i',hi',g1,g2,g3⟩:=(r.drewN 0).wr hw1 (pick _ λi hi=>aX.1 hi);rw[hp]at hi';cases hi';rw[ah,cw]at g1 g2;have hlt:p.blk<w.heap.size:=by
  unfold bP at hw1;split at hw1
  .rename_i cs e hg
   obtain⟨i,hi,ho⟩:=r.obj b _ hg rfl;rw[hp]at hi;cases hi;exact ho.lt rfl
  .cases hw1
 have inh:Inhabited (Fin n):=⟨⟨0,h0⟩⟩
 let enc:Fin n->Value:=λi=>us.getD i.1 .nilFunc
 let d:Array (Fin n):=(List.finRange n).toArray
 let cf:Fin n->Fin n->Int:=λi j=>kf i.1-kf j.1
 have hds:d.size=n:=by simp[d]
 have hrowV:∀i:Fin n,∃b' o' n' c',tc h b (kf i.1) (vs.getD i.1 .un)/\vs.getD i.1 .un=.sl b' o' (n'+1) c'/\b'≠b/\ai h b' o' 1=some [.int .i64 (kf i.1)]/\0<=kf i.1/\kf i.1<2^62:=λi=>by
  have hi:i.1<vs.length:=om;have e:vs.getD i.1 .un=vs[i.1]:=by rw[aA,aj hi];rfl
  have h2:=hrow i.1 _ (aj hi);rw[<-e]at h2;obtain⟨b',o',n',c',q⟩:=h2;exact⟨b',o',n',c',⟨b',o',n',c',q⟩,q⟩
 have hVR:∀i:Fin n,VR σ (vs.getD i.1 .un) (enc i):=λi=>Dq hus om;have hone:OneCell enc:=λi=>by
  obtain⟨b',o',n',c',_,e,_⟩:=hrowV i;have:=hVR i;rw[e]at this;simp only[VR]at this;obtain⟨_,_,_,_,e2,_⟩:=this;rw[e2];rfl
 have hdj:∀j (hj:j<n),d[j]! = ⟨j,hj⟩:=λj hj=>by
  rw[getElem!_pos d j om];simp[d]
 have hH:Holds enc w p.blk (p.d+o) d:=λj hj=>by
  rw[hds]at hj;rw[hdj j hj];refine⟨?_,g2 j hj⟩;refine hcell j _ ?_;show us[j]?=some (us.getD j .nilFunc);rw[aA,aj om];rfl
 have rep:∀(m:Nat) (os:Array Obj) (dk:Array (Fin n)),dk.size=n->∀{h2:AH},bP h b o ((dk.toList.map (·.1)).map λi=>vs.getD i .un)=some h2->Rep K σ h2 (sortWorld enc w p.blk (p.d+o) m dk os):=λm os dk hs h2 hw2=>by
  have e:=Lib.sorted_world enc w p.blk (p.d+o) m d dk.toList os hH (by simp[hs,hds]);unfold sortWorld;rw[show dk=dk.toList.toArray from rfl,e];obtain⟨i2,hi2,_,_,g4⟩:=(r.drewN m).wr hw2 (pick _ λi hi=>by
   obtain⟨x,_,rfl⟩:=bp.1 hi;exact x.2)
  rw[hp]at hi2;cases hi2;rw[de]at g4;exact g4.grow os
 have hcmp:CmpLays1 P g #[] enc cf p.blk (p.d+o) d.size w:=λm os dk hs x y=>by
  rw[hds]at hs;obtain⟨h2,hw2,hk2⟩:=wr (dk.toList.map (·.1)) (by simp[hs]);have r2:=rep m os dk hs hw2;have cell:∀i:Fin n,∃b1 o1 n1 c1,enc i=.slice (some ⟨b1,o1,none⟩) (n1+1) c1/\(sortWorld enc w p.blk (p.d+o) m dk os).cell? ⟨b1,o1,none⟩=some (.int .i64 (kf i.1))/\0<=kf i.1/\kf i.1<2^62:=λi=>by
   obtain⟨b',o',n',c',_,e,e1,e2,e3,e4⟩:=hrowV i;have hv:=hVR i;rw[e]at hv;simp only[VR]at hv;obtain⟨q,o2,c2,k1,k2,k3,k4,k5,_⟩:=hv;have e5:ai h2 b' o' 1=some [.int .i64 (kf i.1)]:=by
    unfold ai at e2 |-;rw[hk2 b' e1];exact e2
   obtain⟨ws,hws,_,hc1⟩:=r2.rd e5 k1;simp only[VRs,VR]at hws;obtain⟨_,_,rfl,rfl,rfl⟩:=hws;refine⟨q.blk,o2,n',c2,k2,?_,e3,e4⟩;have:=hc1 0 _ rfl;rw[show o2=q.d+o' by omega];exact this
  obtain⟨b1,o1,n1,c1,x1,x2,x3,x4⟩:=cell x;obtain⟨b2,o2,n2,c2,y1,y2,y3,y4⟩:=cell y;rw[x1,y1];exact(hc _ b1 o1 n1 c1 b2 o2 n2 c2 _ _ x2 y2 x3 x4 y3 y4).mono λe w' ⟨q1,q,q2⟩=>⟨q1,q,#[],by rw[q2,grow_empty]⟩
 have hO:SWO (ltOf cf):=by
  have e:∀x y,ltOf cf x y=decide (kf x.1<kf y.1):=λx y=>by
   unfold ltOf;rw[decide_eq_decide];show kf x.1-kf y.1<0↔_;omega
  refine⟨λx=>?_,λx y z h1 h2=>?_,λx y z h1 h2=>?_⟩<;>simp only[e,aK,ce]at *<;>omega
 have hcall:=Any.slices_SortFunc L enc hone cf hO g #[] p.blk (p.d+o) c' d w eg hcmp hH hlt om;rw[hds]at hcall;refine callsIn_wide.2 (hcall.mono ?_);rintro e w' ⟨rfl,d',q,os,z,hs,rfl⟩;obtain⟨z1,_,z3⟩:=z;rw[hds]at z1;have e1:d'.extract 0 n=d':=by
  conv=>lhs;arg 3;rw[<-z1]
  exact Array.extract_size
 have e2:d.extract 0 n=d:=by
  conv=>lhs;arg 3;rw[<-hds]
  exact Array.extract_size
 rw[e1,e2]at z3;have e3:d.toList.map (·.1)=List.range n:=by
  show(List.finRange n).map (·.1)=_;refine List.ext_getElem (by simp) λi h1 h2=>by simp
 have hp1:(d'.toList.map (·.1)).Perm (List.range n):=by
  rw[<-e3];exact z3.map _
 have hp2:(d'.toList.map (·.1)).Pairwise λi j=>kf i<=kf j:=by
  rw[eN,iu];intro i j hi hj hij;rw[bU]at hi hj;have:=hs i j (dv _) hij om;rw[getElem!_pos d' j hj,getElem!_pos d' i hi]at this;unfold ltOf at this;rw[ce]at this;have this:¬kf d'[j].1-kf d'[i].1<0:=this;rw[Array.getElem_toList,Array.getElem_toList];omega
 obtain⟨h',hw',hR⟩:=hk _ hp1 hp2;exact⟨.tup [],h',.tuple #[],σ,hR,rfl,Sg.le_refl σ,by simp[VR,VRs],rep q os d' z1 hw'⟩
def Kz(L:SlLaysF.n6 P ρ)(e:ρ.f 6=f)(eg:∀args w,(callFunc g args).run P w=.ok (.enter g args) w)(hc:Kl P g)(hf:∃rf,bZ P f=some rf):Srfs P f g:=by
 subst e;exact⟨hf,λa b c d e=>GQ L eg hc a b c d e⟩
end Go.Am
