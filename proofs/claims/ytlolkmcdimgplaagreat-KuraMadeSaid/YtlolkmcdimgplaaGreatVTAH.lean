/- The full graph of five, and that of two times three, with wa -/
import Derived.Test.YtlolkmcdimgplaaGreatVTAG
set_option linter.all false
namespace Go.Proofs.YtlolkmcdimgplaaGreat
open Go.Kur
def p5:List (Nat×Nat):=[(0,1),(0,2),(0,3),(0,4),(1,2),(1,3),(1,4),(2,3),(2,4),(3,4)]
def p6:List (Nat×Nat):=[(0,3),(0,4),(0,5),(1,3),(1,4),(1,5),(2,3),(2,4),(2,5)]
def fA(l:List (Nat×Nat))(j:Nat):Nat:=(l.getD j (0,0)).1
def fB(l:List (Nat×Nat))(j:Nat):Nat:=(l.getD j (0,0)).2
section
variable {ks:Nat->Nat}{g:Gr}
theorem Iu(M:Mde 5 10 (fA p5) (fB p5) ks g){x:Nat}(hx:x<5):g.deg x=4:=by
 rw[M.deg hx];revert x;decide
theorem Fv(M:Mde 6 9 (fA p6) (fB p6) ks g){x:Nat}(hx:x<6):g.deg x=3:=by
 rw[M.deg hx];revert x;decide
theorem yi{x:Nat}(h:g.deg x≠0):g.ends x≠[]:=λe=>h (by unfold Gr.deg;rw[e];rfl)
theorem made5(M:Mde 5 10 (fA p5) (fB p5) ks g):kw g:=by
 have hd:∀x,x<5->g.deg x≠2:=λx hx=>by rw[Iu M hx];omega
 refine⟨List.range 5,M.heads λx hx=>⟨hd x hx,yi (by rw[Iu M hx];omega)⟩,λx hx=>Iu M (aq.1 hx),?_,qB (mS M.bel λx hx=>hd x (aq.1 hx)) (M.marks hd)⟩;unfold mF;rw[aL,bZ];refine⟨rfl,λx hx=>?_⟩;have hx:=aq.1 hx;unfold yB fF;rw[beq_iff_eq,qV (List.pairwise_lt_range.imp (λh=>pp h) |>.filter _),M.fins hd hx];revert x;decide
theorem made6(M:Mde 6 9 (fA p6) (fB p6) ks g):¬kw g/\kG g:=by
 have hd:∀x,x<6->g.deg x≠2:=λx hx=>by rw[Fv M hx];omega
 have hh:=M.heads λx hx=>⟨hd x hx,yi (by rw[Fv M hx];omega)⟩
 refine⟨λ⟨hs,h1,h2,_⟩=>?_,List.range 6,hh,λx hx=>Fv M (aq.1 hx),?_,?_⟩
 .have h0:0∈hs:=(h1.2 0).2 ((hh.2 0).1 (by simp));have:=h2 0 h0;rw[Fv M om]at this;omega
 .have mt:∀x,x<6->fF g x=if x<3 then [3,4,5]else [0,1,2]:=λx hx=>by
   unfold fF;rw[qV (by split<;>decide),M.fins hd hx];revert x;decide
  unfold gU;rw[aL,bZ];refine⟨rfl,λx hx=>?_⟩;have hx:=aq.1 hx;have h0:(List.range 6).headD 0=0:=rfl;unfold okH ql;rw[h0,mt 0 om,mt x hx];revert x;decide
 .have h0:(List.range 6).headD 0=0:=rfl;rw[h0];refine qB (λi hi=>?_) (λi hi=>ep _ (M.marks hd i hi));rcases aw.1 hi with hi|hi
  .exact mS M.bel (l:=[0]) (λx hx=>by rw[aP]at hx;subst hx;exact hd 0 om) i (by simpa using hi)
  .exact mS M.bel (λx hx=>hd x (aq.1 hx)) i hi
section
variable {j t x:Nat}
variable {B K:Nat}{a b:Nat->Nat}{g':Gr}{i0:Nat}
theorem Mde.at_old(M:Mde B K a b ks g){i:Nat}(hx:x<B)(h:i∈g.ends x):∃j,j<K/\(a j=x/\i=sK ks j+j\/b j=x/\i=sK ks j+j+ks j):=by
 rw[M.old hx]at h;obtain⟨j,hj,h⟩:=bH.1 h;refine⟨j,aq.1 hj,?_⟩;rw[aw]at h;rcases h with h|h
 .split at h
  .rw[aP]at h;exact .inl ⟨‹_›,h⟩
  .cases h
 .split at h
  .rw[aP]at h;exact .inr ⟨‹_›,h⟩
  .cases h
theorem oG{j' t':Nat}(ht:t<=ks j)(ht':t'<=ks j')(h:sK ks j+j+t=sK ks j'+j'+t'):j=j'/\t=t':=by
 rcases jF j j' with q|q|q
 .have:=sU (ks:=ks) q;omega
 .subst q;exact⟨rfl,om⟩
 .have:=sU (ks:=ks) q;omega
structure Less(g g':Gr)(i0:Nat):Prop where
 en:∀x,g'.ends x=(g.ends x).filter λi=>decide (i≠i0)
theorem Less.same(L:Less g g' i0)(h:i0∉g.ends x):g'.ends x=g.ends x:=by
 rw[L.en];exact pn.2 λi hi=>bp λe=>h (e▸hi)
theorem Less.one(L:Less g g' i0)(h:i0∈g.ends x)(nd:(g.ends x).Nodup):g'.deg x+1=g.deg x:=by
 unfold Gr.deg;rw[L.en];have h1:=oA (g.ends x) λi=>decide (i≠i0);have h2:((g.ends x).filter λi=>!decide (i≠i0)).length=1:=by
  have:((g.ends x).filter λi=>!decide (i≠i0)).Perm [i0]:=(gO (nd.filter _) (aY.2 ⟨bd,fI⟩)).2 λi=>by
   rw[aJ,aP];constructor
   .rintro⟨_,q⟩;simpa using q
   .rintro rfl;exact⟨h,by simp⟩
  exact this.length_eq
 omega
theorem Mde.ne(M:Mde B K a b ks g):∀i∈g.E,g.tl i≠g.hd i:=λi hi=>by
 rw[M.E,aq]at hi;obtain⟨j,t,h1,h2,rfl⟩:=Ap hi;have lt:=M.lt j h1;have e1:=M.vtx h1 h2;by_cases q:t=ks j
 .have e2:=M.lst h1;rw[<-q]at e2;have hn:Go.Proofs.YtlolkmcdimgplaaGreat.vtx B a ks j t≠b j:=by
   unfold Go.Proofs.YtlolkmcdimgplaaGreat.vtx;split
   .exact lt.2.2
   .omega
  have:=(oP e1 e2 hn).2;omega
 .have e2:=M.vtx h1 (show t+1<=ks j by omega);have e3:=M.inn h1 (show t<ks j by omega);have e4:sK ks j+j+t∈g.ends (B+sK ks j+t):=by rw[e3];simp
  have hn:Go.Proofs.YtlolkmcdimgplaaGreat.vtx B a ks j t≠B+sK ks j+t:=by
   unfold Go.Proofs.YtlolkmcdimgplaaGreat.vtx;split<;>omega
  have:=(oP e1 e4 hn).2;omega
theorem Mde.nd(M:Mde B K a b ks g)(x:Nat):(g.ends x).Nodup:=uF M.ne x
theorem Mde.less_in(M:Mde B K a b ks g)(L:Less g g' i0)(hx:B<=x)(h:i0∈g.ends x):g'.deg x=1:=by
 have h1:=L.one h (M.nd x);rcases M.new hx with h2|⟨i,h2⟩
 .rw[h2]at h;cases h
 .have:g.deg x=2:=by unfold Gr.deg;rw[h2];rfl
  omega
theorem Mde.less_off(M:Mde B K a b ks g)(hj:j<K)(ht:t<=ks j)(hx:x<B)(h1:x≠a j)(h2:x≠b j):sK ks j+j+t∉g.ends x:=λh=>by
 obtain⟨j',hj',q⟩:=M.at_old hx h;rcases q with⟨q1,q2⟩|⟨q1,q2⟩
 .obtain⟨rfl,_⟩:=oG (ks:=ks) (t':=0) ht (dx _) q2;exact h1 q1.symm
 .obtain⟨rfl,_⟩:=oG (ks:=ks) ht (ab _) q2;exact h2 q1.symm
theorem LX(p q:Nat):∃x,x<3/\x≠p/\x≠q:=by
 by_cases h0:0≠p/\0≠q
 .exact⟨0,om,h0⟩
 .by_cases h1:1≠p/\1≠q
  .exact⟨1,om,h1⟩
  .exact⟨2,om,om,om⟩
theorem tk{hs:List Nat}(h:gZ g' hs)(h1:g'.deg x≠0)(h2:g'.deg x≠2):x∈hs:=(h.2 x).2 ⟨yi h1,h2⟩
theorem less5(M:Mde 5 10 (fA p5) (fB p5) ks g)(L:Less g g' i0)(hi:i0∈g.E):¬kw g'/\¬kG g':=by
 rw[M.E,aq]at hi;obtain⟨j,t,h1,h2,rfl⟩:=Ap hi;have e1:=M.vtx h1 h2;constructor
 .rintro⟨hs,q1,q2,_⟩;have hd:g'.deg (Go.Proofs.YtlolkmcdimgplaaGreat.vtx 5 (fA p5) ks j t)=3\/g'.deg (Go.Proofs.YtlolkmcdimgplaaGreat.vtx 5 (fA p5) ks j t)=1:=by
   by_cases hu:Go.Proofs.YtlolkmcdimgplaaGreat.vtx 5 (fA p5) ks j t<5
   .have:=L.one e1 (M.nd _);rw[Iu M hu]at this;omega
   .exact .inr (M.less_in L om e1)
  have:=q2 (Go.Proofs.YtlolkmcdimgplaaGreat.vtx 5 (fA p5) ks j t) (tk q1 om om);omega
 .rintro⟨hs,q1,q2,_⟩;obtain⟨x,x1,x2,x3⟩:=LX (fA p5 j) (fB p5 j);have hd:g'.deg x=4:=by
   unfold Gr.deg;rw[L.same (M.less_off h1 h2 om x2 x3)];exact Iu M om
  have:=q2 x (tk q1 om om);omega
theorem less6(M:Mde 6 9 (fA p6) (fB p6) ks g)(L:Less g g' i0)(hi:i0∈g.E):¬kw g'/\¬kG g':=by
 rw[M.E,aq]at hi;obtain⟨j,t,h1,h2,rfl⟩:=Ap hi;have e1:=M.vtx h1 h2;have lt:=M.lt j h1;constructor
 .rintro⟨hs,q1,q2,_⟩;obtain⟨x,x1,x2,x3⟩:=LX (fA p6 j) (fB p6 j);have hd:g'.deg x=3:=by
   unfold Gr.deg;rw[L.same (M.less_off h1 h2 om x2 x3)];exact Fv M om
  have:=q2 x (tk q1 om om);omega
 .rintro⟨hs,q1,q2,q3,_⟩;by_cases hz:ks j=0
  ·
   have t0:t=0:=om;subst t0;have e2:Go.Proofs.YtlolkmcdimgplaaGreat.vtx 6 (fA p6) ks j 0=fA p6 j:=rfl;rw[e2]at e1;have d1:g'.deg (fA p6 j)=2:=by
    have:=L.one e1 (M.nd _);rw[Fv M lt.1]at this;omega
   have hin:∀x∈hs,x<6:=λx hx=>by
    refine kj λh=>?_;obtain⟨r1,r2⟩:=(q1.2 x).1 hx;have hno:sK ks j+j+0∉g.ends x:=λhm=>by
     have hv:x<6+sK ks 9:=kj λh=>by rw[M.out h]at hm;cases hm
     obtain⟨j',t',k1,k2,k3⟩:=CH (ks:=ks) (show x-6<sK ks 9 by omega);obtain rfl:x=6+sK ks j'+t':=om;rw[M.inn k1 k2]at hm;simp only[ao,bd,or_false]at hm;rcases hm with hm|hm
     .obtain⟨rfl,_⟩:=oG (ks:=ks) h2 (pp k2) hm;omega
     .obtain⟨rfl,_⟩:=oG (ks:=ks) (t':=t'+1) h2 k2 hm;omega
    rw[L.same hno]at r1;have r2:g.deg x≠2:=by unfold Gr.deg at r2 |-;rwa [L.same hno]at r2
    rcases M.new h with h3|⟨i,h3⟩
    .exact r1 h3
    .exact r2 (by unfold Gr.deg;rw[h3];rfl)
   have hlen:hs.length=6:=by
    unfold gU at q3;rw[aL,aK]at q3;exact q3.1
   have hno:fA p6 j∉hs:=λh=>((q1.2 _).1 h).2 d1;have:=len_le_of_sub (l:=fA p6 j::hs) (m:=List.range 6) (aY.2 ⟨hno,q1.1.imp λh=>FT h⟩) λx hx=>by
    rw[aq];rcases ao.1 hx with rfl|hx
    .exact lt.1
    .exact hin x hx
   rw[ar,br]at this;omega
  ·
   obtain⟨v,hv,hm⟩:∃v,6<=v/\sK ks j+j+t∈g.ends v:=by
    by_cases ht:t=0
    .subst ht;exact⟨6+sK ks j+0,om,by rw[M.inn h1 om];simp⟩
    .refine⟨_,?_,e1⟩;unfold Go.Proofs.YtlolkmcdimgplaaGreat.vtx;rw[if_neg ht];omega
   have hd:=M.less_in L hv hm;have:=q2 v (tk q1 om om);omega
end
end
open Go.Am
open Go.Kur (Gr Wk)
variable {E es:List (Int×Int)}{L:List Int}{e k lo:Nat}{ev v:AV}{h:AH}{n:Int}{vs:List AV}{xss:List (List Int)}
theorem oS{g:Gr}{hs hs':List Nat}(h:gZ g hs)(h':gZ g hs'):hs=hs':=rise_ext h.1 h'.1 λx=>(h.2 x).trans (h'.2 x).symm
theorem AE(hp:LayP n E L):mh (grK E L hp.nodup.1) n.toNat:=λi hi=>by
 obtain⟨z,hz,rfl⟩:=bG.1 hi;obtain⟨o1,o2,o3,o4,o5,o6⟩:=hp.nodup.2 z hz;exact⟨by show tlK E z.toNat<_;unfold tlK;omega,by show hdK E z.toNat<_;unfold hdK;omega⟩
def Cs(g:Gr)(r:AV):Prop:=(kw g/\r=.int .i64 5)\/(¬kw g/\kG g/\r=.int .i64 33)\/(¬kw g/\¬kG g/\r=.int .i64 0)
set_option maxHeartbeats 2000000 in
theorem uf{lv:AV}(he:SlE h ev E)(hL:SlI h lv L)(hel:E.length<2^28)(hll:L.length<2^28)(hn:n<2^28) :
 C prg 7 [.agg [.int .i64 n,ev],lv] h λr h'=>Ext h.next h h'/\((¬LayP n E L/\r=.int .i64 0)\/∃hp:LayP n E L,Cs (grK E L hp.nodup.1) r):=by
 obtain⟨ec,eo⟩:=he.cells;obtain⟨lc,lo'⟩:=hL.cells;have hLl:=hL.len;rw[ah]at hLl;refine Ny pf7 ?_;refine ai (aD (Mi0) ?_);have x0:Ext h.next h (h.new (.cells [.int .i64 n,ev] 2 false)):=Nt (ab _);have g0:(h.new (.cells [.int .i64 n,ev] 2 false)).get h.next=some (.cells [.int .i64 n,ev] 2 false):=by rw[AH.get_new,if_pos rfl]
 have n0:(h.new (.cells [.int .i64 n,ev] 2 false)).next=h.next+1:=rfl;generalize h.new (.cells [.int .i64 n,ev] 2 false)=h1 at *
 have r0:aA h1 h.next 0 2=some [.int .i64 n,ev]:=by rw[bI g0];rfl
 refine ai (bS (bE 2 (Mi1 r0) rfl (Zi1 r0) (Mi1 r0) (MM (n:=n) (he.ext x0 (ab _)) (hL.ext x0 (ab _)) hel hll hn) λr h2 hq=>?_));obtain⟨x2,hq⟩:=hq;have n2:=x2.nx;have X2:Ext h.next h h2:=x0.trans (x2.mono om);rcases hq with⟨hp,wb,rfl,w⟩|⟨hnp,rfl⟩
 case inr =>
  refine bM (M0) ?_;refine ai (ai (aD (M0) ?_));refine dv (Z0) (ai (aD (M0) ?_));exact bU ⟨_,(by simp only[rs,rf7,am,aI,simprocAttr]<;>rfl),X2,.inl ⟨hnp,rfl⟩⟩
 refine bM (M0) ?_;refine ai (ai (aD (M0) ?_));refine dR (Z0) (bQ ?_);have hb:=AE hp;have hgE:(grK E L hp.nodup.1).E.length=L.length:=by show(nLK L).length=_;unfold nLK;rw[ah]
 have hT:∀r,Cs (grK E L hp.nodup.1) r->∃hp:LayP n E L,Cs (grK E L hp.nodup.1) r:=λr t=>⟨hp,t⟩
 generalize grK E L hp.nodup.1=g at w hb hgE hT;have hal:∀{hs:List Nat},gZ g hs->∀x∈hs,Alive g x/\x<2^31:=fun {hs} q x hx=>by
  obtain⟨q1,q2⟩:=(q.2 x).1 hx;obtain⟨e,he⟩:=dE _ q1;have:=lN hb he;exact⟨Jh hb q2,om⟩
 have hhl:∀{hs:List Nat},gZ g hs->hs.length<2^30:=fun {hs} q=>by
  have:=Kur.len_le_of_sub (l:=hs) (m:=List.range n.toNat) (q.1.imp λh=>by omega) λx hx=>by
   obtain⟨q1,q2⟩:=(q.2 x).1 hx;obtain⟨e,he⟩:=dE _ q1;exact aq.2 (lN hb he)
  rw[br]at this;omega
 have x3:Ext h2.next h2 (h2.new (.mapo [] 0)):=Nt (ab _);have g3:(h2.new (.mapo [] 0)).get h2.next=some (.mapo [] 0):=by rw[AH.get_new,if_pos rfl]
 have n3:(h2.new (.mapo [] 0)).next=h2.next+1:=rfl;refine ai (aD (M0) ?_);generalize h2.new (.mapo [] 0)=h3 at *
 have m3:MapK h3 h2.next []:=MapK.nil g3;have hh4:C prg 15 [.ptr wb 0,.int .i64 4] h3 _:=zZ (cnt:=4) w x3 om;refine ai (jB (λts h'=>¬kw g/\Ext h2.next h2 h'/\(∃ks,MapK h' h2.next ks)/\Held [(1,lv),(5,.ptr wb 0),(7,.mp h2.next)] ts) ?_ ?_)
 .refine ai (bS (bE 1 (Mi0) rfl (Zi0) (Mi0) (hh4) λr h4 hq=>?_));obtain⟨x4,hq⟩:=hq;have n4:=x4.nx;have X4:Ext h2.next h2 h4:=x3.trans (x4.mono om);have m4:MapK h4 h2.next []:=m3.cong (x4.gt _ om);rcases hq with⟨a,hs,rfl,ia,hH,h44⟩|⟨rfl,x,q1,q2,q3⟩
  .refine bM (M0) ?_;have hfull:=Ld w X4 m4 (ab _) (et ia) (hhl hH) (hal hH);refine ai (bS (bE 5 (Mi0) rfl (Zi0) (Mi0) (hfull) λr h5 hq=>?_));obtain⟨rfl,k5,ks',m5,hks⟩:=hq;have X5:=mU (ab _) X4 k5;have hl5:=m5.len;cases hf:mF g hs with
   |false =>
     refine bM (Mi0) ?_;refine dR (Z0) (bQ ⟨λ⟨hs',f1,f2,f3,f4⟩=>?_,X5,⟨ks',m5⟩,Hi0⟩);rw[oS f1 hH,hf]at f3;cases f3
   |true =>
     have hks:=hks hf;by_cases hlen:ks'.length=L.length
     .have c1:decide (((ks'.length:Nat):Int)=((L.length:Nat):Int))=true:=bp om;refine bM (Mi3 hl5 hLl c1) ?_;refine dv (Z0) (ai (aD (M0) ?_));exact bU ⟨_,(by simp only[rs,rf7,am,aI,simprocAttr]<;>rfl),X2.trans (X5.mono om),.inr (hT _ (.inl ⟨⟨hs,hH,h44,hf,by rw[<-hks,hlen,hgE]⟩,rfl⟩))⟩
     .have c1:decide (((ks'.length:Nat):Int)=((L.length:Nat):Int))=false:=aX om;refine bM (Mi3 hl5 hLl c1) ?_;refine dR (Z0) (bQ ⟨λ⟨hs',f1,f2,f3,f4⟩=>?_,X5,⟨ks',m5⟩,Hi0⟩);rw[oS f1 hH,<-hks,hgE]at f4;exact hlen f4
  .refine bM (M0) ?_;refine ai (bS (kr 5 (Mi0) rfl (Z0) ?_));refine bM (Mi0) ?_;refine dR (Z0) (bQ ⟨λ⟨hs',f1,f2,f3,f4⟩=>?_,X4,⟨[],m4⟩,Hi0⟩);exact q3 (f2 x ((f1.2 x).2 ⟨q1,q2⟩))
 rintro ts h5 ⟨hn5,X5,⟨ks,m5⟩,e1,e5,e7,-⟩;simp only at e1 e5 e7;obtain⟨h6,c6,m6,o6,u6⟩:=m5.clr;have X6:Ext h2.next h2 h6:=X5.trans (u6.ext (ab _));refine ai (aD (M2 e7 c6) ?_);have hh3:C prg 15 [.ptr wb 0,.int .i64 3] h6 _:=zZ (cnt:=3) w X6 om;refine ai (jB (λts h'=>¬kG g/\Ext h2.next h2 h') ?_ ?_)
 .refine ai (bS (bE 1 (M1 e5) rfl (Z1 e5) (M1 e5) (hh3) λr h7 hq=>?_));obtain⟨x7,hq⟩:=hq;have n7:=x7.nx;have n6:=X6.nx;have hdl:=m6.lt;have X7:Ext h2.next h2 h7:=X6.trans (x7.mono om);have m7:MapK h7 h2.next []:=m6.cong (x7.gt _ hdl);rcases hq with⟨a,hs,rfl,ia,hH,h44⟩|⟨rfl,x,q1,q2,q3⟩
  .refine bM (M0) ?_;have hhalf:=EX w X7 m7 (ab _) (et ia) (hhl hH) (hal hH);refine ai (bS (bE 5 (M2 e5 e7) rfl (Z2 e5 e7) (M2 e5 e7) (hhalf) λr h8 hq=>?_));obtain⟨rfl,k8,ks',m8,hks⟩:=hq;have X8:=mU (ab _) X7 k8;have hl8:=m8.len;cases hf:gU g hs with
   |false =>
     refine bM (M2 e1 e7) ?_;refine dR (Z0) (bQ ⟨λ⟨hs',f1,f2,f3,f4⟩=>?_,X8⟩);rw[oS f1 hH,hf]at f3;cases f3
   |true =>
     have hks:=hks hf;by_cases hlen:ks'.length=L.length
     .have c1:decide (((ks'.length:Nat):Int)=((L.length:Nat):Int))=true:=bp om;refine bM (M5 e1 e7 hl8 hLl c1) ?_;refine dv (Z0) (ai (aD (M0) ?_));exact bU ⟨_,(by simp only[rs,rf7,am,aI,simprocAttr]<;>rfl),X2.trans (X8.mono om),.inr (hT _ (.inr (.inl ⟨hn5,⟨hs,hH,h44,hf,by rw[<-hks,hlen,hgE]⟩,rfl⟩)))⟩
     .have c1:decide (((ks'.length:Nat):Int)=((L.length:Nat):Int))=false:=aX om;refine bM (M5 e1 e7 hl8 hLl c1) ?_;refine dR (Z0) (bQ ⟨λ⟨hs',f1,f2,f3,f4⟩=>?_,X8⟩);rw[oS f1 hH,<-hks,hgE]at f4;exact hlen f4
  .refine bM (M0) ?_;refine ai (bS (kr 5 (M2 e5 e7) rfl (Z0) ?_));refine bM (M2 e1 e7) ?_;refine dR (Z0) (bQ ⟨λ⟨hs',f1,f2,f3,f4⟩=>?_,X7⟩);exact q3 (f2 x ((f1.2 x).2 ⟨q1,q2⟩))
 .rintro ts h8 ⟨hn33,X8⟩;refine ai (aD (M0) ?_);exact bU ⟨_,(by simp only[rs,rf7,am,aI,simprocAttr]<;>rfl),X2.trans (X8.mono om),.inr (hT _ (.inr (.inr ⟨hn5,hn33,rfl⟩)))⟩
open Go.Am
open Go.Kur
def pr0(E:List (Int×Int))(i:Nat):Nat×Nat:=(min (tlK E i) (hdK E i),max (tlK E i) (hdK E i))
def l0(E:List (Int×Int))(L:List Int):List (Nat×Nat):=(nLK L).map (pr0 E)
def OkR(n:Int)(E:List (Int×Int))(i:Int):Prop:=OkE n E i/\(E.getD i.toNat (0,0)).1≠(E.getD i.toNat (0,0)).2
def LayR(n:Int)(E:List (Int×Int))(L:List Int):Prop:=∀(k:Nat) (hk:k<L.length),OkR n E L[k]/\L[k]∉L.take k
theorem LayR.lay(h:LayR n E L):LayP n E L:=λk hk=>⟨(h k hk).1.1,(h k hk).2⟩
theorem BK{g:Gr}{N:Nat}(hb:mh g N)(h0:NC (qC g)){l:List (Nat×Nat)}(h:finP ((qC g).map prW) k=some l):l=(eX g k).map prW/\NC (eX g k)/\Srt l/\Bel N l:=by
 rcases Dl h0 k with⟨q1,q2⟩|⟨q1,q2⟩
 .rw[q1]at h;cases h;have v:=gw (g:=g) k;refine⟨rfl,q2,λp hp=>?_,λp hp=>?_⟩
  .obtain⟨w,hw,rfl⟩:=bG.1 hp;have h1:=(v.wk w hw).2;have h2:=q2 w hw;unfold eO at h2;unfold prW;simp only;omega
  .obtain⟨w,hw,rfl⟩:=bG.1 hp;exact FX hb (v.wk w hw).1
 .rw[q1]at h;cases h
theorem MR(hR:LayR n E L):NC (qC (grK E L hR.lay.nodup.1)):=λw hw=>by
 obtain⟨i,hi,rfl⟩:=bG.1 hw;obtain⟨z,hz,rfl⟩:=bG.1 hi;obtain⟨k,hk,rfl⟩:=fK hz;obtain⟨⟨o1,o2⟩,_⟩:=hR k hk;obtain⟨_,_,o3,o4,_,_⟩:=o1;unfold eO;show ¬min (tlK E L[k].toNat) (hdK E L[k].toNat)=max (tlK E L[k].toNat) (hdK E L[k].toNat);unfold tlK hdK;omega
theorem BH{h:(nLK L).Nodup}:(qC (grK E L h)).map prW=l0 E L:=by
 unfold qC l0;rw[gC];rfl
open Go.Am
open Go.Kur
def ToldR(N:Nat)(l:List (Nat×Nat))(r:AV):Prop:=(doc5 N l/\r=.int .i64 5)\/(¬doc5 N l/\doc33 N l/\r=.int .i64 33)\/(¬doc5 N l/\¬doc33 N l/\r=.int .i64 0)
def AnsR(n:Int)(E:List (Int×Int))(L:List Int)(r:AV):Prop:=(¬LayR n E L/\r=.int .i64 0)\/(LayR n E L/\((finP (l0 E L) n.toNat=none/\r=.int .i64 0)\/∃l,finP (l0 E L) n.toNat=some l/\ToldR n.toNat l r))
open Go.Am
open Go.Kur
theorem EO(hp:LayP n E L):LayR n E L\/∃i∈(grK E L hp.nodup.1).E,(grK E L hp.nodup.1).tl i=(grK E L hp.nodup.1).hd i:=by
 by_cases h:∃k,∃hk:k<L.length,(E.getD L[k].toNat (0,0)).1=(E.getD L[k].toNat (0,0)).2
 .obtain⟨k,hk,e⟩:=h;refine .inr ⟨L[k].toNat,iE (aO hk),?_⟩;show tlK E _=hdK E _;unfold tlK hdK;rw[e]
 .exact .inl λk hk=>⟨⟨(hp k hk).1,λe=>h ⟨k,hk,e⟩⟩,(hp k hk).2⟩
theorem EQ{r s:AV}(h1:(¬LayP n E L/\r=.int .i64 0)\/∃hp:LayP n E L,Cs (grK E L hp.nodup.1) r)(h2:AnsR n E L s):∃z,r=.int .i64 z/\s=.int .i64 z:=by
 rcases h1 with⟨hn,rfl⟩|⟨hp,ht⟩
 .rcases h2 with⟨_,rfl⟩|⟨hR,_⟩
  .exact⟨0,rfl,rfl⟩
  .exact absurd hR.lay hn
 .have hb:=AE hp;have i5:=BJ hb;have i33:=Af hb;have none_:¬NC (eX (grK E L hp.nodup.1) n.toNat)->r=.int .i64 0:=λhn=>by
   rcases ht with⟨q,_⟩|⟨_,q,_⟩|⟨_,_,q⟩
   .exact absurd (i5.1 q).1 hn
   .exact absurd (i33.1 q).1 hn
   .exact q
  rcases h2 with⟨hn,rfl⟩|⟨hR,h2⟩
  .rcases EO hp with hR|⟨i,hi,e⟩
   .exact absurd hR hn
   .exact⟨0,none_ λhnc=>zE hnc i hi e,rfl⟩
  .have hnc:=MR hR;rcases Dl hnc n.toNat with⟨q1,q2⟩|⟨q1,q2⟩
   .rw[BH]at q1;rcases h2 with⟨hnone,_⟩|⟨l,hl,hT⟩
    .rw[q1]at hnone;cases hnone
    .rw[q1]at hl;cases hl;have q1':finP ((qC (grK E L hR.lay.nodup.1)).map prW) n.toNat=some ((eX (grK E L hR.lay.nodup.1) n.toNat).map prW):=by rw[BH];exact q1
     obtain⟨_,_,hS,hB⟩:=BK hb hnc q1';rw[and_iff_right q2,<-Lh hS hB]at i5;rw[and_iff_right q2,<-Mp hS hB]at i33;rcases ht with⟨t1,rfl⟩|⟨t1,t2,rfl⟩|⟨t1,t2,rfl⟩
     .rcases hT with⟨_,rfl⟩|⟨u1,_⟩|⟨u1,_⟩
      .exact⟨5,rfl,rfl⟩
      .exact absurd (i5.1 t1) u1
      .exact absurd (i5.1 t1) u1
     .rcases hT with⟨u1,_⟩|⟨_,_,rfl⟩|⟨_,u2,_⟩
      .exact absurd (i5.2 u1) t1
      .exact⟨33,rfl,rfl⟩
      .exact absurd (i33.1 t2) u2
     .rcases hT with⟨u1,_⟩|⟨_,u2,_⟩|⟨_,_,rfl⟩
      .exact absurd (i5.2 u1) t1
      .exact absurd (i33.2 u2) t2
      .exact⟨0,rfl,rfl⟩
   .rw[BH]at q1;rcases h2 with⟨_,rfl⟩|⟨l,hl,_⟩
    .exact⟨0,none_ q2,rfl⟩
    .rw[q1]at hl;cases hl
theorem Nk(n:Int)(E:List (Int×Int))(L:List Int):∃s,AnsR n E L s:=by
 by_cases h:LayR n E L
 .cases hf:finP (l0 E L) n.toNat with
  |none=>exact⟨_,.inr ⟨h,.inl ⟨hf,rfl⟩⟩⟩
  |some l =>
    by_cases h5:doc5 n.toNat l
    .exact⟨_,.inr ⟨h,.inr ⟨l,hf,.inl ⟨h5,rfl⟩⟩⟩⟩
    .by_cases h33:doc33 n.toNat l
     .exact⟨_,.inr ⟨h,.inr ⟨l,hf,.inr (.inl ⟨h5,h33,rfl⟩)⟩⟩⟩
     .exact⟨_,.inr ⟨h,.inr ⟨l,hf,.inr (.inr ⟨h5,h33,rfl⟩)⟩⟩⟩
 .exact⟨_,.inl ⟨h,rfl⟩⟩
open Go.Am
theorem Nj{gb len cap bytes:Nat}{A Z:List AV}{xs:List (List AV)}(hg:h.get gb=some (.cells (A++Z) e false))(hA:A.length=len*e)(hv:Sl h e v xs)(ho:xs.flatten.all AV.one=true)(hc:len+xs.length<=cap)(hz:xs.length*e<=Z.length) :
 ∃h',iX h e bytes (.sl gb 0 len cap) v=some (.sl gb 0 (len+xs.length) cap,h')/\Upd h h' gb (.cells (A++xs.flatten++Z.drop (xs.length*e)) e false):=by
 obtain⟨s1,s2⟩:=hv.src;by_cases hn:xs.length=0
 .refine⟨h,?_,?_⟩
  .simp only[iX,s1,ho,if_true,hn,dX]
  .have:xs=[]:=bF.1 hn;subst this;simp only[nG,bV,aU,lY,bT];exact Upd.refl hg
 .have w:cj h gb (0+len*e) xs.flatten=some (h.put gb (.cells (A++xs.flatten++Z.drop (xs.length*e)) e false)):=by
   rw[ez hg,cq,if_pos (by rw[s2,aB];omega)];congr 3;unfold dD;rw[<-hA,jj,Jo,List.drop_of_length_le om,s2]
   .simp
   .rfl
  refine⟨_,?_,Nv hg⟩;simp only[iX,s1,ho,if_true,if_neg hn,if_pos hc,w,aC]
theorem fD{α:Type}{xss:List (List α)}(hk:k<xss.length):(xss.take (k+1)).flatten=(xss.take k).flatten++xss[k]:=by
 rw[bu hk,kC];simp
theorem kz{α:Type}(xss:List (List α))(k:Nat):(xss.take k).flatten.length<=xss.flatten.length:=by
 conv=>rhs;rw[<-cm k xss]
 rw[kC,aB];omega
theorem Gk:slV h e .nils none (some (.int .i64 0)) none=some .nils:=rfl
theorem zk{z:List AV}:∀n,(dA z n).length=n*z.length
 |0=>by simp[dA]
 |n+1=>by simp only[dA,aB,zk n,cT];omega
theorem vL{z:List AV}:∀k n,(dA z (k+n)).drop (k*z.length)=dA z n
 |0,n=>by simp
 |k+1,n=>by
   have e1:dA z (k+1+n)=z++dA z (k+n):=by rw[show k+1+n=(k+n)+1 by omega];rfl
   have e2:(k+1)*z.length=z.length+k*z.length:=by rw[cT];omega
   rw[e1,e2,<-Nm,qh,vL k n]
theorem Ib{N:Nat}(hN:N<2^34):C prg 106 [.nils,.int .i64 (N:Nat)] h λr h'=>(N=0/\r=.nils/\h'=h)\/(0<N/\r=.sl h.next 0 0 N/\h'=h.new (.cells (dA [.int .i64 0] N) 1 false)):=by
 refine Ny pf106 ?_;have c1:decide (((N:Nat):Int)<0)=false:=aX om;have w1:IntKind.i64.wrap (0-0)=0:=by decide
 have w2:IntKind.i64.wrap (((N:Nat):Int)-0)=((N:Nat):Int):=by rw[fx om om];omega
 have cp:Lt .nils=some (.int .i64 0):=rfl;refine ai (aD (Mi0) ?_);refine ai (ai (aD (Mi0) ?_));refine dR (I1 c1) (bQ ?_);refine ai (ai (aD (Ji3 cp w1 w2) ?_));refine ai (ai (aD (J0) ?_));refine io (t:=decide (0<N)) (by simp only[am,aI,↓reduceIte,Nat.reduceEqDiff,Int.reduceEq,Nat.reduceAdd,Nat.reduceLeDiff,reduceCtorEq];exact congrArg AV.bool (by simp only[decide_eq_decide];omega)) (λq=>?_) λq=>?_
 .have q:0<N:=cE q;have q0:¬((N:Nat):Int)=0:=om;have az:FQ h [.int .i64 0] 8 .nils (.int .i64 (N:Nat))=some (.sl h.next 0 N N,h.new (.cells (dA [.int .i64 0] N) 1 false)):=by
   simp only[FQ,if_neg q0];rw[if_pos ⟨om,by unfold bq;omega,by unfold bq;omega⟩];simp
  have g1:(h.new (.cells (dA [.int .i64 0] N) 1 false)).get h.next=some (.cells (dA [.int .i64 0] N) 1 false):=by rw[AH.get_new,if_pos rfl]
  have s1:slV (h.new (.cells (dA [.int .i64 0] N) 1 false)) 1 (.sl h.next 0 N N) none (some (.int .i64 0)) none=some (.sl h.next 0 0 N):=by
   have:=gJ (k:=.i64) (show 0<=N by omega);simp only[slV,g1,if_true,pV,this,aC];have h0:bnd (.int .i64 0) N=some 0:=this;rw[h0];simp only[aC];split<;>simp
  refine aD (by simp only[am,aI,simprocAttr,bP,dY,bN,cp,Gk,az,s1]<;>rfl) ?_;refine ai (aD (M0) ?_);exact bU ⟨_,(by simp only[rs,rf106,am,aI,simprocAttr]<;>rfl),.inr ⟨q,rfl,rfl⟩⟩
 .have q:¬0<N:=of_decide_eq_false q;refine bQ (ai (aD (Mi0) ?_));exact bU ⟨_,(by simp only[rs,rf106,am,aI,simprocAttr]<;>rfl),.inl ⟨om,rfl,rfl⟩⟩
theorem uK{xss:List (List (Int))}(hv:Sl h 1 v (vs.map λx=>[x]))(hl:vs.length=xss.length)(hx:∀(i:Nat) (w:AV) (xs:List (Int)),vs[i]?=some w->xss[i]?=some xs->SlI h w xs)(hn:xss.length<2^30)(hs:xss.flatten.length<2^34) :
 C prg 99 [v] h λr h'=>IsSl h' 1 h.next r (xss.flatten.flatMap eI)/\Ext h.next h h':=by
 have el:=hv.len;rw[ah,hl]at el;have hvk:∀(k:Nat) (hk:k<xss.length),∃b p,lz 1 v (.int .i64 (k:Nat))=some (.ptr b p)/\aA h b p 1=some [vs[k]'om]/\b<h.next:=λk hk=>hv.at1 (by rw[aG,ae om];rfl);have hxk:∀(k:Nat) (hk:k<xss.length),SlI h (vs[k]'om) xss[k]:=λk hk=>hx k _ _ (ae _) (ae hk);refine Ny pf99 ?_;refine ai (aD (Mi0) ?_);refine ai (aD (M0) ?_);refine ai (ai (aD (Mi1 el) ?_));refine gA (α:=Unit) (N:=xss.length) (λk _=>[(0,v),(9,v),(3,.int .i64 ((xss.take k).flatten.length:Nat))]) (λ_ _ h'=>h'=h) () (λ_ _=>rfl) om (by simp only[cG,dl,am,aI,↓reduceIte,Nat.reduceEqDiff,Int.reduceEq,Nat.reduceAdd,Nat.reduceLeDiff,reduceCtorEq,bP,eZ,nG,de]) rfl ?_ ?_
 .rintro k _ ts h1 hk rfl ⟨ei,en,e0,e9,e3,-⟩;simp only at ei en e0 e9 e3;obtain⟨b1,p1,a1,r1,_⟩:=hvk k hk;have lk:=(hxk k hk).len;rw[ah]at lk;have hle:=kz xss (k+1);rw[fD hk,aB]at hle;have w1:IntKind.i64.wrap ((((xss.take k).flatten.length:Nat):Int)+((xss[k].length:Nat):Int))=(((xss.take (k+1)).flatten.length:Nat):Int):=by
   rw[fx om om,fD hk,aB];omega
  have c1:decide ((((xss.take (k+1)).flatten.length:Nat):Int)<0)=false:=aX om;refine ai (aD (M4 e9 ei a1 r1) ?_);refine ai (aD (M3 e3 lk w1) ?_);refine ai (aD (M1 c1) ?_);refine dR (I0) (bQ ⟨(),rfl,O4 ei en e0 e9⟩)
 .rintro _ ts h1 rfl ⟨e0,e9,e3,-⟩;simp only at e0 e9 e3;rw[cZ]at e3;refine ai (bS (bE 1 (M1 e3) rfl (Z1 e3) (M1 e3) (Ib hs) λg h2 hq=>?_));refine bM (M0) ?_;refine ai (ai (aD (M2 e0 el) ?_));rcases hq with⟨hz,rfl,rfl⟩|⟨hz,rfl,rfl⟩
  .refine gA (α:=Unit) (N:=xss.length) (λ_ _=>[(25,v),(6,.nils)]) (λ_ _ h'=>h'=h2) () (λ_ _=>rfl) om (O1 e0) rfl ?_ ?_
   .rintro k _ ts h1 hk rfl ⟨ei,en,e25,e6,-⟩;simp only at ei en e25 e6;obtain⟨b1,p1,a1,r1,_⟩:=hvk k hk;have hle:=kz xss (k+1);rw[fD hk,aB]at hle;have hk0:xss[k]=[]:=bF.1 om;have s1:=(hxk k hk).src.1;rw[hk0]at s1;have ap:iX h1 1 8 .nils (vs[k]'om)=some (.nils,h1):=by simp[iX,s1]
    refine ai (aD (M4 e25 ei a1 r1) ?_);refine aD (M2 e6 ap) ?_;exact⟨(),rfl,O3 ei en e25⟩
   .rintro _ ts h1 rfl ⟨e25,e6,-⟩;simp only at e25 e6;refine ai (aD (M1 e6) ?_);exact bU ⟨_,(by simp only[rs,rf99,am,aI,simprocAttr]<;>rfl),.inl ⟨rfl,by rw[bF.1 hz];rfl⟩,Nu⟩
  .have g2:(h1.new (.cells (dA [.int .i64 0] xss.flatten.length) 1 false)).get h1.next=some (.cells (dA [.int .i64 0] xss.flatten.length) 1 false):=by rw[AH.get_new,if_pos rfl]
   have x2:Ext h1.next h1 (h1.new (.cells (dA [.int .i64 0] xss.flatten.length) 1 false)):=Nt (ab _);generalize h1.new (.cells (dA [.int .i64 0] xss.flatten.length) 1 false)=h2 at *
   refine gA (α:=Unit) (N:=xss.length) (λk _=>[(25,v),(6,.sl h1.next 0 (xss.take k).flatten.length xss.flatten.length)])
    (λk _ h'=>h'.get h1.next=some (.cells ((xss.take k).flatten.flatMap eI++dA [.int .i64 0] (xss.flatten.length-(xss.take k).flatten.length)) 1 false)/\Ext h1.next h1 h') () (λ_ _=>rfl) om (by simp only[cG,dl,am,aI,↓reduceIte,Nat.reduceEqDiff,Int.reduceEq,Nat.reduceAdd,Nat.reduceLeDiff,reduceCtorEq,e0,eZ,nG,aU]) ⟨g2,x2⟩ ?_ ?_
   .rintro k _ ts h3 hk ⟨j1,j2⟩ ⟨ei,en,e25,e6,-⟩;simp only at ei en e25 e6;obtain⟨b1,p1,a1,r1,hb⟩:=hvk k hk;have hle:=kz xss (k+1);rw[fD hk,aB]at hle;have fl:((xss.take k).flatten.flatMap eI).length=(xss.take k).flatten.length*1:=dN (f:=eI) (e:=1) (λ_=>rfl) _;obtain⟨h4,p4,u4⟩:=Nj (bytes:=8) (cap:=xss.flatten.length) j1 fl ((hxk k hk).ext j2 (ab _)) Hb (by rw[ah];omega) (by rw[ah,zk];simp only[ar,aU];omega);have ef:(xss.take k).flatten.length+xss[k].length=(xss.take (k+1)).flatten.length:=by rw[fD hk,aB]
    rw[ah,ef]at p4;have e2:(xss.take k).flatten.flatMap eI++(xss[k].map eI).flatten++(dA [.int .i64 0] (xss.flatten.length-(xss.take k).flatten.length)).drop ((xss[k].map eI).length*1)=(xss.take (k+1)).flatten.flatMap eI++dA [.int .i64 0] (xss.flatten.length-(xss.take (k+1)).flatten.length):=by
     rw[fD hk,bL,<-sS,ah,aB];congr 1;rw[show xss.flatten.length-(xss.take k).flatten.length=xss[k].length+(xss.flatten.length-((xss.take k).flatten.length+xss[k].length)) by omega];exact vL (z:=[.int .i64 0]) _ _
    rw[e2]at u4;have r1':aA h3 b1 p1 1=some [vs[k]'om]:=by rw[cU (j2.gt _ hb)];exact r1
    refine ai (aD (M4 e25 ei a1 r1') ?_);refine aD (M2 e6 p4) ?_;exact⟨(),⟨u4.get,j2.trans (u4.ext (ab _))⟩,O3 ei en e25⟩
   .rintro _ ts h3 ⟨j1,j2⟩ ⟨e25,e6,-⟩;simp only at e25 e6;rw[cZ]at j1 e6;refine ai (aD (M1 e6) ?_);refine bU ⟨_,(by simp only[rs,rf99,am,aI,simprocAttr]<;>rfl),.inr ⟨h1.next,xss.flatten.length,ab _,rfl,?_,dN (f:=eI) (e:=1) (λ_=>rfl) _⟩,j2⟩;rw[j1,dP];simp[dA]
open Go.Am
def okE(v:Int)(e:Int×Int):Bool:=decide (0<=e.1)&&decide (0<=e.2)&&decide (e.1<v)&&decide (e.2<v)
def pM(v:Int)(es:List (Int×Int)):Bool:=decide (1<=v)&&decide (v<=64)&&decide (es.length<=128)&&es.all (okE v)
def zA(v x:Int):Bool:=decide (x<0)||decide (v<=x)
theorem Ab{b:Nat}{x:Int}(hr:aA h b 0 1=some [.int .i64 n]):C prg 36 [.int .i64 x,.ptr b 0] h λr h'=>r=.bool (zA n x)/\h'=h:=by
 refine Ny pf36 ?_;refine ai (aD (Mi0) ?_);by_cases q:x<0
 .have c1:decide (x<0)=true:=bp q;refine ai (aD (Mi1 c1) ?_);exact bU ⟨.bool true,(by simp only[rs,rf36,am,aI,simprocAttr,c1]<;>rfl),by simp[zA,q],rfl⟩
 .have c1:decide (x<0)=false:=aX q;refine ai (aD (Mi2 c1 hr) ?_);exact bU ⟨.bool (decide (n<=x)),(by simp only[rs,rf36,am,aI,simprocAttr,c1]<;>rfl),by simp[zA,q],rfl⟩
theorem Ic{b s:Nat}{x:Int×Int}(hr:aA h b 0 1=some [.int .i64 n])(hs:aA h s 0 1=some [.fn 36 [.ptr b 0]])(hb:b<h.next)(hsn:s<h.next) :
 C prg 38 ([.agg (eE x)]++[.ptr s 0]) h λr h'=>r=.bool (!okE n x)/\Ext h.next h h':=by
 refine Ny pf38 ?_;have fin:(!okE n x)=(zA n x.1||zA n x.2):=by
  obtain⟨x1,x2⟩:=x;simp only[okE,zA];by_cases a1:x1<0<;>by_cases a2:x2<0<;>by_cases a3:n<=x1<;>by_cases a4:n<=x2<;>simp[a1,a2,a3,a4]<;>omega
 rw[fin];refine ai (aD (by simp only[am,aI,simprocAttr,bP,eE]<;>rfl) ?_);have ex:Ext h.next h (h.new (.cells [.int .i64 x.1,.int .i64 x.2] 2 false)):=Nt (ab _);have g:(h.new (.cells [.int .i64 x.1,.int .i64 x.2] 2 false)).get h.next=some (.cells [.int .i64 x.1,.int .i64 x.2] 2 false):=by rw[AH.get_new,if_pos rfl]
 generalize h.new (.cells [.int .i64 x.1,.int .i64 x.2] 2 false)=h1 at *
 have r1:aA h1 h.next 0 1=some [.int .i64 x.1]:=by rw[bI g];rfl
 have r2:aA h1 h.next 1 1=some [.int .i64 x.2]:=by rw[bI g];rfl
 have hr1:aA h1 b 0 1=some [.int .i64 n]:=by rw[<-hr];exact cU (ex.gt b hb)
 have hs1:aA h1 s 0 1=some [.fn 36 [.ptr b 0]]:=by rw[<-hs];exact cU (ex.gt s hsn)
 refine ai (bS (ku 3 (by simp only[am,aI,simprocAttr,bP,eE,hs1,r1]<;>rfl) rfl (by simp only[am,aI,simprocAttr,bP,eE,hs1,r1]) (by simp only[am,aI,simprocAttr,bP,eE,hs1,r1]<;>rfl) (by simp only[am,aI,simprocAttr,bP,eE,hs1,r1]<;>rfl) (Ab (x:=x.1) hr1) λr h2 hq=>?_));obtain⟨rfl,rfl⟩:=hq;cases q:zA n x.1 with
 |true =>
   refine G.nocallv 4 (M0) rfl (Z0) ?_;refine bM (M0) ?_;exact bU ⟨.bool true,(by simp only[rs,rf38,am,aI,simprocAttr]<;>rfl),rfl,ex⟩
 |false =>
   refine ku 4 (by simp only[am,aI,simprocAttr,bP,eE,hs1,r2]<;>rfl) rfl (by simp only[am,aI,simprocAttr,bP,eE,hs1,r2]) (by simp only[am,aI,simprocAttr,bP,eE,hs1,r2]<;>rfl) (by simp only[am,aI,simprocAttr,bP,eE,hs1,r2]<;>rfl) (Ab (x:=x.2) hr1) λr h3 hq=>?_;obtain⟨rfl,rfl⟩:=hq;refine bM (M0) ?_;exact bU ⟨.bool (zA n x.2),(by simp only[rs,rf38,am,aI,simprocAttr]<;>rfl),rfl,ex⟩
theorem Dj(he:SlE h ev es)(hl:es.length<2^40):C prg 19 [.agg [.int .i64 n,ev]] h λr h'=>r=.bool (pM n es)/\Ext h.next h h':=by
 refine Ny pf19 ?_;obtain⟨ec,eo⟩:=he.cells;have hlen:=he.len;rw[ah]at hlen;refine ai (aD (Mi0) ?_);have ex0:Ext h.next h (h.new (.cells [.int .i64 n,ev] 2 false)):=Nt (ab _);have g0:(h.new (.cells [.int .i64 n,ev] 2 false)).get h.next=some (.cells [.int .i64 n,ev] 2 false):=by rw[AH.get_new,if_pos rfl]
 have n0:(h.new (.cells [.int .i64 n,ev] 2 false)).next=h.next+1:=rfl;generalize h.new (.cells [.int .i64 n,ev] 2 false)=h0 at *
 have gN:(h0.new (.cells [.nilf] 1 false)).get h0.next=some (.cells [.nilf] 1 false):=by rw[AH.get_new,if_pos rfl]
 have w1:cj (h0.new (.cells [.nilf] 1 false)) h0.next 0 [.fn 36 [.ptr h.next 0]]=some ((h0.new (.cells [.nilf] 1 false)).put h0.next (.cells [.fn 36 [.ptr h.next 0]] 1 false)):=by rw[ez gN];rfl
 have u1:Upd (h0.new (.cells [.nilf] 1 false)) ((h0.new (.cells [.nilf] 1 false)).put h0.next (.cells [.fn 36 [.ptr h.next 0]] 1 false)) h0.next (.cells [.fn 36 [.ptr h.next 0]] 1 false):=Nv gN;refine ai (aD (Mi1 w1) ?_);have ex1:Ext h0.next h0 ((h0.new (.cells [.nilf] 1 false)).put h0.next (.cells [.fn 36 [.ptr h.next 0]] 1 false)):=(Nt (ab _)).trans (u1.ext (ab _));have n1:((h0.new (.cells [.nilf] 1 false)).put h0.next (.cells [.fn 36 [.ptr h.next 0]] 1 false)).next=h0.next+1:=rfl;have g1:=u1.get;generalize (h0.new (.cells [.nilf] 1 false)).put h0.next (.cells [.fn 36 [.ptr h.next 0]] 1 false)=h1 at *
 clear gN w1 u1;have g0':h1.get h.next=some (.cells [.int .i64 n,ev] 2 false):=by rw[ex1.gt _ om];exact g0
 have r1:aA h1 h.next 0 1=some [.int .i64 n]:=by rw[bI g0'];rfl
 have r2:aA h1 h.next 1 1=some [ev]:=by rw[bI g0'];rfl
 have r3:aA h1 h0.next 0 1=some [.fn 36 [.ptr h.next 0]]:=by rw[bI g1];rfl
 have ex:Ext h.next h h1:=ex0.trans (ex1.mono om);have he1:=he.ext ex (ab _);by_cases q1:0<n
 case neg =>
  have c1:decide (0<n)=false:=aX q1;refine ai (bS (kr 18 (Mi2 r1 c1) rfl (Z1 c1) ?_));refine bM (M0) ?_;exact bU ⟨.bool false,(by simp only[rs,rf19,am,aI,simprocAttr]<;>rfl),by simp[pM];omega,ex⟩
 have c1:decide (0<n)=true:=bp q1;by_cases q2:n<=64
 case neg =>
  have c2:decide (n<=64)=false:=aX q2;refine ai (bS (kr 18 (Mi3 r1 c1 c2) rfl (Z0) ?_));refine bM (M0) ?_;exact bU ⟨.bool false,(by simp only[rs,rf19,am,aI,simprocAttr]<;>rfl),by simp[pM,q2],ex⟩
 have c2:decide (n<=64)=true:=bp q2;by_cases q3:es.length<=128
 case neg =>
  have c3:decide (((es.length:Nat):Int)<=128)=false:=aX om;refine ai (bS (kr 18 (Mi6 r1 r2 hlen c1 c2 c3) rfl (Z0) ?_));refine bM (M0) ?_;exact bU ⟨.bool false,(by simp only[rs,rf19,am,aI,simprocAttr]<;>rfl),by simp[pM,q3],ex⟩
 have c3:decide (((es.length:Nat):Int)<=128)=true:=bp om
 have hcf:∀x∈es,∀h',Ext h1.next h1 h'->C prg 38 ([.agg (eE x)]++[.ptr h0.next 0]) h' λr h''=>r=.bool (!okE n x)/\Ext h'.next h' h'':=λx _ h' hx =>
  Ic (by rw[<-r1];exact cU (hx.gt _ om)) (by rw[<-r3];exact cU (hx.gt _ om)) (by have:=hx.nx;omega) (by have:=hx.nx;omega)
 refine ai (bS (bE 18 (Mi6 r1 r2 hlen c1 c2 c3) rfl (Zi6 r1 r2 hlen c1 c2 c3) (Mi6 r1 r2 hlen c1 c2 c3) (xc he1 hl hcf) λr h2 hq=>?_));obtain⟨rfl,ex2⟩:=hq;refine bM (M0) ?_;refine bU ⟨_,(by simp only[rs,rf19,am,aI,simprocAttr]<;>rfl),?_,ex.trans (ex2.mono ex.nx)⟩;have c4:decide (1<=n)=true:=bp om;have c5:(!es.any λx=>!okE n x)=es.all (okE n):=by
  rw[List.not_any_eq_all_not];simp
 simp only[pM,c4,c2,q3,decide_true,nK,c5]
open Go.Am
def Rw(h:AH)(lo:Nat)(vs:List AV)(xss:List (List Int)):Prop :=
 vs.length=xss.length/\(∀(i:Nat) (v:AV) (xs:List Int),vs[i]?=some v->xss[i]?=some xs->IsSl h 1 lo v (xs.flatMap eI))/\∀(i j b n b' n':Nat),i≠j->vs[i]?=some (AV.sl b 0 n n)->vs[j]?=some (AV.sl b' 0 n' n')->b≠b'
theorem Rw.cong{h h':AH}{lo:Nat}{vs:List AV}{xss:List (List Int)}(hr:Rw h lo vs xss)(hk:∀c,lo<=c->c<h.next->h'.get c=h.get c):Rw h' lo vs xss :=
 ⟨hr.1,λi v xs h1 h2=>(hr.2.1 i v xs h1 h2).cong λb n e hb=>hk b hb ((hr.2.1 i v xs h1 h2).lt e),hr.2.2⟩
theorem Rw.lt(hr:Rw h lo vs xss){j b n:Nat}(hj:vs[j]?=some (AV.sl b 0 n n)):b<h.next/\lo<=b:=by
 have hjl:j<vs.length:=(aF.1 hj).1;have:=hr.2.1 j _ (xss[j]'(by rw[<-hr.1];exact hjl)) hj (ae _);rcases this with⟨q,_⟩|⟨b',n',q1,q2,q3,_⟩
 .cases q
 .cases q2;exact⟨AH.lt_of_get q3,q1⟩
theorem Rw.push(hr:Rw h lo vs xss){i x:Nat}{k:Int}{xs:List Int}(hi:xss[i]?=some xs)(hlo:lo<=h.next)(hx:h.get x=some (.cells [.int .i64 k] 1 false))(hxl:lo<=x)(hxn:∀(j b n:Nat),vs[j]?=some (AV.sl b 0 n n)->b≠x)(hl:xs.length<2^30) :
 ∃v v' h',vs[i]?=some v/\iX h 1 8 v (.sl x 0 1 1)=some (v',h')/\v'.cells=[v']/\v'.one=true/\Rw h' lo (vs.set i v') (xss.set i (xs++[k]))/\Ext lo h h'/\h'.next=h.next+1/\∀c,c<h.next->(∀(j b n:Nat),vs[j]?=some (AV.sl b 0 n n)->b≠c)->h'.get c=h.get c/\∀(j b n:Nat),(vs.set i v')[j]?=some (AV.sl b 0 n n)->b≠c:=by
 obtain⟨r1,r2,r3⟩:=hr;have hil:i<xss.length:=(aF.1 hi).1;have hv:vs[i]?=some vs[i]:=ae om;have hlen:(xs.flatMap eI).length=xs.length:=by rw[dN (f:=eI) (e:=1) (λ_=>rfl)];omega
 obtain⟨v',h',a1,a2,a3,a4,a5,a6,a7⟩:=(r2 i _ xs hv hi).app (bytes:=8) hlo om hx hxl (λb n e=>hxn i b n (by rw[hv,e])) rfl rfl (by rw[hlen];unfold bq;omega) (by rw[hlen];unfold bq;omega);obtain⟨c1,c2⟩:=a2.cells;refine⟨_,v',h',hv,a1,c1,c2,⟨by rw[dh,dh,r1],?_,?_⟩,a3,a5,λc hc hne=>⟨a6 c hc λb n e=>(hne i b n (by rw[hv,e])).symm,λj b n hj=>?_⟩⟩
 rotate_right
 .by_cases e:i=j
  .subst e;rw[cK om,aa,a4]at hj;cases hj;omega
  .rw[cQ e]at hj;exact hne j b n hj
 .intro j w ys hw hy;by_cases e:i=j
  .subst e;rw[cK om,aa]at hw hy;subst hw hy;rw[bL];exact a2
  .rw[cQ e]at hw hy;refine(r2 j w ys hw hy).cong λb n eb hb=>a6 b ((r2 j w ys hw hy).lt eb) λb' n' e'=>?_;exact(r3 i j b' n' b n e (by rw[hv,e']) (by rw[hw,eb])).symm
 .have hlt:∀j b n,vs[j]?=some (AV.sl b 0 n n)->b<h.next:=λj b n hj=>by
   have hjl:j<vs.length:=(aF.1 hj).1;exact(r2 j _ xss[j] hj (ae om)).lt rfl
  intro j1 j2 b n b' n' hne h1 h2;by_cases e:i=j1
  .subst e;rw[cK om,aa,a4]at h1;rw[cQ hne]at h2;have:=hlt _ _ _ h2;cases h1;omega
  .rw[cQ e]at h1;by_cases e2:i=j2
   .subst e2;rw[cK om,aa,a4]at h2;have:=hlt _ _ _ h1;cases h2;omega
   .rw[cQ e2]at h2;exact r3 _ _ _ _ _ _ hne h1 h2
theorem xO{n:Nat}(hm:pM (n:Nat) es=true):1<=n/\n<=64/\es.length<=128/\es.all (okE n)=true:=by
 simp only[pM,aL,aK]at hm;exact⟨om,om,om,hm.2⟩
theorem KE{n:Nat}{e:Int×Int}(h:okE n e=true):∃a b:Nat,e=(((a:Nat):Int),((b:Nat):Int))/\a<n/\b<n:=by
 obtain⟨x,y⟩:=e;simp only[okE,aL,aK]at h;exact⟨x.toNat,y.toNat,by rw[Int.toNat_of_nonneg om,Int.toNat_of_nonneg om],om,om⟩
open Go.Am
open Go.Am
theorem Dk(xs:List Int):xs.flatMap eI=xs.map (AV.int .i64):=by
 induction xs with
 |nil=>rfl
 |cons x r ih=>rw[bm,ih];rfl
end Go.Proofs.YtlolkmcdimgplaaGreat
