/- Such graphs are plain; can't be laid in the plane; can, with -/
import Derived.Test.YtlolkmcdimgplaaGreatVTAY
set_option linter.all false
namespace Go.Proofs.YtlolkmcdimgplaaGreat
open Go.Am
open Go.Kur
section
variable {B K:Nat}{a b ks:Nat->Nat}
def mkI(B:Nat)(a b ks:Nat->Nat)(K:Nat):List (Int×Int):=(mkE B a b ks K).map toI
theorem xK:(mkI B a b ks K).length=sK ks K+K:=by unfold mkI;rw[ah,oO]
theorem iC(m:Nat):(nLK (gM m)).Nodup:=by rw[mR];exact be
theorem tq(m i0:Nat):(nLK (pU m i0)).Nodup:=by rw[CY];exact List.nodup_range.filter _
theorem xJ(lt:∀j,j<K->a j<B/\b j<B/\a j≠b j):Mde B K a b ks (grK (mkI B a b ks K) (gM (mkI B a b ks K).length) (iC _)):=by
 have:=HC (ks:=ks) lt (iC _);have e:(mkI B a b ks K).length=(mkE B a b ks K).length:=ah ..;have:∀m,m=(mkE B a b ks K).length->Mde B K a b ks (grK (mkI B a b ks K) (gM m) (iC m)):=λm hm=>by subst hm;exact this
 exact this _ e
theorem sY{i:Nat}(hi:i<(mkI B a b ks K).length):(mkI B a b ks K)[i]=(((tlK (mkI B a b ks K) i:Nat):Int),((hdK (mkI B a b ks K) i:Nat):Int)):=by
 unfold mkI at hi |-;rw[(CC i).1,(CC i).2,ft];have hi':i<(mkE B a b ks K).length:=by rwa [ah]at hi
 rw[aj,ae hi'];rfl
theorem vY(lt:∀j,j<K->a j<B/\b j<B/\a j≠b j)(hs:∀j j',j<K->j'<K->a j=a j'/\b j=b j'\/a j=b j'/\b j=a j'->j=j')(h1:1<=B+sK ks K)(h2:B+sK ks K<=64)(h3:sK ks K+K<=128) :
 ip ((B+sK ks K:Nat):Int) (mkI B a b ks K):=by
 have M:=xJ (ks:=ks) lt;have hE:∀{i},i<(mkI B a b ks K).length->i∈(grK (mkI B a b ks K) (gM (mkI B a b ks K).length) (iC _)).E:=fun {i} hi=>by
  show i∈nLK _;rw[mR];exact aq.2 hi
 have hb:∀i (hi:i<(mkI B a b ks K).length),tlK (mkI B a b ks K) i<B+sK ks K/\hdK (mkI B a b ks K) i<B+sK ks K:=λi hi=>M.bel i (hE hi);have hne:∀i (hi:i<(mkI B a b ks K).length),tlK (mkI B a b ks K) i≠hdK (mkI B a b ks K) i:=λi hi=>M.ne i (hE hi);refine⟨?_,λe he=>?_,?_⟩
 .unfold pM;rw[aL,aL,aL,aK,aK,aK,bZ];refine⟨⟨⟨om,om⟩,by rw[xK];exact h3⟩,λe he=>?_⟩;obtain⟨i,hi,rfl⟩:=fK he;rw[sY hi];have:=hb i hi;unfold okE;simp only[aL,aK];omega
 .obtain⟨i,hi,rfl⟩:=fK he;rw[sY hi];have:=hne i hi;simp only;omega
 .rw[qg,dH,dm];intro i j hi hj hij he;have e:=sX.1 he;rw[sY hi,sY hj]at e;simp only[ak]at e;have u1:i∈(grK (mkI B a b ks K) (gM (mkI B a b ks K).length) (iC _)).ends (tlK (mkI B a b ks K) i):=mem_ends.2 ⟨hE hi,.inl rfl⟩;have u2:i∈(grK (mkI B a b ks K) (gM (mkI B a b ks K).length) (iC _)).ends (hdK (mkI B a b ks K) i):=mem_ends.2 ⟨hE hi,.inr rfl⟩;have u3:j∈(grK (mkI B a b ks K) (gM (mkI B a b ks K).length) (iC _)).ends (tlK (mkI B a b ks K) i):=mem_ends.2 ⟨hE hj,by
   show tlK _ _=_\/hdK _ _=_;omega⟩
  have u4:j∈(grK (mkI B a b ks K) (gM (mkI B a b ks K).length) (iC _)).ends (hdK (mkI B a b ks K) i):=mem_ends.2 ⟨hE hj,by
   show tlK _ _=_\/hdK _ _=_;omega⟩
  have:=M.simple hs (hE hi) (hE hj) (hne i hi) u1 u2 u3 u4;omega
theorem kb(m:Nat):(gM m).length=m:=by unfold gM;rw[ah,br]
theorem AI{m k:Nat}(hk:k<(gM m).length):(gM m)[k]=((k:Nat):Int):=(List.getElem_eq_iff hk).2 (by
 rw[kb]at hk;unfold gM;rw[aG,fL hk];rfl)
theorem Df{n:Nat}{E:List (Int×Int)}(hP:ip (n:Nat) E):LayP (n:Nat) E (gM E.length):=λk hk=>by
 have hk':k<E.length:=by rwa [kb]at hk
 have hE:InG n E:=by simpa using mX hP.1
 obtain⟨h1,h2,h3⟩:=hE k hk';rw[AI hk];refine⟨⟨om,om,?_⟩,λhm=>?_⟩
 .rw[dn,aj,ae hk',er,h1];simp only;omega
 .obtain⟨j,hj,e⟩:=fK hm;rw[List.getElem_take,AI]at e;rw[bK]at hj;omega
structure Kind(n:Nat)(E:List (Int×Int))(c:Int):Prop where
 plain:ip (n:Nat) E
 five:(c=5/\kw (grK E (gM E.length) (iC _)))\/(c=33/\¬kw (grK E (gM E.length) (iC _))/\kG (grK E (gM E.length) (iC _)))
 less:∀i0,i0<E.length->¬kw (grK E (pU E.length i0) (tq _ _))/\¬kG (grK E (pU E.length i0) (tq _ _))
theorem ET(E:List (Int×Int)):pC E (gM E.length)=E:=by
 unfold pC gM;rw[gC];refine List.ext_getElem (by rw[ah,br]) λi h1 h2=>?_;rw[ft,List.getElem_range];show E.getD ((i:Nat):Int).toNat (0,0)=_;rw[dn,aj,ae h2];rfl
theorem ER(E:List (Int×Int)){i:Nat}(hi:i<E.length):pC E ((gM E.length).take i++(gM E.length).drop (i+1))=E.eraseIdx i:=by
 have:=ET E;unfold pC at this |-;rw[bR,eM,fE,this,fP]
theorem Kind.dp{n:Nat}{E:List (Int×Int)}{c:Int}(k:Kind n E c):¬IsP (n:Nat) E/\∀i,i<E.length->IsP (n:Nat) (E.eraseIdx i):=by
 have hl:=Df k.plain;obtain⟨s,hs⟩:=Nk (n:Nat) E (gM E.length);have ht:Cs (grK E (gM E.length) hl.nodup.1) (.int .i64 c):=by
  rcases k.five with⟨rfl,h⟩|⟨rfl,h1,h2⟩
  .exact .inl ⟨h,rfl⟩
  .exact .inr (.inl ⟨h1,h2,rfl⟩)
 obtain⟨z,e1,rfl⟩:=EQ (.inr ⟨hl,ht⟩) hs;rw[AV.int.injEq]at e1;obtain⟨_,rfl⟩:=e1;have hc:c≠0:=by rcases k.five with⟨rfl,_⟩|⟨rfl,_⟩<;>omega
 rcases Nl k.plain hs with h|⟨_,_,h1,_,h2⟩
 .rw[AV.int.injEq]at h;exact absurd h.2 hc
 .refine⟨h1,λi hi=>?_⟩;have:=h2 i (by rw[kb];exact hi);rwa [ER E hi]at this
theorem ze{ks:Nat->Nat}(h:∀j,ks j<=2):∀{K:Nat},sK ks K<=2*K
 |0=>ab _
 |K+1=>by have:=ze h (K:=K);have:=h K;rw[sK];omega
theorem Ma{ks:Nat->Nat}(h:∀j,ks j<=2):Kind (5+sK ks 10) (mkI 5 (fA p5) (fB p5) ks 10) 5:=by
 have lt:∀j,j<10->fA p5 j<5/\fB p5 j<5/\fA p5 j≠fB p5 j:=by decide
 have hs:∀j,j<10->∀j',j'<10->fA p5 j=fA p5 j'/\fB p5 j=fB p5 j'\/fA p5 j=fB p5 j'/\fB p5 j=fA p5 j'->j=j':=by decide
 have hk:=ze h (K:=10);have M:=xJ (ks:=ks) lt;exact⟨vY lt (λj j' hj hj'=>hs j hj j' hj') om om om,.inl ⟨rfl,made5 M⟩,λi0 hi=>less5 M (wi (iC _) (tq _ _)) (by
  show i0∈nLK _;rw[mR];exact aq.2 hi)⟩
theorem kind6{ks:Nat->Nat}(h:∀j,ks j<=2):Kind (6+sK ks 9) (mkI 6 (fA p6) (fB p6) ks 9) 33:=by
 have lt:∀j,j<9->fA p6 j<6/\fB p6 j<6/\fA p6 j≠fB p6 j:=by decide
 have hs:∀j,j<9->∀j',j'<9->fA p6 j=fA p6 j'/\fB p6 j=fB p6 j'\/fA p6 j=fB p6 j'/\fB p6 j=fA p6 j'->j=j':=by decide
 have hk:=ze h (K:=9);have M:=xJ (ks:=ks) lt;obtain⟨m1,m2⟩:=made6 M;exact⟨vY lt (λj j' hj hj'=>hs j hj j' hj') om om om,.inr ⟨rfl,m1,m2⟩,λi0 hi=>less6 M (wi (iC _) (tq _ _)) (by
  show i0∈nLK _;rw[mR];exact aq.2 hi)⟩
end
open Go.Am
variable {E:List (Int×Int)}{h:AH}{j k lo:Nat}{v:AV}
theorem wJ(hk:k<=E.length):(E.flatMap eE).drop (k*2)=(E.drop k).flatMap eE:=by
 have e1:(E.take k++E.drop k).flatMap eE=E.flatMap eE:=by rw[cm]
 rw[<-e1,bL,List.drop_left' (by rw[dN (f:=eE) (e:=2) (λ_=>rfl),bK];omega)]
theorem Fb(hk:k<=E.length):(E.flatMap eE).take (k*2)=(E.take k).flatMap eE:=by
 have e1:(E.take k++E.drop k).flatMap eE=E.flatMap eE:=by rw[cm]
 rw[<-e1,bL,jj (by rw[dN (f:=eE) (e:=2) (λ_=>rfl),bK];omega)]
set_option maxHeartbeats 1000000 in
theorem Lq{i:Nat}(hv:IsSl h 2 lo v (E.flatMap eE))(hi:i<E.length)(hl:E.length<2^30) :
 C prg 20 [v,.int .i64 (i:Nat),.int .i64 ((i+1:Nat):Int)] h λr h'=>SlE h' r (E.eraseIdx i)/\Ext lo h h':=by
 have hs:=Nq (f:=eE) (e:=2) om (λ_=>rfl) hv;obtain⟨vc,vo⟩:=hs.cells;rcases hv with⟨_,hz⟩|⟨b,m,hb,rfl,gb,hbl⟩
 .exfalso;have:=congrArg List.length hz;rw[dN (f:=eE) (e:=2) (λ_=>rfl)]at this;have this:E.length*2=0:=this;omega
 have hm:E.length=m:=by rw[dN (f:=eE) (e:=2) (λ_=>rfl)]at hbl;omega
 subst hm;refine Ny pf20 ?_;refine ai (aD (Mi0) ?_);have b1:bnd (.int .i64 ((E.length:Nat):Int)) E.length=some E.length:=gJ (ab _);have b2:bnd (.int .i64 ((i+1:Nat):Int)) E.length=some (i+1):=gJ om;have b3:bnd (.int .i64 ((i:Nat):Int)) (i+1)=some i:=gJ om;have b4:bnd (.int .i64 ((i:Nat):Int)) E.length=some i:=gJ om;obtain⟨o1,n1,c1,s1⟩:∃o n c,slV h 2 (.sl b 0 E.length E.length) (some (.int .i64 ((i:Nat):Int))) (some (.int .i64 ((i+1:Nat):Int))) (some (.int .i64 ((E.length:Nat):Int)))=some (.sl b o n c):=by
  refine⟨if E.length=i then 0 else 0+i*2,i+1-i,E.length-i,?_⟩;simp only[slV,gb,if_true,pV,b1,b2,b3,aC]
 refine ai (aD (by simp only[am,aI,simprocAttr,bP,dY,bN,aC,s1]<;>rfl) ?_);have d1:decide (((i:Nat):Int)=((i+1:Nat):Int))=false:=aX om;refine ai (ai (aD (Mi1 d1) ?_));refine dR (Z0) (bQ ?_);refine ai (aD (Mi0) ?_);obtain⟨o2,s2⟩:∃o,slV h 2 (.sl b 0 E.length E.length) none (some (.int .i64 ((i:Nat):Int))) none=some (.sl b 0 i E.length)/\o=0:=by
  refine⟨0,?_,rfl⟩;simp only[slV,gb,if_true,pV,b4,aC,lY,dX,ite_self,FS]
 obtain⟨Y,h2,w,s3,hap,x2,g2,hY,hYt⟩:∃(Y:List (Int×Int)) (h2:AH) (w:AV),slV h 2 (.sl b 0 E.length E.length) (some (.int .i64 ((i+1:Nat):Int))) none none=some w/\iX h 2 16 (.sl b 0 i E.length) w=some (.sl b 0 (E.length-1) E.length,h2)/\Ext lo h h2/\h2.get b=some (.cells (Y.flatMap eE) 2 false)/\Y.length=E.length/\Y.take (E.length-1)=E.eraseIdx i:=by
  have hY:(E.take i++E.drop (i+1)++E.drop (E.length-1)).length=E.length:=by simp only[aB,bK,dr];omega
  have hYt:(E.take i++E.drop (i+1)++E.drop (E.length-1)).take (E.length-1)=E.eraseIdx i:=by
   rw[jj (by simp only[aB,bK,dr];omega),fP]
  by_cases hz:i+1=E.length
  .have e1:E.take i++E.drop (i+1)++E.drop (E.length-1)=E:=by
    rw[cL om,bV,show E.length-1=i by omega,cm]
   have b5:bnd (.int .i64 ((i+1:Nat):Int)) E.length=some E.length:=by rw[b2,hz]
   refine⟨E.take i++E.drop (i+1)++E.drop (E.length-1),h,.sl b 0 0 0,?_,?_,Nu,by rw[e1];exact gb,hY,hYt⟩
   .simp only[slV,gb,if_true,pV,b5,aC,fS,bC,if_false,dP]
   .have hr:aA h b 0 (0*2)=some []:=by rw[bI gb,if_pos om];rfl
    simp only[iX,eT,hr,aC,List.all_nil,if_true];rw[show E.length-1=i by omega]
  .have hnew:aA h b ((i+1)*2) ((E.length-(i+1))*2)=some ((E.drop (i+1)).flatMap eE):=by
    have hl1:((E.drop (i+1)).flatMap eE).length=(E.length-(i+1))*2:=by rw[dN (f:=eE) (e:=2) (λ_=>rfl),dr]
    rw[bI gb,if_pos (by rw[hbl];omega),wJ om,<-hl1,cZ]
   have hone:((E.drop (i+1)).flatMap eE).all AV.one=true:=Hc;have hl1:((E.drop (i+1)).flatMap eE).length=(E.length-(i+1))*2:=by rw[dN (f:=eE) (e:=2) (λ_=>rfl),dr]
   have hwr:cj h b (0+i*2) ((E.drop (i+1)).flatMap eE)=some (h.put b (.cells ((E.take i++E.drop (i+1)++E.drop (E.length-1)).flatMap eE) 2 false)):=by
    rw[ez gb,if_pos (by rw[hbl,hl1];omega)];congr 3;unfold dD;rw[hl1,show 0+i*2=i*2 by omega,show i*2+(E.length-(i+1))*2=(E.length-1)*2 by omega,wJ om,Fb om,bL,bL]
   refine⟨E.take i++E.drop (i+1)++E.drop (E.length-1),_,_,za gb om (ab _) om,?_,Ext.put hb,(Nv gb).get,hY,hYt⟩;simp only[iX,eT,hnew,aC,hone,if_true];rw[if_neg om,if_pos om,hwr,aC];congr 3;omega
 refine ai (aD (by simp only[am,aI,simprocAttr,bP,dY,bN,aC,s2.1,s3,hap]<;>rfl) ?_);have s4:slV h2 2 (.sl b 0 (E.length-1) E.length) (some (.int .i64 ((E.length-1:Nat):Int))) (some (.int .i64 ((E.length:Nat):Int))) none=some (.sl b ((E.length-1)*2) (E.length-(E.length-1)) (E.length-(E.length-1))):=by
  have b6:bnd (.int .i64 ((E.length-1:Nat):Int)) E.length=some (E.length-1):=gJ om;simp only[slV,g2,if_true,pV,b1,b6,aC];rw[if_neg om,cq]
 obtain⟨h3,us,s5,u3,s6,s7⟩:=zc (f:=eE) (e:=2) (z:=((0:Int),(0:Int))) om (λ_=>rfl) rfl g2 hY (show E.length-1<E.length by omega);have s5:zd h2 [.int .i64 0,.int .i64 0] (.sl b ((E.length-1)*2) (E.length-(E.length-1)) (E.length-(E.length-1)))=some (.un,h3):=s5;refine ai (aD (by simp only[am,aI,simprocAttr,bP,dY,bN,aC,s4,s5]<;>rfl) ?_);refine ai (aD (Mi0) ?_);have hle:(E.eraseIdx i).length=E.length-1:=by rw[List.length_eraseIdx,if_pos hi]
 refine bU ⟨.sl b 0 (E.length-1) E.length,(by simp only[rs,rf20,am,aI,simprocAttr]<;>rfl),.inr ⟨b,0,E.length,_,false,by rw[ah,hle],u3.get,by rw[ah,hle];omega,?_,λj x hx=>?_⟩,x2.trans (u3.ext hb)⟩
 .rw[ah,hle,dN (f:=eE) (e:=2) (λ_=>rfl),s6];omega
 .rw[aG]at hx;obtain⟨y,hy,rfl⟩:=aE.1 hx;rw[<-hYt,<-s7,cM]at hy;split at hy
  .rw[cq];exact tn (f:=eE) (e:=2) (λ_=>rfl) us j y hy
  .cases hy
theorem zQ{i:Nat}(hv:SlE h v E)(hi:i<E.length)(hl:E.length<2^30) :
 C prg 12 [v,.int .i64 (i:Nat)] h λr h'=>SlE h' r (E.eraseIdx i)/\Ext h.next h h':=by
 refine Ny pf12 ?_;refine ai (aD (Mi0) ?_);have w1:IntKind.i64.wrap (((i:Nat):Int)+1)=((i+1:Nat):Int):=fx om om;refine ai (bS (bE 1 (Mi0) rfl (Zi0) (Mi0) (Fz hv om) λr h1 hq=>?_));obtain⟨i1,x1,_⟩:=hq;refine bE 3 (Mi1 w1) rfl (Zi1 w1) (Mi1 w1) (Lq i1 hi hl) λr2 h2 hq=>?_;obtain⟨i2,x2⟩:=hq;refine bM (M0) ?_;exact bU ⟨r2,(by simp only[rs,rf12,am,aI,simprocAttr,i2.cells.1]<;>rfl),i2,x1.trans x2⟩
theorem DG(m:Nat):nC (List.range m)=(gM m).flatMap eI:=by
 unfold nC gM;rfl
set_option maxHeartbeats 1000000 in
theorem zR{n:Nat}{ev:AV}(he:SlE h ev E)(hl28:E.length<2^28)(hP:ip (n:Nat) E)(hno:¬IsP (n:Nat) E)(hyes:∀i,i<E.length->IsP (n:Nat) (E.eraseIdx i)) :
 C prg 6 [.agg [.int .i64 (n:Nat),ev]] h λr h'=>∃lv,r=.tup [lv,.int .i64 0]/\SlI h' lv (gM E.length)/\Ext h.next h h':=by
 obtain⟨ec,eo⟩:=he.cells;have el:=he.len;rw[ah]at el;refine Ny pf6 ?_;refine ai (aD (Mi0) ?_);have x0:Ext h.next h (h.new (.cells [.int .i64 (n:Nat),ev] 2 false)):=Nt (ab _);have g0:(h.new (.cells [.int .i64 (n:Nat),ev] 2 false)).get h.next=some (.cells [.int .i64 (n:Nat),ev] 2 false):=by rw[AH.get_new,if_pos rfl]
 have n0:(h.new (.cells [.int .i64 (n:Nat),ev] 2 false)).next=h.next+1:=rfl;generalize (h.new (.cells [.int .i64 (n:Nat),ev] 2 false))=h1 at *
 have rA:aA h1 h.next 0 2=some [.int .i64 (n:Nat),ev]:=by rw[bI g0];rfl
 have he1:=he.ext x0 (ab _);refine ai (cA (ai (bS (bE 1 (Mi1 rA) rfl (Zi1 rA) (Mi1 rA) (vN (n:=(n:Nat)) he1 om) λr h2 hq=>?_))));obtain⟨b,rfl,hb,x2⟩:=hq;obtain rfl:b=true:=hb.2 hP;refine bM (M0) ?_;have n2:=x2.nx;have g2:h2.get h.next=some (.cells [.int .i64 (n:Nat),ev] 2 false):=by rw[x2.gt _ om];exact g0
 have rB:aA h2 h.next 0 2=some [.int .i64 (n:Nat),ev]:=by rw[bI g2];rfl
 refine dR (Z0) (ai (bS (bE 1 (Mi1 rB) rfl (Zi1 rB) (Mi1 rB) (Bk (n:=(n:Nat)) (he1.ext x2 (ab _)) om) λr h3 hq=>?_)));obtain⟨b,rfl,hb3,x3⟩:=hq;obtain rfl:b=false:=by
  cases b with
  |false=>rfl
  |true=>exact absurd (hb3.1 rfl) hno
 have n3:=x3.nx;have X3:Ext h.next h h3:=(x0.trans (x2.mono om)).trans (x3.mono om);have g3:h3.get h.next=some (.cells [.int .i64 (n:Nat),ev] 2 false):=by rw[x3.gt _ om];exact g2
 have rE:aA h3 h.next 1 1=some [ev]:=bJ g3 rfl;refine mc (λts h'=>h'=h3/\aR ts 1=.ptr h.next 0/\aR ts 13=.bool false) (by simp only[am,aI,simprocAttr,bP]) ?_;rintro ts h3' ⟨rfl,e1,e13⟩;refine dR (Z1 e13) (bQ ?_);refine ai (bW (λts h'=>h'=h3'/\aR ts 1=.ptr h.next 0/\aR ts 4=.nils) (by simp only[am,aI,simprocAttr,e1]) ?_);clear e1 e13;rintro ts h3 ⟨rfl,e1,e4⟩;refine ai (jB (λts h'=>∃lv,aR ts 1=.ptr h.next 0/\aR ts 4=lv/\IsSl h' 1 (h.next+1) lv ((gM E.length).flatMap eI)/\Ext (h.next+1) h3 h') ?_ ?_)
 .refine ai (aD (M3 e1 rE el) ?_);refine gA (α:=AV) (N:=E.length) (λ_ a=>[(1,.ptr h.next 0),(4,a)]) (λk a h'=>IsSl h' 1 (h.next+1) a (nC (List.range k))/\Ext (h.next+1) h3 h') .nils (λ_ _=>rfl) om (H2 e1 e4) ⟨.inl ⟨rfl,rfl⟩,Nu⟩ ?_ ?_
  .clear e1 e4;rintro k a ts h4 hk ⟨i4,x4⟩ ⟨ei,en,e1,e4,-⟩;simp only at ei en e1 e4;have n4:=x4.nx;refine ai (aD (M1 ei) ?_);obtain⟨a',h5,p1,p2,p3,p4⟩:=i4.push (bytes:=8) [.int .i64 ((k:Nat):Int)] om om rfl rfl (by rw[eJ,br];unfold bq;omega) (by rw[eJ,br];unfold bq;omega);refine aD (M3 ei e4 p1) ?_;refine⟨a',⟨?_,x4.trans p3⟩,H3 ei en e1⟩;rw[cJ,lS];exact p2
  .clear e1 e4;rintro a ts h4 ⟨i4,x4⟩ ⟨e1,e4,-⟩;exact⟨a,e1,e4,by rw[<-DG];exact i4,x4⟩
 clear e1 e4;rintro ts h4 ⟨lv,e1,e4,i4,x4⟩;have n4:=x4.nx;have g4:h4.get h.next=some (.cells [.int .i64 (n:Nat),ev] 2 false):=by rw[x4.gt _ om];exact g3
 have rE4:aA h4 h.next 1 1=some [ev]:=bJ g4 rfl;have he4:SlE h4 ev E:=he.ext (X3.trans (x4.mono om)) (ab _);have w7:IntKind.i64.wrap (((E.length:Nat):Int)-1)=((E.length:Nat):Int)-1:=fx om om;refine ai (bW (λts h'=>h'=h4/\aR ts 1=.ptr h.next 0/\aR ts 4=lv/\aR ts 6=ev) (by simp only[am,aI,simprocAttr,e1,e4,rE4]) ?_);clear e1 e4;rintro ts h4' ⟨rfl,e1,e4,e6⟩;refine ai (jB (λts h'=>aR ts 4=lv/\Ext h4'.next h4' h') ?_ ?_)
 .refine ai (bW (λts h'=>h'=h4'/\aR ts 1=.ptr h.next 0/\aR ts 4=lv/\aR ts 6=ev/\aR ts 7=.int .i64 (((E.length:Nat):Int)-1)) (by simp only[am,aI,simprocAttr,e1,e4,e6,rE4,el,w7]) ?_);clear e1 e4 e6;rintro ts h5 ⟨rfl,e1,e4,e6,e7⟩;refine cA (fO (λk ts h'=>Ext h5.next h5 h'/\k<=E.length/\Held [(1,.ptr h.next 0),(4,lv),(6,ev),(7,.int .i64 (((k:Nat):Int)-1))] ts) ?_ (n:=E.length) ⟨Nu,ab _,H4 e1 e4 e6 e7⟩);clear e1 e4 e6 e7;rintro k ts h6 ⟨x6,hk,e1,e4,e6,e7,-⟩;simp only at e1 e4 e6 e7;have n6:=x6.nx;cases k with
  |zero =>
    refine ai (ai (aD (M1 e7) ?_));refine dR (by simp only[am,aI,simprocAttr,decide_false]) ?_;exact fp ⟨λ_=>⟨Z1 e4,x6⟩,λe=>absurd rfl e⟩
  |succ i =>
    have ei:(((i+1:Nat):Nat):Int)-1=((i:Nat):Int):=om;rw[ei]at e7;have d1:decide ((0:Int)<=((i:Nat):Int))=true:=bp om;refine ai (ai (aD (M2 e7 d1) ?_));refine dv (Z1 d1) (bQ ?_);have he6:=he4.ext x6 (ab _);refine ai (cA (ai (bS (bE 2 (M2 e6 e7) rfl (Z2 e6 e7) (M2 e6 e7) (zQ he6 (show i<E.length by omega) om) λr h7 hq=>?_))));obtain⟨s7,x7⟩:=hq;have n7:=x7.nx;have X7:Ext h5.next h5 h7:=x6.trans (x7.mono n6);have gn:aA h7 h.next 0 1=some [.int .i64 (n:Nat)]:=bJ (by rw[X7.gt _ om];exact g4) rfl;refine mc (λts h'=>h'=h7/\aR ts 1=.ptr h.next 0/\aR ts 4=lv/\aR ts 6=ev/\aR ts 7=.int .i64 ((i:Nat):Int)/\aR ts 8=r) (by simp only[am,aI,simprocAttr,e1,e4,e6,e7]) ?_;clear e1 e4 e6 e7;rintro ts h7' ⟨rfl,e1,e4,e6,e7,e8⟩;have hle:(E.eraseIdx i).length<2^40:=by rw[List.length_eraseIdx];split<;>omega
    refine ai (bS (bE 4 (by simp only[am,aI,simprocAttr,e1,e8,gn,s7.cells.1]<;>rfl) rfl (by simp only[am,aI,simprocAttr,e1,e8,gn,s7.cells.1]) (by simp only[am,aI,simprocAttr,e1,e8,gn,s7.cells.1]<;>rfl) (Bk (n:=(n:Nat)) s7 hle) λr2 h8 hq=>?_));obtain⟨b,rfl,hb8,x8⟩:=hq;obtain rfl:b=true:=hb8.2 (hyes i om);have n8:=x8.nx;refine mc (λts h'=>h'=h8/\aR ts 1=.ptr h.next 0/\aR ts 4=lv/\aR ts 6=ev/\aR ts 7=.int .i64 ((i:Nat):Int)/\aR ts 45=.bool false) (by simp only[am,aI,simprocAttr,e1,e4,e6,e7]) ?_;clear e1 e4 e6 e7 e8;rintro ts h8' ⟨rfl,e1,e4,e6,e7,e45⟩;refine dR (Z1 e45) (bQ ?_);have w8:IntKind.i64.wrap (((i:Nat):Int)-1)=((i:Nat):Int)-1:=fx om om;refine aD (M2 e7 w8) ?_;exact⟨i,om,X7.trans (x8.mono om),om,H3 e1 e4 e6⟩
 clear e1 e4 e6;rintro ts h5 ⟨e4,x5⟩;have hlc:=(Nq (f:=eI) (e:=1) om (λ_=>rfl) i4).cells;refine ai (aD (M1 e4) ?_);exact bU ⟨.tup [lv,.int .i64 0],(by simp only[rs,rf6,am,aI,simprocAttr,hlc.1]<;>rfl),lv,rfl,Sl.ext (Nq (f:=eI) (e:=1) om (λ_=>rfl) i4) x5 (ab _),(X3.trans (x4.mono om)).trans (x5.mono om)⟩
open Go.Am
open Go.Am
open Go.Pla (Dual at_ t5 h5)
def vq(a k:Nat):List (Int×Int):=(List.range k).map λb=>(((a:Nat):Int),((a+1+b:Nat):Int))
def mE(n a:Nat):List (Int×Int):=(List.range a).flatMap λa=>vq a (n-(a+1))
theorem Er{a:Nat}:vq a (k+1)=vq a k++[(((a:Nat):Int),((a+1+k:Nat):Int))]:=by
 unfold vq;rw[cJ,bR];rfl
theorem ur{n a:Nat}:mE n (a+1)=mE n a++vq a (n-(a+1)):=by
 unfold mE;rw[cJ,bL];simp
theorem zh{a:Nat}:(vq a k).length=k:=by simp[vq]
theorem wH{n:Nat}:∀{a:Nat},(mE n a).length<=a*n
 |0=>by simp[mE]
 |a+1=>by
   have:=@wH n a;rw[ur,aB,zh,cT];omega
theorem yl(e:Int×Int):(eE e).length=2:=rfl
theorem yu(E:List (Int×Int)):(E.flatMap eE).length=E.length*2:=dN yl E
set_option maxHeartbeats 1000000 in
theorem wI{n:Nat}(hn:n<=100):C prg 10 [.int .i64 (n:Nat)] h λv h'=>∃ev,v=.agg [.int .i64 (n:Nat),ev]/\SlE h' ev (mE n n)/\Ext h.next h h':=by
 refine Ny pf10 ?_;refine ai (aD (Mi0) ?_);have x0:Ext h.next h (h.new (.cells [.int .i64 0,.nils] 2 false)):=Nt (ab _);have g0:(h.new (.cells [.int .i64 0,.nils] 2 false)).get h.next=some (.cells [.int .i64 0,.nils] 2 false):=by rw[AH.get_new,if_pos rfl]
 have n0:(h.new (.cells [.int .i64 0,.nils] 2 false)).next=h.next+1:=rfl;generalize (h.new (.cells [.int .i64 0,.nils] 2 false))=h1 at *
 obtain⟨h2,w2,x2,g2,n2⟩:=gv (h:=h1) (z:=[.int .i64 0,.nils]) (cs:=[.int .i64 (n:Nat),.nils]) (e:=2) rfl;refine ai (bW (λts h'=>h'=h2/\aR ts 0=.int .i64 (n:Nat)/\aR ts 2=.ptr h.next 0/\aR ts 3=.ptr h1.next 0) (by simp only[am,aI,simprocAttr,bP,w2]) ?_);rintro ts h2' ⟨rfl,e0,e2,e3⟩;have g02:h2'.get h.next=some (.cells [.int .i64 0,.nils] 2 false):=by rw[x2.gt _ om];exact g0
 have X2:Ext h.next h h2':=x0.trans (x2.mono om);rw[n0]at e3 g2 n2;refine ai (jB (λts h'=>∃ev,aR ts 2=.ptr h.next 0/\aR ts 3=.ptr (h.next+1) 0/\IsSl h' 2 (h.next+2) ev ((mE n n).flatMap eE)/\h'.get (h.next+1)=some (.cells [.int .i64 (n:Nat),ev] 2 false)/\h'.get h.next=some (.cells [.int .i64 0,.nils] 2 false)/\Ext h.next h h') ?_ ?_)
 .refine ai (aD (M0) ?_)
  refine uW (α:=AV) (N:=n) (λa ev=>[(0,.int .i64 (n:Nat)),(2,.ptr h.next 0),(3,.ptr (h.next+1) 0),(4,.int .i64 (a:Nat))])
   (λa ev h'=>IsSl h' 2 (h.next+2) ev ((mE n a).flatMap eE)/\h'.get (h.next+1)=some (.cells [.int .i64 (n:Nat),ev] 2 false)/\h'.get h.next=some (.cells [.int .i64 0,.nils] 2 false)/\Ext h.next h h'/\h.next+2<=h'.next) .nils (H4 e0 e2 e3 @de) ⟨.inl ⟨rfl,rfl⟩,g2,g02,X2,om⟩ ?_ ?_ ?_
  .clear e0 e2 e3;rintro a ev ts h3 ha _ ⟨e0,e2,e3,e4,-⟩;simp only at e0 e2 e3 e4;exact⟨_,(M3 e0 e4 @ma),Z0,H4 e0 e2 e3 e4⟩
  .clear e0 e2 e3;rintro a ev ts h3 ha ⟨i3,g3,r3,X3,n3⟩ ⟨e0,e2,e3,e4,-⟩;simp only at e0 e2 e3 e4;have wa:IntKind.i64.wrap (((a:Nat):Int)+1)=((a+1:Nat):Int):=fx om om;have fl:=@wH n a;have fl2:a*n<=100*100:=yF om hn;refine ai (aD (M2 e4 wa) ?_)
   refine uW (α:=AV) (N:=n-(a+1)) (λk ev=>[(0,.int .i64 (n:Nat)),(2,.ptr h.next 0),(3,.ptr (h.next+1) 0),(4,.int .i64 (a:Nat)),(5,.int .i64 (a+1+k:Nat))])
    (λk ev h'=>IsSl h' 2 (h.next+2) ev ((mE n a++vq a k).flatMap eE)/\h'.get (h.next+1)=some (.cells [.int .i64 (n:Nat),ev] 2 false)/\h'.get h.next=some (.cells [.int .i64 0,.nils] 2 false)/\Ext h.next h h'/\h.next+2<=h'.next) ev (by simp only[hl,am,aI,simprocAttr,e0,e2,e3,e4,dX]) ⟨by simpa[vq]using i3,g3,r3,X3,n3⟩ ?_ ?_ ?_
   .clear e0 e2 e3 e4 i3 g3 r3 X3 n3;rintro k ev ts h4 hk _ ⟨e0,e2,e3,e4,e5,-⟩;simp only at e0 e2 e3 e4 e5;have c1:decide (((a+1+k:Nat):Int)<((n:Nat):Int))=decide (k<n-(a+1)):=by rw[decide_eq_decide];omega
    exact⟨_,(M3 e0 e5 c1),Z0,H5 e0 e2 e3 e4 e5⟩
   .clear e0 e2 e3 e4 i3 g3 r3 X3 n3;rintro k ev ts h4 hk ⟨i4,g4,r4,X4,n4⟩ ⟨e0,e2,e3,e4,e5,-⟩;simp only at e0 e2 e3 e4 e5;have wk:IntKind.i64.wrap (((a+1+k:Nat):Int)+1)=((a+1+(k+1):Nat):Int):=fx om om;have rg:aA h4 (h.next+1) 1 1=some [ev]:=bJ g4 rfl;have hlen:((mE n a++vq a k).flatMap eE).length/2<=100*100+100:=by
     rw[yu,aB,zh];omega
    obtain⟨ev',h5,a5,i5,x5,n5⟩:=i4.push (bytes:=16) [.int .i64 (a:Nat),.int .i64 (a+1+k:Nat)] n4 om rfl rfl (by unfold bq;omega) (by unfold bq;omega);have g5:h5.get (h.next+1)=some (.cells [.int .i64 (n:Nat),ev] 2 false):=by rw[x5.gt _ om];exact g4
    have r5:h5.get h.next=some (.cells [.int .i64 0,.nils] 2 false):=by rw[x5.gt _ om];exact r4
    have w5:=iP (v:=ev') g5 (i:=1) (by simp);have u5:=Nv (o:=.cells ([AV.int .i64 (n:Nat),ev].set 1 ev') 2 false) g5;refine aD (by simp only[am,aI,simprocAttr,e3,e4,e5,rg,a5,i5.cells.1,i5.cells.2,w5]<;>rfl) ?_;generalize h5.put (h.next+1) (.cells ([AV.int .i64 (n:Nat),ev].set 1 ev') 2 false)=h6 at *
    refine⟨ev',⟨?_,u5.get,by rw[u5.ne om];exact r5,X4.trans ((x5.mono om).trans (u5.ext om)),by have:=u5.nx;omega⟩,_,(by simp only[am,aI,simprocAttr,e5,wk]<;>rfl),H4 e0 e2 e3 e4⟩;rw[Er,<-bO,bL];exact i5.upd u5 om
   .clear e0 e2 e3 e4 i3 g3 r3 X3 n3;rintro ev ts h4 ⟨i4,g4,r4,X4,n4⟩ ⟨e0,e2,e3,e4,e5,-⟩;simp only at e0 e2 e3 e4;exact⟨ev,⟨by rw[ur];exact i4,g4,r4,X4,n4⟩,_,(M2 e4 wa),H3 e0 e2 e3⟩
  .clear e0 e2 e3;rintro ev ts h3 ⟨i3,g3,r3,X3,n3⟩ ⟨e0,e2,e3,e4,-⟩;exact⟨ev,e2,e3,i3,g3,r3,X3⟩
 clear e0 e2 e3;rintro ts h3 ⟨ev,e2,e3,i3,g3,r3,X3⟩;have rg:aA h3 (h.next+1) 0 2=some [.int .i64 (n:Nat),ev]:=by rw[bI g3];rfl
 have w4:cj h3 h.next 0 [.int .i64 (n:Nat),ev]=some (h3.put h.next (.cells [.int .i64 (n:Nat),ev] 2 false)):=by rw[ez r3];rfl
 have u4:=Nv (o:=.cells [.int .i64 (n:Nat),ev] 2 false) r3;refine ai (aD (by simp only[am,aI,simprocAttr,e2,e3,rg,w4,i3.cells.2]<;>rfl) ?_);generalize h3.put h.next (.cells [.int .i64 (n:Nat),ev] 2 false)=h4 at *
 have r4:aA h4 h.next 0 2=some [.int .i64 (n:Nat),ev]:=by rw[bI u4.get];rfl
 exact bU ⟨.agg [.int .i64 (n:Nat),ev],(by simp only[rs,rf10,am,aI,simprocAttr,e2,r4]<;>rfl),ev,rfl,Nq om yl (i3.upd u4 om),X3.trans (u4.ext (ab _))⟩
open Go.Am
def xR(z:Int):Nat:=(BitVec.ofInt 64 z &&& BitVec.ofInt 64 65535).toNat
theorem KO(z:Int):xR z<=65535:=by
 unfold xR;rw[BitVec.toNat_and];exact cI Nat.and_le_right (ab _)
theorem wj(z:Int):Am.bits .and .i64 z 65535=some ((xR z:Nat):Int):=by
 have h:Am.bits .and .i64 z 65535=some (IntKind.i64.wrap ((xR z:Nat):Int)):=rfl;rw[h,IntWalk.i64_in _ (by have:=KO z;omega)]
open Go.Am
def frm(f nv:Nat):Nat->Nat
 |0=>f
 |k+1=>nv+k
def chP(f nv:Nat):Nat->List (Nat×Nat)
 |0=>[]
 |k+1=>chP f nv k++[(frm f nv k,nv+k)]
theorem Az{f nv:Nat}:∀{k:Nat},chP f nv (k+1)=(f,nv)::chP nv (nv+1) k
 |0=>rfl
 |k+1=>by
   rw[chP,Az (k:=k),chP,aH];congr 3;cases k with
   |zero=>simp[frm]
   |succ k=>simp[frm];omega
theorem IJ{t:Nat}:∀{k f nv:Nat},chE t f nv k=chP f nv k++[(frm f nv k,t)]
 |0,_,_=>rfl
 |k+1,f,nv=>by
   rw[chE,IJ,Az,aH];congr 3;cases k with
   |zero=>simp[frm]
   |succ k=>simp[frm];omega
theorem yq{f nv:Nat}:∀{k:Nat},(chP f nv k).length=k
 |0=>rfl
 |k+1=>by rw[chP,aB,yq];rfl
def lT(lens:List Int)(j:Nat):Nat:=if j<lens.length then xR (lens.getD j 0)%3 else 0
theorem th(lens:List Int)(j:Nat):lT lens j<=2:=by unfold lT;split<;>omega
theorem Hx{B:Nat}{a b ks:Nat->Nat}:mkI B a b ks (j+1)=mkI B a b ks j++(chP (a j) (B+sK ks j) (ks j)).map toI++[toI (frm (a j) (B+sK ks j) (ks j),b j)]:=by
 unfold mkI;rw[mkE,IJ,bR,bR,bO];rfl
theorem GP{esz bytes:Nat}{cs:List AV}(new:List AV)(hv:IsSl h esz lo v cs)(hlo:lo<=h.next)(he:0<esz)(hn:new.length=esz)(ho:new.all AV.one=true)
 (hb:(cs.length/esz+1)*bytes<bq) (hc:cs.length/esz+1<bq):∃v' h',iX (h.new (.cells new esz false)) esz bytes v (.sl h.next 0 1 1)=some (v',h')/\IsSl h' esz lo v' (cs++new)/\Ext lo h h'/\h.next<=h'.next /\
  (∀c,c<h.next->(∀b n,v=.sl b 0 n n->c≠b)->h'.get c=h.get c)/\∀b n,v'=.sl b 0 n n->h.next<=b:=by
 obtain⟨v',h',h1,h2,h3,h4,h5,h6,_⟩:=(hv.ext (Nt (o:=.cells new esz false) (ab _)) (ab _)).app (x:=h.next) (new:=new) (bytes:=bytes) (by simp;omega) he (by rw[AH.get_new];simp) hlo
  (λb n hbn=>by have:=hv.lt hbn;omega) hn ho hb hc
 refine⟨v',h',h1,h2,(Nt hlo).trans h3,by simp at h5;omega,λc hc hne=>?_,λb n e=>?_⟩
 .rw[h6 c (by simp;omega) hne,AH.get_new,if_neg om]
 .rw[h4,AV.sl.injEq]at e;have:=e.1;simp at this;omega
def bB(t:Bool):Nat:=if t then 6 else 5
def pP(t:Bool):List (Nat×Nat):=if t then p6 else p5
def tY(t:Bool)(lens:List Int):List (Int×Int):=mkI (bB t) (fA (pP t)) (fB (pP t)) (lT lens) (pP t).length
def mB(t:Bool)(lens:List Int):Nat:=bB t+sK (lT lens) (pP t).length
theorem EI(t:Bool)(lens:List Int):Kind (mB t lens) (tY t lens) (if t then 33 else 5):=by
 cases t
 .exact Ma (th lens)
 .exact kind6 (th lens)
theorem Ad:mE 5 5=p5.map toI:=by decide
theorem Kw:∀a,a<3->∀b,b<3->(p6.map toI).take (3*a+b+1)=(p6.map toI).take (3*a+b)++[(((a:Nat):Int),((3+b:Nat):Int))]:=by decide
theorem Mz{t:Bool}(hj:j<(pP t).length):((pP t).map toI)[j]'(by rw[ah];exact hj)=(((fA (pP t) j:Nat):Int),((fB (pP t) j:Nat):Int)):=by
 rw[ft];unfold fA fB;rw[aj,ae hj];rfl
end Go.Proofs.YtlolkmcdimgplaaGreat
