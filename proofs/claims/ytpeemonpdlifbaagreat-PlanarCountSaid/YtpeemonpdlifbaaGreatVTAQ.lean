/- rotation.Genus of a rotation without handles. -/
import Derived.Test.YtpeemonpdlifbaaGreatVTAM
import Derived.Test.YtpeemonpdlifbaaGreatVTAO
import Derived.Test.YtpeemonpdlifbaaGreatVTAP
import Derived.Test.YtpeemonpdlifbaaGreatVTAF
import Derived.Test.YtpeemonpdlifbaaGreatVTAN
import Derived.Test.YtpeemonpdlifbaaGreatVTAK
import Derived.Test.YtpeemonpdlifbaaGreatVAmR
import Derived.Test.YtpeemonpdlifbaaGreatVTAE
import Derived.Test.YtpeemonpdlifbaaGreatVTAC
set_option linter.all false
namespace Go.Proofs.YtpeemonpdlifbaaGreat
open Go.Am
open Go.Pla (cls comp)
theorem Sl.self {h:AH}{e:Nat}{v:AV}{xs:List (List AV)} (hs:Sl h e v xs):v.same v=true:=by
 rcases hs with ⟨rfl,rfl|rfl⟩|⟨b,o,c,cs,ro,rfl,h2,h3⟩
 ·rfl
 ·rfl
 ·simp [AV.same]
def gX (T:List (List Int)):Nat:=T.countP λl=>l.length==0
theorem emp_N {T:List (List Int)}:Go.Pla.emp (nN T)=gX T:=by
 unfold Go.Pla.emp gX nN
 rw[List.countP_map]
 refine fI λl _=>?_
 simp
set_option maxHeartbeats 1000000 in
theorem xp {h:AH}{n:Nat}{ev tv:AV}{E:List (Int×Int)}{T:List (List Int)} (he:SlE h ev E) (hm:gG (n:Nat) E=true) (hT:SlL h tv T) (hE:InG n E) (hL:∀ i,i<E.length→tlE E i≠hdE E i) (R:RwsI n E T) (CT:Go.Pla.Cuts (grE n E hE hL) (Go.Pla.rnx (grE n E hE hL) (nN T)) E.length) :
 C prg 7 [.agg [.int .i64 (n:Nat),ev],tv] h λr h'=>r=.tup [.int .i64 0,.int .i64 0]∧Ext h.next h h':=by
 obtain⟨ec,eo⟩:=he.cells
 obtain⟨tc,to⟩:=hT.cells
 obtain⟨m1,m2,m3,m4⟩:=jQ hm
 have hT1:T.length<2 ^ 40:=by rw[R.len]; omega
 have hT2:∀ l∈T,l.length<2 ^ 40:=λl hl=>by
  obtain⟨x,hx,rfl⟩:=dp.1 hl
  have:=Iq R hE hL (x:=x) (by rw[← R.len]; exact hx)
  rw[iA hx] at this
  omega
 obtain⟨j,hj,hjC⟩:=(vB (hE:=hE) (hL:=hL) R).euler
 obtain rfl:j=0:=hjC.2 CT
 have hR:=tS R
 have tl:=hT.len
 have el:=he.len
 rw[ak] at el
 refine LB pf7 ?_
 refine aj (aB (Mi0) ?_)
 have x0:Ext h.next h (h.new (.cells [.int .i64 (n:Nat),ev] 2 false)):=Ly (ae _)
 have g0:(h.new (.cells [.int .i64 (n:Nat),ev] 2 false)).get h.next=some (.cells [.int .i64 (n:Nat),ev] 2 false):=by rw[AH.get_new,if_pos rfl]
 have n0:(h.new (.cells [.int .i64 (n:Nat),ev] 2 false)).next=h.next+1:=rfl
 generalize (h.new (.cells [.int .i64 (n:Nat),ev] 2 false))=h1 at *
 have rA:ar h1 h.next 0 2=some [.int .i64 (n:Nat),ev]:=by rw[bg g0]; rfl
 refine aj (aj (bO (bt 2 (Mi1 rA) rfl (Zi1 rA) (Mi1 rA) (rj (n:=n) (he.ext x0 (ae _)) hm (hT.ext x0) hT1 hT2) λr h2 hq=>?_)))
 obtain⟨rfl,x2⟩:=hq
 rw[hR]
 refine bI (M0) ?_
 have n2:=x2.nx
 have X2:Ext h.next h h2:=x0.trans (x2.mono om)
 obtain⟨hTn,hin⟩:=rC hR
 refine dL (Z0) (bK ?_)
 have g2:h2.get h.next=some (.cells [.int .i64 (n:Nat),ev] 2 false):=by rw[x2.gt _ om]; exact g0
 have rA2:ar h2 h.next 0 2=some [.int .i64 (n:Nat),ev]:=by rw[bg g2]; rfl
 refine aj (bO (bt 2 (Mi1 rA2) rfl (Zi1 rA2) (Mi1 rA2) (yZ (n:=n) (he.ext X2 (ae _)) hm (hT.ext X2) hT1 hT2) λr h3 hq=>?_))
 obtain⟨fl,x3⟩:=hq
 have n3:=x3.nx
 have X3:Ext h.next h h3:=X2.trans (x3.mono om)
 have hlen:=fl.len
 have hfl:=(uz (n:=n) (E:=E) (T:=T)).1
 refine bI (M1 hlen) ?_
 refine aj (aj (aB (Mi1 tl) ?_))
 have g3:h3.get h.next=some (.cells [.int .i64 (n:Nat),ev] 2 false):=by rw[x3.gt _ om]; exact g2
 have hz:gX []=0:=rfl
 refine fB (α:=Unit) (N:=T.length) (λk _=>[(17,tv),(2,.ptr h.next 0),(6,.int .i64 (((iV n E T).length+gX (T.take k):Nat):Int))]) (λk _ h'=>h'=h3) () (λ_ _=>rfl) om (by simp only[hl,am,aF,simprocAttr,bH,tc,to,hz,dh]) rfl ?_ ?_
 ·rintro k _ ts h4 hk rfl ⟨ei,en,e17,e2,e6,-⟩
  simp only at ei en e17 e2 e6
  obtain⟨rb,rp,w,a1,r1,rw1,lb⟩:=(hT.ext X3).at hk
  have wl:=rw1.len
  rw[ak] at wl
  have hcs:gX (T.take (k+1))=gX (T.take k)+if T[k].length=0 then 1 else 0:=by
   unfold gX
   rw[bV hk,oA,List.countP_singleton]
   congr 1
   by_cases q:T[k].length=0<;>simp [q]
  have hcl:gX (T.take k)≤k:=by
   have:=fY (p:=λl:List Int=>l.length==0) (l:=T.take k)
   rw[bS] at this
   unfold gX
   omega
  refine aj (aB (M4 e17 ei a1 r1) ?_)
  by_cases q:T[k].length=0
  ·have c0:decide (((T[k].length:Nat):Int)=0)=true:=aL om
   have w1:IntKind.i64.wrap ((((iV n E T).length+gX (T.take k):Nat):Int)+1)=(((iV n E T).length+gX (T.take (k+1)):Nat):Int):=by rw[fz om om,hcs,if_pos q]; omega
   refine aj (aB (M2 wl c0) ?_)
   refine cX (Z0) (aB (M2 e6 w1) ?_)
   exact⟨(),rfl,by simp only[hl,am,aF,simprocAttr,ei,en,e17,e2,e6]⟩
  ·have c0:decide (((T[k].length:Nat):Int)=0)=false:=aJ om
   refine aj (aB (M2 wl c0) ?_)
   refine dL (Z0) (bK ⟨(),rfl,?_⟩)
   rw[hcs,if_neg q,dh]
   exact by simp only[hl,am,aF,simprocAttr,ei,en,e17,e2,e6]
 ·rintro _ ts h4 rfl ⟨e17,e2,e6,-⟩
  simp only at e17 e2 e6
  rw[dF] at e6
  have rA4:ar h4 h.next 0 2=some [.int .i64 (n:Nat),ev]:=by rw[bg g3]; rfl
  have r0:ar h4 h.next 0 1=some [.int .i64 (n:Nat)]:=bq g3 rfl
  have r1:ar h4 h.next 1 1=some [ev]:=bq g3 rfl
  refine aj (bO (lh 7 (M6 e2 e6 rA4 r0 r1 el) rfl (Z6 e2 e6 rA4 r0 r1 el) (M6 e2 e6 rA4 r0 r1 el) (xz (n:=n) (w:=λ_=>false) (Wz:=0) (he.ext X3 (ae _)) hm ⟨om,om⟩ (λy _=>FX _)) λr h5 hq=>?_))
  obtain⟨pl,x5⟩:=hq
  have g5:h5.get h.next=some (.cells [.int .i64 (n:Nat),ev] 2 false):=by rw[x5.gt _ om]; exact g3
  have s0:ar h5 h.next 0 1=some [.int .i64 (n:Nat)]:=bq g5 rfl
  have s1:ar h5 h.next 1 1=some [ev]:=bq g5 rfl
  have hself:=Sl.self he
  refine⟨Z3 s0 s1 hself,?_⟩
  rw[CF (hE:=hE) (hL:=hL)] at pl
  have hgm:(grE n E hE hL).m=E.length:=rfl
  have hgn:(grE n E hE hL).n=n:=rfl
  have hEm:Go.Pla.emp (nN T)=gX T:=emp_N
  rw[hgm,hgn,hEm,← zJ (hE:=hE) (hL:=hL) R m3] at hj
  have hcl:cls n (comp (grE n E hE hL) E.length)≤n:=by
   rw[← FB]; exact IU
  have hel:gX T≤n:=by
   have:=fY (p:=λl:List Int=>l.length==0) (l:=T)
   rw[R.len] at this
   exact this
  have hfl2:=(uz (n:=n) (E:=E) (T:=T)).1
  generalize cls n (comp (grE n E hE hL) E.length)=P at *
  generalize (iV n E T).length=F at *
  have w1:IntKind.i64.wrap (2*((P:Nat):Int))=((2*P:Nat):Int):=dbl om
  have w2:IntKind.i64.wrap (((2*P:Nat):Int)-((n:Nat):Int))=((2*P:Nat):Int)-((n:Nat):Int):=fz om om
  have w3:IntKind.i64.wrap (((2*P:Nat):Int)-((n:Nat):Int)+((E.length:Nat):Int))=((2*P:Nat):Int)-((n:Nat):Int)+((E.length:Nat):Int):=fz om om
  have w4:IntKind.i64.wrap (((2*P:Nat):Int)-((n:Nat):Int)+((E.length:Nat):Int)-((F+gX T:Nat):Int))=0:=by
   rw[show ((2*P:Nat):Int)-((n:Nat):Int)+((E.length:Nat):Int)-((F+gX T:Nat):Int)=0 by omega]
   rfl
  have w5:IntKind.i64.wrap ((0:Int).tdiv 2)=0:=rfl
  refine bI (M7 pl @Hu w1 w2 w3 w4 w5) ?_
  exact bG ⟨_,(by simp only[rs,rf7,am,aF,simprocAttr]<;>rfl),rfl,X3.trans (x5.mono om)⟩
open Go.Am
structure Bu (h:AH) (bb n:Nat) (ev edv:AV) (E:List (Int×Int)) (Bl:List Nat) (la pa:Nat) (H V:Nat→Bool) (fav:AV):Prop where
 o:h.get bb=some (.cells [.int .i64 (n:Nat),ev,edv,.sl la 0 E.length E.length,.sl pa 0 n n,fav] 6 false)
 e:SlE h ev E
 b:SlN h edv Bl
 l:h.get la=some (.cells (bl E.length H) 1 false)
 v:h.get pa=some (.cells (bl n V) 1 false)
 d:bb≠la∧bb≠pa∧la≠pa
 oe:Off (λc=>c=la∨c=pa∨c=bb) ev
 ob:Off (λc=>c=la∨c=pa∨c=bb) edv
theorem Bu.ext {h h':AH}{bb n k:Nat}{ev edv:AV}{E:List (Int×Int)}{Bl:List Nat}{la pa:Nat}{H V:Nat→Bool}{fav:AV} (u:Bu h bb n ev edv E Bl la pa H V fav) (x:Ext k h h') (hk:h.next≤k):Bu h' bb n ev edv E Bl la pa H V fav where
 o:=by rw[x.gt _ (cA (AH.lt_of_get u.o) hk)]; exact u.o
 e:=u.e.ext x hk
 b:=u.b.ext x hk
 l:=by rw[x.gt _ (cA (AH.lt_of_get u.l) hk)]; exact u.l
 v:=by rw[x.gt _ (cA (AH.lt_of_get u.v) hk)]; exact u.v
 d:=u.d
 oe:=u.oe
 ob:=u.ob
theorem Bu.kp {h h':AH}{bb n:Nat}{ev edv:AV}{E:List (Int×Int)}{Bl:List Nat}{la pa:Nat}{H V:Nat→Bool}{fav:AV} (u:Bu h bb n ev edv E Bl la pa H V fav) {S:Nat→Prop} (k:Kp S h h') (hb:¬ S bb) (hl:¬ S la) (hp:¬ S pa) (he:Off S ev) (hd:Off S edv):Bu h' bb n ev edv E Bl la pa H V fav where
 o:=by rw[k.gt _ (AH.lt_of_get u.o) hb]; exact u.o
 e:=u.e.kp k he
 b:=u.b.kp k hd
 l:=by rw[k.gt _ (AH.lt_of_get u.l) hl]; exact u.l
 v:=by rw[k.gt _ (AH.lt_of_get u.v) hp]; exact u.v
 d:=u.d
 oe:=u.oe
 ob:=u.ob
theorem fT {S T:Nat→Prop}{v:AV} (h:Off S v) (hs:∀ c,T c→S c):Off T v:=by
 cases v<;>first|trivial|exact λq=>h (hs _ q)
theorem Bu.putV {h:AH}{bb n:Nat}{ev edv:AV}{E:List (Int×Int)}{Bl:List Nat}{la pa:Nat}{H V:Nat→Bool}{fav:AV} (u:Bu h bb n ev edv E Bl la pa H V fav) {x:Nat} (hx:x<n) :
 ∃ h',bZ h pa x [.bool true]=some h'∧Bu h' bb n ev edv E Bl la pa H (λj=>if j=x then true else V j) fav∧Upd h h' pa (.cells (bl n λj=>if j=x then true else V j) 1 false):=by
 have w:=gv (v:=.bool true) u.v (i:=x) (by rw[nX]; exact hx)
 rw[wG] at w
 have uu:=LA (o:=.cells (bl n λj=>if j=x then true else V j) 1 false) u.v
 have k:=uu.kp (S:=λc=>c=pa) rfl
 refine⟨_,w,⟨?_,u.e.kp k (fT u.oe λc h=>.inr (.inl h)),u.b.kp k (fT u.ob λc h=>.inr (.inl h)),?_,uu.get,u.d,u.oe,u.ob⟩,uu⟩
 ·rw[uu.ne (u.d.2.1)]; exact u.o
 ·rw[uu.ne (u.d.2.2)]; exact u.l
theorem Bu.putH {h:AH}{bb n:Nat}{ev edv:AV}{E:List (Int×Int)}{Bl:List Nat}{la pa:Nat}{H V:Nat→Bool}{fav:AV} (u:Bu h bb n ev edv E Bl la pa H V fav) {x:Nat} (hx:x<E.length) :
 ∃ h',bZ h la x [.bool true]=some h'∧Bu h' bb n ev edv E Bl la pa (λj=>if j=x then true else H j) V fav∧Upd h h' la (.cells (bl E.length λj=>if j=x then true else H j) 1 false):=by
 have w:=gv (v:=.bool true) u.l (i:=x) (by rw[nX]; exact hx)
 rw[wG] at w
 have uu:=LA (o:=.cells (bl E.length λj=>if j=x then true else H j) 1 false) u.l
 have k:=uu.kp (S:=λc=>c=la) rfl
 refine⟨_,w,⟨?_,u.e.kp k (fT u.oe λc h=>.inl h),u.b.kp k (fT u.ob λc h=>.inl h),uu.get,?_,u.d,u.oe,u.ob⟩,uu⟩
 ·rw[uu.ne (u.d.1)]; exact u.o
 ·rw[uu.ne (Ne.symm u.d.2.2)]; exact u.v
def kB (E:List (Int×Int)) (i x:Nat):Bool:=decide (tlE E i=x)||decide (hdE E i=x)
def mf (E:List (Int×Int)) (i x:Nat):Int:=((tlE E i:Nat):Int)+((hdE E i:Nat):Int)-((x:Nat):Int)
theorem lz {h:AH}{bb n:Nat}{ev edv:AV}{E:List (Int×Int)}{Bl:List Nat}{la pa:Nat}{H V:Nat→Bool}{fav:AV} (u:Bu h bb n ev edv E Bl la pa H V fav) (hE:InG n E) (hn:n<2 ^ 40) {i x:Nat} (hi:i<E.length) (hx:x<n) :
 C prg 56 [.ptr bb 0,.int .i64 (i:Nat),.int .i64 (x:Nat)] h λv h'=>v=.tup [.int .i64 (mf E i x),.bool (kB E i x)]∧Ext h.next h h':=by
 refine LB pf56 ?_
 obtain⟨q1,q2,q3⟩:=hE i hi
 obtain⟨b,p,a,rr,_,_⟩:=u.e.at (fE (f:=eE) hi)
 rw[q1] at rr
 have rse:ar h bb 1 1=some [ev]:=bq u.o rfl
 have w1:IntKind.i64.wrap (((tlE E i:Nat):Int)+((hdE E i:Nat):Int))=((tlE E i:Nat):Int)+((hdE E i:Nat):Int):=fz om om
 have w2:IntKind.i64.wrap (((tlE E i:Nat):Int)+((hdE E i:Nat):Int)-((x:Nat):Int))=mf E i x:=fz om om
 obtain⟨h3,w3,x3,g3,n3⟩:=gm (h:=h) (z:=[.int .i64 0,.int .i64 0]) (cs:=[.int .i64 (tlE E i:Nat),.int .i64 (hdE E i:Nat)]) (e:=2) rfl
 refine aj (aB (Mi0) ?_)
 refine aj (aB (by simp only[am,aF,simprocAttr,bH,rse,a,rr,eE,w3]<;>rfl) ?_)
 have ra:ar h3 h.next 0 1=some [.int .i64 (tlE E i:Nat)]:=bq g3 rfl
 have rb:ar h3 h.next 1 1=some [.int .i64 (hdE E i:Nat)]:=bq g3 rfl
 have d1:decide (((tlE E i:Nat):Int)=((x:Nat):Int))=decide (tlE E i=x):=by rw[decide_eq_decide]; omega
 have d2:decide (((hdE E i:Nat):Int)=((x:Nat):Int))=decide (hdE E i=x):=by rw[decide_eq_decide]; omega
 have ib:kB E i x=(decide (tlE E i=x)||decide (hdE E i=x)):=rfl
 by_cases ht:tlE E i=x
 ·rw[aL ht] at d1 ib
  refine aj (bT (λts h'=>h'=h3∧aY ts 6=.int .i64 (mf E i x)∧aY ts 7=.bool (kB E i x)) (by simp only[am,aF,simprocAttr,bH,ra,rb,w1,w2,d1,ib,DQ]) ?_)
  rintro ts h4 ⟨rfl,e6,e7⟩
  exact bG ⟨.tup [.int .i64 (mf E i x),.bool (kB E i x)],(by simp only[rs,rf56,am,aF,simprocAttr,e6,e7]<;>rfl),rfl,x3⟩
 ·rw[aJ ht] at d1 ib
  refine aj (bT (λts h'=>h'=h3∧aY ts 6=.int .i64 (mf E i x)∧aY ts 7=.bool (kB E i x)) (by simp only[am,aF,simprocAttr,bH,ra,rb,w1,w2,d1,d2,ib,eA]) ?_)
  rintro ts h4 ⟨rfl,e6,e7⟩
  exact bG ⟨.tup [.int .i64 (mf E i x),.bool (kB E i x)],(by simp only[rs,rf56,am,aF,simprocAttr,e6,e7]<;>rfl),rfl,x3⟩
open Go.Am
def upG {α:Type} [DecidableEq α]:List (α×AV)→α→AV→List (α×AV)
 | [],k,v=>[(k,v)]
 | p::r,k,v=>if p.1=k then (k,v)::r else p::upG r k v
def lkG {α:Type} [DecidableEq α]:List (α×AV)→α→Option AV
 | [],_=>none
 | p::r,k=>if p.1=k then some p.2 else lkG r k
def KeyE {α:Type} [DecidableEq α] (e:RE) (κ:α→AV):Prop:=∀ a b,iL e (κ a) (κ b)=some (decide (a=b))
theorem wg:KeyE .ki (λk:Int=>AV.int .i64 k):=λa b=>by
 simp only[iL,if_true,aa]
 by_cases e:a=b
 ·subst e; simp
 ·rw[aJ e,beq_eq_false_iff_ne]; exact e
theorem keyP:KeyE (.flat [.i64,.i64]) (λk:Int×Int=>AV.agg [.int .i64 k.1,.int .i64 k.2]):=λa b=>by
 obtain⟨a1,a2⟩:=a
 obtain⟨b1,b2⟩:=b
 by_cases e:a1=b1
 ·subst e
  by_cases e:a2=b2
  ·subst e
   simp [iL,eqF,eG]
  ·have:(a2==b2)=false:=by rw[beq_eq_false_iff_ne]; exact e
   simp [iL,eqF,eG,this,e]
 ·have:(a1==b1)=false:=by rw[beq_eq_false_iff_ne]; exact e
  simp [iL,eqF,eG,this,e]
theorem KeyE.ok {α:Type} [DecidableEq α] {e:RE}{κ:α→AV} (hk:KeyE e κ) (a:α):qf e (κ a)=true:=by
 unfold qf
 rw[hk a a]
 rfl
section
variable {α:Type} [DecidableEq α] {e:RE}{κ:α→AV}
theorem qN:∀ {l:List (α×AV)}{k:α}{v:AV},(upG l k v).map (·.1)=if k∈l.map (·.1) then l.map (·.1) else l.map (·.1)++[k]
 | [],k,v=>by simp [upG]
 | p::r,k,v=>by
   unfold upG
   by_cases q:p.1=k
   ·rw[if_pos q,bA,bA,if_pos (by simp [q]),q]
   ·rw[if_neg q,bA,qN,bA]
    by_cases m:k∈r.map (·.1)
    ·rw[if_pos m,if_pos (br _ m)]
    ·rw[if_neg m,if_neg (by rw[au]; rintro (h|h); exact q h.symm; exact m h)]
     rfl
theorem tH {l:List (α×AV)}{k:α}{v:AV} (h:(l.map (·.1)).Nodup):((upG l k v).map (·.1)).Nodup:=by
 rw[qN]
 split
 ·exact h
 ·rename_i hk
  rw[aN]
  refine⟨h,by simp,λa ha b hb=>?_⟩
  rw[cq] at hb
  subst hb
  rintro rfl
  exact hk ha
theorem jR:∀ {l:List (α×AV)}{k k':α}{v:AV},lkG (upG l k v) k'=if k'=k then some v else lkG l k'
 | [],k,k',v=>by
   simp only[upG,lkG]
   by_cases q:k=k'
   ·rw[if_pos q,if_pos q.symm]
   ·rw[if_neg q,if_neg λe=>q e.symm]
 | p::r,k,k',v=>by
   unfold upG
   by_cases q:p.1=k
   ·rw[if_pos q]
    simp only[lkG]
    by_cases m:k'=k
    ·rw[if_pos m,if_pos m.symm]
    ·rw[if_neg m,if_neg (λe=>m e.symm),if_neg (λe=>m (e.symm.trans q))]
   ·rw[if_neg q]
    simp only[lkG]
    rw[jR]
    by_cases m:p.1=k'
    ·rw[if_pos m,if_pos m,if_neg (λe=>q (m.trans e))]
    ·rw[if_neg m,if_neg m]
theorem FD {l:List (α×AV)}{k:α}:lkG l k=none↔k∉l.map (·.1):=by
 induction l with
 | nil=>simp [lkG]
 | cons p r ih =>
   simp only[lkG,bA,au]
   by_cases q:p.1=k
   ·rw[if_pos q]
    simp [q.symm]
   ·rw[if_neg q,ih]
    constructor
    ·rintro h (e|e)
     ·exact q e.symm
     ·exact h e
    ·exact λh e=>h (.inr e)
theorem Bh:∀ {l:List (α×AV)},(l.map (·.1)).Nodup→∀ p∈l,lkG l p.1=some p.2
 | q::r,hn,p,hp=>by
   rw[bA] at hn
   obtain⟨h1,h2⟩:=aW.1 hn
   simp only[lkG]
   rcases au.1 hp with rfl|hp
   ·rw[if_pos rfl]
   ·rw[if_neg λe=>h1 (by rw[e]; exact List.mem_map_of_mem hp)]
    exact Bh h2 p hp
theorem vT:∀ {l:List (α×AV)}{k:α}{v:AV},lkG l k=some v→(k,v)∈l
 | p::r,k,v,h=>by
   simp only[lkG] at h
   split at h
   ·rename_i q
    cases h
    subst q
    exact bB ..
   ·exact br _ (vT h)
def EntG (κ:α→AV) (es:List (AV×AV×Nat)) (l:List (α×AV)):Prop:=es.map (λx=>(x.1,x.2.1))=l.map λp=>(κ p.1,p.2)
theorem EntG.len {es:List (AV×AV×Nat)}{l:List (α×AV)} (h:EntG κ es l):es.length=l.length:=by
 have:=congrArg List.length h
 simpa using this
theorem sa (hk:KeyE e κ):∀ {es:List (AV×AV×Nat)}{l:List (α×AV)},EntG κ es l→∀ k:α,(lkG l k=none∧iw e (κ k) es=some none∧∀ v,upG l k v=l++[(k,v)]) ∨
 ∃ i v n,iw e (κ k) es=some (some (i,v,n))∧es[i]?=some (κ k,v,n)∧lkG l k=some v∧∀ u,upG l k u=l.set i (k,u)
 | [],l,h,k=>by
   have:l=[]:=by
    have:=congrArg List.length h
    simp at this
    exact bz.1 this.symm
   subst this
   exact .inl ⟨rfl,rfl,λ_=>rfl⟩
 | x::r,[],h,k=>by simp [EntG] at h
 | (a,b,n)::r,p::l,h,k=>by
   have h':=h
   simp only[EntG,bA,eR,aq] at h'
   obtain⟨⟨rfl,rfl⟩,h2⟩:=h'
   have hq:=hk k p.1
   by_cases q:p.1=k
   ·rw[aL q.symm] at hq
    refine .inr ⟨0,p.2,n,?_,by rw[q]; rfl,?_,λu=>?_⟩
    ·simp only[iw,hq]
    ·simp only[lkG,if_pos q]
    ·simp only[upG,if_pos q,List.set_cons_zero]
   ·rw[aJ (λe=>q e.symm)] at hq
    rcases sa hk (es:=r) (l:=l) h2 k with ⟨h3,h4,h5⟩|⟨i,v,m,h3,h4,h5,h6⟩
    ·refine .inl ⟨?_,?_,λv=>?_⟩
     ·simp only[lkG,if_neg q,h3]
     ·simp only[iw,hq,h4]
      rfl
     ·simp only[upG,if_neg q,h5]
      rfl
    ·refine .inr ⟨i+1,v,m,?_,h4,?_,λu=>?_⟩
     ·simp only[iw,hq,h3]
      rfl
     ·simp only[lkG,if_neg q,h5]
     ·simp only[upG,if_neg q,h6,As]
structure EsG (κ:α→AV) (es:List (AV×AV×Nat)) (c:Nat) (l:List (α×AV)):Prop where
 ent:EntG κ es l
 nod:(l.map (·.1)).Nodup
 st1:(es.map (·.2.2)).Pairwise (·<·)
 st2:∀ x∈es,x.2.2<c
def MapG (κ:α→AV) (h:AH) (mb:Nat) (l:List (α×AV)):Prop:=∃ es c,h.get mb=some (.mapo es c)∧EsG κ es c l
theorem MapG.nil {h:AH}{mb c:Nat} (hg:h.get mb=some (.mapo [] c)):MapG κ h mb []:=⟨[],c,hg,rfl,.nil,.nil,λx hx=>by cases hx⟩
theorem MapG.cong {h h':AH}{mb:Nat}{l:List (α×AV)} (m:MapG κ h mb l) (hg:h'.get mb=h.get mb):MapG κ h' mb l:=by
 obtain⟨es,c,h1,h2⟩:=m
 exact⟨es,c,by rw[hg]; exact h1,h2⟩
theorem MapG.lt {h:AH}{mb:Nat}{l:List (α×AV)} (m:MapG κ h mb l):mb<h.next:=by
 obtain⟨es,c,h1,_⟩:=m
 exact AH.lt_of_get h1
theorem MapG.len {h:AH}{mb:Nat}{l:List (α×AV)} (m:MapG κ h mb l):ui h (.mp mb)=some (.int .i64 (l.length:Nat)):=by
 obtain⟨es,c,h1,h2⟩:=m
 have:=h2.ent.len
 simp only[ui,h1,this]
theorem MapG.nod {h:AH}{mb:Nat}{l:List (α×AV)} (m:MapG κ h mb l):(l.map (·.1)).Nodup:=by
 obtain⟨es,c,h1,h2⟩:=m
 exact h2.nod
theorem MapG.look (hk:KeyE e κ) {h:AH}{mb:Nat}{l:List (α×AV)} (m:MapG κ h mb l) (z:AV) (k:α):oJ h e false z (.mp mb) (κ k)=some ((lkG l k).getD z):=by
 obtain⟨es,c,h1,h2⟩:=m
 rcases sa hk h2.ent k with ⟨q1,q2,_⟩|⟨i,v,n,q1,q2,q3,_⟩
 ·simp only[oJ,h1,hk.ok,q2,if_true,q1]; rfl
 ·simp only[oJ,h1,hk.ok,q1,if_true,q3]; rfl
theorem MapG.look2 (hk:KeyE e κ) {h:AH}{mb:Nat}{l:List (α×AV)} (m:MapG κ h mb l) (z:AV) (k:α):oJ h e true z (.mp mb) (κ k)=some (.tup [(lkG l k).getD z,.bool (lkG l k).isSome]):=by
 obtain⟨es,c,h1,h2⟩:=m
 rcases sa hk h2.ent k with ⟨q1,q2,_⟩|⟨i,v,n,q1,q2,q3,_⟩
 ·simp only[oJ,h1,hk.ok,q2,if_true,q1]; rfl
 ·simp only[oJ,h1,hk.ok,q1,if_true,q3]; rfl
theorem EsG.set {es:List (AV×AV×Nat)}{c i n:Nat}{l:List (α×AV)}{k:α}{v u:AV} (h:EsG κ es c l) (hi:es[i]?=some (κ k,v,n)) (hu:upG l k u=l.set i (k,u)):EsG κ (es.set i (κ k,u,n)) c (upG l k u):=by
 refine⟨?_,tH h.nod,?_,λx hx=>?_⟩
 ·unfold EntG
  rw[hu,kI,kI,h.ent]
 ·have:(es.set i (κ k,u,n)).map (·.2.2)=es.map (·.2.2):=by
   rw[kI]
   refine et λj=>?_
   rw[cZ]
   split
   ·rename_i e
    subst e
    have hl:=(aK.1 hi).1
    rw[aG,hi,ak,if_pos hl]
    rfl
   ·rfl
  rw[this]
  exact h.st1
 ·rcases oZ hx with hx|rfl
  ·exact h.st2 x hx
  ·have:=h.st2 _ (dX hi)
   exact this
theorem EsG.add {es:List (AV×AV×Nat)}{c:Nat}{l:List (α×AV)}{k:α}{v:AV} (h:EsG κ es c l) (hu:upG l k v=l++[(k,v)]):EsG κ (es++[(κ k,v,c)]) (c+1) (upG l k v):=by
 refine⟨?_,tH h.nod,?_,λx hx=>?_⟩
 ·unfold EntG
  rw[hu,ez,ez,h.ent]
  rfl
 ·rw[ez,mh]
  refine⟨h.st1,by simp,λa ha b hb=>?_⟩
  simp only[bA,List.map_nil,cq] at hb
  subst hb
  obtain⟨x,hx,rfl⟩:=bu.1 ha
  exact h.st2 x hx
 ·rcases aC.1 hx with hx|hx
  ·have:=h.st2 x hx; omega
  ·rw[cq] at hx
   subst hx
   show c<c+1
   omega
theorem MapG.up (hk:KeyE e κ) {h:AH}{mb:Nat}{l:List (α×AV)} (m:MapG κ h mb l) (k:α) (v:AV):∃ h',vR h e (.mp mb) (κ k) v=some (.un,h')∧MapG κ h' mb (upG l k v)∧∃ o,Upd h h' mb o:=by
 obtain⟨es,c,h1,h2⟩:=m
 rcases sa hk h2.ent k with ⟨q1,q2,q3⟩|⟨i,w,n,q1,q2,q3,q4⟩
 ·have u:=LA (o:=.mapo (es++[(κ k,v,c)]) (c+1)) h1
  exact⟨_,by simp only[vR,h1,hk.ok,q2,if_true],⟨_,_,u.get,h2.add (q3 v)⟩,_,u⟩
 ·have u:=LA (o:=.mapo (es.set i (κ k,v,n)) c) h1
  exact⟨_,by simp only[vR,h1,hk.ok,q1,if_true],⟨_,_,u.get,h2.set q2 (q4 v)⟩,_,u⟩
theorem yW:∀ {es:List (AV×AV×Nat)}{i n:Nat}{k v:AV},(es.map (·.2.2)).Pairwise (·<·)→es[i]?=some (k,v,n)→pU ((n:Nat):Int) es=some (i,k,n)
 | (a,b,m)::r,0,n,k,v,hp,hi=>by
   simp only[bd,aa,aq] at hi
   obtain⟨rfl,rfl,rfl⟩:=hi
   simp only[pU,if_true]
 | (a,b,m)::r,i+1,n,k,v,hp,hi=>by
   rw[cG] at hi
   rw[bA,dx] at hp
   have:=hp.1 n (bu.2 ⟨_,dX hi,rfl⟩)
   have hne:¬ ((m:Nat):Int)=((n:Nat):Int):=by have this:m<n:=this; omega
   simp only[pU,if_neg hne,yW hp.2 hi,aH]
theorem MapG.men (hk:KeyE e κ) {h:AH}{mb:Nat}{l:List (α×AV)} (m:MapG κ h mb l) (z:AV) (k:α):∃ h1 n,xV h e z (.mp mb) (κ k)=some (.tup [(lkG l k).getD z,.int .i64 ((n:Nat):Int)],h1)∧(∃ o,Upd h h1 mb o)∧oJ h1 e false z (.mp mb) (κ k)=some ((lkG l k).getD z) ∧
 ∀ v,∃ h2,zF h1 (.mp mb) (.int .i64 ((n:Nat):Int)) v=some (.un,h2)∧MapG κ h2 mb (upG l k v)∧∃ o,Upd h1 h2 mb o:=by
 obtain⟨es,c,h1,h2⟩:=m
 rcases sa hk h2.ent k with ⟨q1,q2,q3⟩|⟨i,w,n,q1,q2,q3,q4⟩
 ·have u:=LA (o:=.mapo (es++[(κ k,z,c)]) (c+1)) h1
  have E:=h2.add (q3 z)
  have m2:MapG κ (h.put mb (.mapo (es++[(κ k,z,c)]) (c+1))) mb (upG l k z):=⟨_,_,u.get,E⟩
  refine⟨_,c,by simp only[xV,h1,hk.ok,q2,if_true,q1]; rfl,⟨_,u⟩,by rw[m2.look hk,jR,if_pos rfl,q1]; rfl,λv=>?_⟩
  have hi:(es++[(κ k,z,c)])[es.length]?=some (κ k,z,c):=by rw[aU (ae _),eO]; rfl
  have u2:=LA (o:=.mapo ((es++[(κ k,z,c)]).set es.length (κ k,v,c)) (c+1)) u.get
  refine⟨_,by simp only[zF,u.get,yW E.st1 hi],⟨_,_,u2.get,?_⟩,_,u2⟩
  have hs:=h2.add (q3 v)
  have:(es++[(κ k,z,c)]).set es.length (κ k,v,c)=es++[(κ k,v,c)]:=by
   rw[List.set_append_right _ _ (ae _),eO]
   rfl
  rw[this]
  exact hs
 ·have u:=LA (o:=.mapo (es.set i (κ k,w,n)) c) h1
  have E:=h2.set q2 (q4 w)
  have m2:MapG κ (h.put mb (.mapo (es.set i (κ k,w,n)) c)) mb (upG l k w):=⟨_,_,u.get,E⟩
  refine⟨_,n,by simp only[xV,h1,hk.ok,q1,if_true,q3,fC],⟨_,u⟩,by rw[m2.look hk,jR,if_pos rfl,q3],λv=>?_⟩
  have hl:=(aK.1 q2).1
  have hi:(es.set i (κ k,w,n))[i]?=some (κ k,w,n):=cR hl
  have u2:=LA (o:=.mapo ((es.set i (κ k,w,n)).set i (κ k,v,n)) c) u.get
  refine⟨_,by simp only[zF,u.get,yW E.st1 hi],⟨_,_,u2.get,?_⟩,_,u2⟩
  rw[List.set_set]
  exact h2.set q2 (q4 v)
end
open Go.Am
open Go.Pla (Met ks tr tr_app tr_root tr_last)
theorem vF {h:AH}{v:AV}{xs:List Nat}{lo:Nat} (hv:IsSl h 1 lo v (nC xs)) (hl:xs.length<2 ^ 40):C prg 51 [v] h λ_ h'=>IsSl h' 1 lo v (nC xs.reverse)∧Ext lo h h'∧h'.next=h.next∧∀ c,c<h.next→(∀ b n,v=.sl b 0 n n→c≠b)→h'.get c=h.get c:=by
 have hi:∀ ys:List Nat,gH (ys.map λn=>((n:Nat):Int)).toArray=nC ys:=λys=>by rw[nC,mW]; rfl
 have bi:∀ {d e:Array Int},d.size=e.size→lN (gH d) 0 e=.cells (gH e) 1 false:=fun {d e} he=>by
  unfold lN dI
  have:(gH d).drop (0+(gH e).length)=[]:=by rw[List.drop_eq_nil_iff,gR,gR]; omega
  rw[this,gO]
  simp
 rcases hv with ⟨rfl,hz⟩|⟨b,n,h1,rfl,h3,h4⟩
 ·have hx:xs=[]:=by
   have:=congrArg List.length hz
   rw[gT] at this
   exact bz.1 (by simpa using this)
  subst hx
  refine (reverse_nil (h:=h)).mono λ_ h' e=>?_
  subst e
  exact⟨.inl ⟨rfl,rfl⟩,Lz,rfl,λ_ _ _=>rfl⟩
 ·rw[gT] at h4
  generalize hd:(xs.map λn=>((n:Nat):Int)).toArray=d
  have hs:d.size=xs.length:=by rw[← hd]; simp
  have hn:n=d.size:=om
  subst hn
  rw[← hi xs,hd,← bi (d:=d) (e:=d) rfl] at h3
  refine (rF (c:=d.size) h3 (by rw[gR]; omega) om).mono λ_ h' u=>⟨.inr ⟨b,d.size,h1,rfl,?_,?_⟩,u.ext h1,u.nx,λc _ hc=>u.ne (hc b _ rfl)⟩
  ·have hr:nC xs.reverse=gH d.reverse:=by rw[← hi,← hd]; simp
   rw[hr,← bi (d:=d) (e:=d.reverse) (by simp)]
   exact u.get
  ·rw[gT]; simp; omega
def Lm (L:List (Nat×Nat)):List (Int×AV):=L.map λp=>(((p.1:Nat):Int),AV.int .i64 ((p.2:Nat):Int))
abbrev ql (h:AH) (mb:Nat) (L:List (Nat×Nat)):Prop:=MapG (λk:Int=>AV.int .i64 k) h mb (Lm L)
theorem Kh:∀ {L:List (Nat×Nat)}{k:Int},lkG (Lm L) k=none∨∃ y x A C,k=((y:Nat):Int)∧lkG (Lm L) k=some (.int .i64 ((x:Nat):Int))∧L=A++(y,x)::C
 | [],k=>.inl rfl
 | (y,x)::L,k=>by
   by_cases h:((y:Nat):Int)=k
   ·refine .inr ⟨y,x,[],L,h.symm,?_,rfl⟩
    simp only[Lm,bA,lkG,if_pos h]
   ·have e:lkG (Lm ((y,x)::L)) k=lkG (Lm L) k:=by simp only[Lm,bA,lkG,if_neg h]
    rcases Kh (L:=L) (k:=k) with h1|⟨y',x',A,C,h1,h2,h3⟩
    ·exact .inl (e.trans h1)
    ·exact .inr ⟨y',x',(y,x)::A,C,h1,e.trans h2,by rw[h3]; rfl⟩
theorem qD {L:List (Nat×Nat)}{k:Nat}:lkG (Lm L) ((k:Nat):Int)=none↔k∉ks L:=by
 rw[FD]
 simp only[Lm,ks,nr,bu,not_exists,not_and]
 constructor
 ·intro h p hp e; exact h p hp (by have e':p.1=k:=e; show ((p.1:Nat):Int)=_; rw[e'])
 ·intro h p hp e; exact h p hp (by have e':((p.1:Nat):Int)=((k:Nat):Int):=e; omega)
section
variable {g:Go.Blk.Gr}{Bl:List Nat}{laid thr:Nat→Bool}
theorem KW {r:Nat}{L:List (Nat×Nat)} (m:Met g Bl laid thr r L) (hB:∀ i∈Bl,i<g.m) {x:Nat} (hx:x∈ks L):(x=r∧lkG (Lm L) ((x:Nat):Int)=some (.int .i64 ((x:Nat):Int)))∨∃ z,z≠x∧z∈ks L∧lkG (Lm L) ((x:Nat):Int)=some (.int .i64 ((z:Nat):Int))∧tr L x=tr L z++[x]:=by
 rcases Kh (L:=L) (k:=((x:Nat):Int)) with h|⟨y,z,A,C,h1,h2,h3⟩
 ·exact absurd hx (qD.1 h)
 have hy:x=y:=om
 subst hy
 by_cases hA:A=[]
 ·subst hA
  obtain⟨T,hT⟩:=m.root
  rw[hT] at h3
  simp only[bj] at h3
  injection h3 with h4 _
  injection h4 with h4 h5
  subst h4 h5
  exact .inl ⟨rfl,h2⟩
 ·obtain⟨p1,p2,i,hi,hj,_⟩:=m.par A x z C h3 hA
  have hne:z≠x:=by
   intro e; subst e
   have:=(g.ok i (hB i hi)).2.2
   rcases Go.Pla.jn_iff.1 hj with ⟨a,b⟩|⟨a,b⟩<;>omega
  have nd:=m.nd
  refine .inr ⟨z,hne,by rw[h3,Go.Pla.ks_app]; exact aZ _ p1,h2,?_⟩
  have e1:L=(A++[(x,z)])++C:=by rw[h3]; simp
  rw[e1] at nd ⊢
  rw[tr_app nd (by simp [ks]),tr_last hA]
  rw[bP] at nd ⊢
  rw[tr_app nd p1]
theorem Cx {h:AH}{mb r y:Nat}{L:List (Nat×Nat)} (hm:ql h mb L) (m:Met g Bl laid thr r L) (hB:∀ i∈Bl,i<g.m) (hy:y∈ks L) (hL:L.length<2 ^ 30):C prg 71 [.mp mb,.int .i64 (y:Nat)] h λv h'=>IsSl h' 1 h.next v (nC (tr L y))∧Ext h.next h h':=by
 refine LB pf71 ?_
 have hml:=hm.lt
 have x0:Ext h.next h (h.new (.cells [.int .i64 (y:Nat)] 1 false)):=Ly (ae _)
 have g0:(h.new (.cells [.int .i64 (y:Nat)] 1 false)).get h.next=some (.cells [.int .i64 (y:Nat)] 1 false):=by rw[AH.get_new,if_pos rfl]
 refine aj (aB (Mi0) ?_)
 refine aj (bT (λts h1=>h1=h.new (.cells [.int .i64 (y:Nat)] 1 false)∧aY ts 0=.mp mb∧aY ts 1=.int .i64 (y:Nat)∧aY ts 5=.sl h.next 0 1 1) (by simp only[am,aF,simprocAttr,bH]) ?_)
 rintro ts h1 ⟨rfl,e0,e1,e5⟩
 generalize h.new (.cells [.int .i64 (y:Nat)] 1 false)=h1 at *
 refine aj (cL (fW (λn ts h2=>∃ (x:Nat) (zs:List Nat) (v:AV),n=(tr L x).length∧x∈ks L∧tr L y=tr L x++zs.reverse∧IsSl h2 1 h.next v (nC (zs++[x]))∧Ext h.next h h2∧aY ts 0=.mp mb∧aY ts 1=.int .i64 (x:Nat)∧aY ts 5=v) ?_ (n:=(tr L y).length) ⟨y,[],_,rfl,hy,by simp,.inr ⟨h.next,1,ae _,rfl,g0,rfl⟩,x0,e0,e1,e5⟩))
 clear e0 e1 e5 g0 x0
 rintro n ts h2 ⟨x,zs,v,hn,hx,ht,hv,x2,e0,e1,e5⟩
 have hm2:ql h2 mb L:=hm.cong (x2.gt _ hml)
 have lk:=hm2.look wg (.int .i64 0) ((x:Nat):Int)
 have hzl:zs.length+(tr L x).length≤L.length:=by
  have h1:=congrArg List.length ht
  rw[aI,List.length_reverse] at h1
  have h2:=Go.Pla.tr_len L y
  omega
 rcases KW m hB hx with ⟨hr,hl⟩|⟨z,hzx,hz,hl,htz⟩
 ·
  rw[hl] at lk
  dsimp only[Option.getD] at lk
  refine aj (aj (aB (M5 e0 e1 lk @decide_true @cr) ?_))
  refine dL (Z2 @decide_true @cr) ?_
  refine ft ⟨λ_=>?_,λe=>absurd rfl e⟩
  have hend:tr L y=(zs++[x]).reverse:=by rw[ht,hr,tr_root m]; simp
  refine aj (bO (bt 1 (M2 e0 e5) rfl (Z2 e0 e5) (M2 e0 e5) (vF hv (by rw[aI]; simp; omega)) λ_ h3 hq=>?_))
  obtain⟨i3,x3,_,_⟩:=hq
  refine bI (M0) ?_
  refine aj (aB (M1 e5) ?_)
  exact bG ⟨v,(by simp only[rs,rf71,am,aF,simprocAttr,e5]<;>rfl),by rw[hend]; exact i3,x2.trans x3⟩
 ·rw[hl] at lk
  dsimp only[Option.getD] at lk
  have dz:decide (((z:Nat):Int)=((x:Nat):Int))=false:=by rw[aV]; omega
  refine aj (aj (aB (by simp only[am,aF,simprocAttr,e0,e1,lk,dz,bQ]<;>rfl) ?_))
  refine cX (by simp only[am,aF,simprocAttr,dz,bQ]) (bK (cL ?_))
  refine aj (bT (λts h'=>h'=h2∧aY ts 0=.mp mb∧aY ts 1=.int .i64 (z:Nat)∧aY ts 5=v) (by simp only[am,aF,simprocAttr,e0,e1,e5,lk]) ?_)
  rintro ts h3 ⟨rfl,e0,e1,e5⟩
  have hnl:(nC (zs++[x])).length=zs.length+1:=by rw[gT,aI]; rfl
  obtain⟨v',h4,a4,i4,x4,n4⟩:=hv.push (bytes:=8) [.int .i64 (z:Nat)] x2.nx om rfl rfl (by rw[hnl,kb]; unfold be; omega) (by rw[hnl,kb]; unfold be; omega)
  refine bT (λts h'=>h'=h4∧aY ts 0=.mp mb∧aY ts 1=.int .i64 (z:Nat)∧aY ts 5=v') (by simp only[am,aF,simprocAttr,e0,e1,e5,a4]) ?_
  rintro ts h5 ⟨rfl,e0,e1,e5⟩
  refine⟨(tr L z).length,?_,z,zs++[x],v',rfl,hz,?_,?_,x2.trans x4,e0,e1,e5⟩
  ·rw[hn,htz]; simp
  ·rw[ht,htz]; simp
  ·rw[rV]; exact i4
end
end Go.Proofs.YtpeemonpdlifbaaGreat
