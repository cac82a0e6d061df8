/- What arborref14.Right keeps while it goes through ties. -/
import Derived.Test.YthbmhbldmcbnpaaGreatDoorYTAS
import Derived.Test.YthbmhbldmcbnpaaGreatDoorYTAP
import Derived.Test.YthbmhbldmcbnpaaGreatDoorYTAG
import Derived.Test.YthbmhbldmcbnpaaGreatDoorYTAF
import Derived.Test.YthbmhbldmcbnpaaGreatDoorYTAJ
set_option linter.all false
namespace Go.Proofs.YthbmhbldmcbnpaaGreatDoor
open Go.Am
open Go.Spl (T4 OkT tA tB tE tL FT cntF plc vs cntF_app plc_app plc_le cntF_le mem_plc)
def lO (F:FT) (k:Nat):Int:=match plc F k with
 | []=>-1
 | p::_=>((p:Nat):Int)
def iR (F:FT) (k:Nat):Int:=match plc F k with
 | _::q::_=>((q:Nat):Int)
 | _=>-1
def jL (F:FT) (k:Nat):T4:=match F.filter (λp=>decide (tL p.2=((k:Nat):Int))) with
 | []=>(0,0,0,0)
 | p::_=>p.2
theorem oD {F:FT}{s k:Nat}{t:T4}:jL (F++[(s,t)]) k=if plc F k=[]∧tL t=((k:Nat):Int) then t else jL F k:=by
 unfold jL plc
 rw[fm]
 cases h:F.filter (λp=>decide (tL p.2=((k:Nat):Int))) with
 | nil =>
   by_cases q:tL t=((k:Nat):Int)
   ·rw[if_pos ⟨rfl,q⟩,dY (by simpa using q)]
    rfl
   ·rw[if_neg (λe=>q e.2),eT (by simpa using q)]
    rfl
 | cons p r =>
   rw[if_neg (λq=>by have:=q.1; simp at this)]; rfl
theorem yf {F:FT}{k:Nat} (h:plc F k≠[]):∃ p∈F,tL p.2=((k:Nat):Int)∧jL F k=p.2:=by
 unfold jL
 unfold plc at h
 cases e:F.filter (λp=>decide (tL p.2=((k:Nat):Int))) with
 | nil=>rw[e] at h; exact absurd rfl h
 | cons p r =>
   have hm:p∈F.filter (λp=>decide (tL p.2=((k:Nat):Int))):=by rw[e]; exact aK ..
   obtain⟨a,b⟩:=bC.1 hm
   exact⟨p,a,by simpa using b,rfl⟩
def enL (nl:Nat) (F:FT):List T4:=(List.range nl).map (jL F)
structure RSt (h:AH) (e0 m nl:Nat) (F:FT):Prop where
 ed:h.get e0=some (.cells (il m λi=>((cntF F i:Nat):Int)) 1 false)
 fi:h.get (e0+1)=some (.cells (il nl (lO F)) 1 false)
 se:h.get (e0+2)=some (.cells (il nl (iR F)) 1 false)
 en:h.get (e0+3)=some (.cells ((enL nl F).flatMap eT4) 4 false)
 nx:e0+4≤h.next
theorem RSt.ext {h h':AH}{e0 m nl:Nat}{F:FT} (r:RSt h e0 m nl F) (hx:Ext h.next h h'):RSt h' e0 m nl F:=by
 have:=r.nx
 have hn:=hx.nx
 exact⟨by rw[hx.gt _ om]; exact r.ed,by rw[hx.gt _ om]; exact r.fi,by rw[hx.gt _ om]; exact r.se,by rw[hx.gt _ om]; exact r.en,om⟩
theorem sq {F:FT}{s k:Nat}{t:T4}:lO (F++[(s,t)]) k=if plc F k=[]∧tL t=((k:Nat):Int) then ((s:Nat):Int) else lO F k:=by
 unfold lO
 rw[plc_app]
 cases h:plc F k with
 | nil =>
   by_cases q:tL t=((k:Nat):Int)
   ·rw[if_pos q,if_pos ⟨rfl,q⟩]; rfl
   ·rw[if_neg q,if_neg (λe=>q e.2)]; rfl
 | cons p r =>
   have hc:¬ (p::r=[]∧tL t=((k:Nat):Int)):=λq=>by cases q.1
   rw[if_neg hc]; rfl
theorem qX {F:FT}{s k:Nat}{t:T4}:iR (F++[(s,t)]) k=if (plc F k).length=1∧tL t=((k:Nat):Int) then ((s:Nat):Int) else iR F k:=by
 unfold iR
 rw[plc_app]
 rcases plc F k with _|⟨p,_|⟨p',r⟩⟩
 ·have hc:¬ (([]:List Nat).length=1∧tL t=((k:Nat):Int)):=λq=>by cases q.1
  rw[if_neg hc]
  by_cases q:tL t=((k:Nat):Int)
  ·rw[if_pos q]; rfl
  ·rw[if_neg q]; rfl
 ·by_cases q:tL t=((k:Nat):Int)
  ·have hc:([p].length=1∧tL t=((k:Nat):Int)):=⟨rfl,q⟩
   rw[if_pos q,if_pos hc]; rfl
  ·rw[if_neg q,if_neg (λe=>q e.2)]; rfl
 ·have hc:¬ ((p::p'::r).length=1∧tL t=((k:Nat):Int)):=λq=>by cases q.1
  rw[if_neg hc]; rfl
theorem JE (nl:Nat) (F:FT):(enL nl F).length=nl:=by simp [enL]
theorem NJ {nl k:Nat}{F:FT} (hk:k<nl):(enL nl F)[k]?=some (jL F k):=by
 unfold enL
 rw[aE,cu hk]
 rfl
theorem Bd {h:AH}{b nl k j:Nat}{F:FT}{x:AV} (hg:h.get b=some (.cells ((enL nl F).flatMap eT4) 4 false)) (hk:k<nl) (hj:(eT4 (jL F k))[j]?=some x) (hj4:j<4):aj h b (k*4+j) 1=some [x]:=by
 obtain⟨h1,h2⟩:=qI (f:=eT4) (e:=4) (λ_=>rfl) (enL nl F) k (jL F k) (NJ hk)
 refine aJ hg ?_
 have:((((enL nl F).flatMap eT4).drop (k*4)).take 4)[j]?=(eT4 (jL F k))[j]?:=congrArg (·[j]?) h2
 rw[cE,if_pos hj4,dV,hj] at this
 exact this
theorem RSt.edge {h h':AH}{e0 m nl k s:Nat}{F:FT}{t:T4} (r:RSt h e0 m nl F) (hk:k<m) (t1:tL t=-1) (t2:tE t=((k:Nat):Int)) (u:Upd h h' e0 (.cells ((il m λi=>((cntF F i:Nat):Int)).set k (.int .i64 ((cntF F k+1:Nat):Int))) 1 false)):RSt h' e0 m nl (F++[(s,t)]):=by
 have hno:∀ j:Nat,¬ tL t=((j:Nat):Int):=λj e=>by omega
 refine⟨?_,?_,?_,?_,by rw[u.nx]; exact r.nx⟩
 ·rw[u.get,gf]
  congr 2
  refine dx λi _=>?_
  rw[cntF_app]
  by_cases e:i=k
  ·subst e
   have:(if tL t=-1∧tE t=((i:Nat):Int) then 1 else 0)=1:=if_pos ⟨t1,t2⟩
   rw[if_pos rfl,this]
  ·have:(if tL t=-1∧tE t=((i:Nat):Int) then 1 else 0)=0:=if_neg λq=>e (by have:=t2.symm.trans q.2; omega)
   rw[if_neg e,this,ce]
 ·rw[u.ne om,r.fi]
  congr 2
  refine dx λi _=>?_
  rw[sq,if_neg λq=>hno i q.2]
 ·rw[u.ne om,r.se]
  congr 2
  refine dx λi _=>?_
  rw[qX,if_neg λq=>hno i q.2]
 ·rw[u.ne om,r.en]
  congr 2
  unfold enL
  congr 1
  refine ct λi _=>?_
  rw[oD,if_neg λq=>hno i q.2]
theorem RSt.fst {h h1 h2:AH}{e0 m nl k s:Nat}{F:FT}{t:T4} (r:RSt h e0 m nl F) (hk:k<nl) (hp:plc F k=[]) (t1:tL t=((k:Nat):Int)) (u:Upd h h1 (e0+1) (.cells ((il nl (lO F)).set k (.int .i64 ((s:Nat):Int))) 1 false))
 (u2:Upd h1 h2 (e0+3) (.cells (((enL nl F).set k t).flatMap eT4) 4 false)):RSt h2 e0 m nl (F++[(s,t)]):=by
 have hk1:∀ j:Nat,tL t=((j:Nat):Int)↔j=k:=λj=>by omega
 refine⟨?_,?_,?_,?_,by rw[u2.nx,u.nx]; exact r.nx⟩
 ·rw[u2.ne om,u.ne om,r.ed]
  congr 2
  refine dx λi _=>?_
  have:(if tL t=-1∧tE t=((i:Nat):Int) then 1 else 0)=0:=if_neg λq=>by omega
  rw[cntF_app,this,ce]
 ·rw[u2.ne om,u.get,gf]
  congr 2
  refine dx λi _=>?_
  rw[sq]
  by_cases e:i=k
  ·subst e; rw[if_pos rfl,if_pos ⟨hp,t1⟩]
  ·rw[if_neg e,if_neg λq=>e ((hk1 i).1 q.2)]
 ·rw[u2.ne om,u.ne om,r.se]
  congr 2
  refine dx λi _=>?_
  rw[qX,if_neg]
  rintro⟨q1,q2⟩
  have:=(hk1 i).1 q2
  subst this
  rw[hp] at q1
  cases q1
 ·rw[u2.get]
  congr 2
  congr 1
  refine dg λi=>?_
  unfold enL
  rw[cn,ar,aZ]
  by_cases e:k=i
  ·subst e
   rw[if_pos rfl]
   rw[if_pos hk,aE,cu hk,aG,oD,if_pos ⟨hp,t1⟩]
  ·rw[if_neg e,aE,aE]
   cases hr:(List.range nl)[i]? with
   | none=>rfl
   | some j =>
     have:j=i:=by
      have:=(aB.1 hr).2
      rw[jF] at this
      exact this.symm
     subst this
     rw[aG,aG,oD,if_neg λq=>e ((hk1 j).1 q.2).symm]
theorem RSt.snd {h h1:AH}{e0 m nl k s:Nat}{F:FT}{t:T4} (r:RSt h e0 m nl F) (hp:(plc F k).length=1) (t1:tL t=((k:Nat):Int)) (u:Upd h h1 (e0+2) (.cells ((il nl (iR F)).set k (.int .i64 ((s:Nat):Int))) 1 false)):RSt h1 e0 m nl (F++[(s,t)]):=by
 have hk1:∀ j:Nat,tL t=((j:Nat):Int)↔j=k:=λj=>by omega
 have hne:∀ j:Nat,¬ (plc F j=[]∧tL t=((j:Nat):Int)):=λj q=>by
  have:=(hk1 j).1 q.2
  subst this
  rw[q.1] at hp
  cases hp
 refine⟨?_,?_,?_,?_,by rw[u.nx]; exact r.nx⟩
 ·rw[u.ne om,r.ed]
  congr 2
  refine dx λi _=>?_
  have:(if tL t=-1∧tE t=((i:Nat):Int) then 1 else 0)=0:=if_neg λq=>by omega
  rw[cntF_app,this,ce]
 ·rw[u.ne om,r.fi]
  congr 2
  refine dx λi _=>?_
  rw[sq,if_neg (hne i)]
 ·rw[u.get,gf]
  congr 2
  refine dx λi _=>?_
  rw[qX]
  by_cases e:i=k
  ·subst e; rw[if_pos rfl,if_pos ⟨hp,t1⟩]
  ·rw[if_neg e,if_neg λq=>e ((hk1 i).1 q.2)]
 ·rw[u.ne om,r.en]
  congr 2
  unfold enL
  congr 1
  refine ct λi _=>?_
  rw[oD,if_neg (hne i)]
theorem rJ {nl:Nat}{n:Int}{E:List (Int×Int)}{F:FT}{i:Nat}{t:T4} (h:OkF nl n E F) (hv:Kh n E t) (hl:tL t<((nl:Nat):Int)) (h2:∀ k:Nat,tL t=((k:Nat):Int)→plc F k=[]∨(∃ p,plc F k=[p]∧p≠i∧(jL F k).1=t.1∧(jL F k).2.1=t.2.1)):OkF nl n E (F++[(i,t)]):=by
 refine⟨(vw h.1).1 ⟨hv.1,?_⟩,λp hp=>?_,λk=>?_⟩
 ·rcases hv.2 with a|⟨a,b⟩
  ·exact .inl a
  ·refine .inr ⟨a,b,λp hp e=>?_⟩
   have e1:tL t=((tL t).toNat:Nat):=om
   rcases h2 _ e1 with q|⟨p',q,_,q2,q3⟩
   ·exact absurd q (rQ (s:=p.1) (t:=p.2) hp (e.trans e1))
   ·obtain⟨p2,m1,m2,m3⟩:=yf (F:=F) (k:=(tL t).toNat) (by rw[q]; simp)
    have:=h.1.2 p hp p2 m1 (by rw[m2,e]; exact e1) om
    rw[m3] at q2 q3
    exact⟨this.1.trans q2,this.2.trans q3⟩
 ·rcases aI.1 hp with hp|hp
  ·exact h.2.1 p hp
  ·rw[bd] at hp
   subst hp
   exact hl
 ·rw[plc_app]
  by_cases e:tL t=((k:Nat):Int)
  ·rw[if_pos e]
   rcases h2 k e with q|⟨p,q,q2,_⟩
   ·rw[q]; simp
   ·rw[q]
    exact⟨by simp,by simp [q2]⟩
  ·rw[if_neg e,bZ]
   exact h.2.2 k
open Go.Am
open Go.Blk (RC goN go_ok)
open Go.Spl (T4 OkT tA tB deg vs rk rkE mem_vs vs_len vs_rise vs_nodup deg_take deg_le end_vs rk_mem rk_get rkE_len nParts RepP cw rc_symm rc_sub)
theorem qe {h:AH}{v:AV}{T:List T4}{x:Nat} (hv:qA h v T) (hok:∀ t∈T,OkT t) (hxl:T.length<2 ^ 40):C prg 38 [v,.int .i64 ((x:Nat):Int)] h λr h'=>r=.int .i64 ((deg T x:Nat):Int)∧h'=h:=by
 have el:=hv.len
 rw[ar] at el
 have d0:deg ([]:List T4) x=0:=rfl
 refine NX pf38 ?_
 refine ah (ak (Mi0) ?_)
 refine ah (ak (Mi0) ?_)
 refine ah (ah (ak (Mi0) ?_))
 refine er (α:=Unit) (N:=T.length) (λk _=>[(0,v),(1,.int .i64 ((x:Nat):Int)),(5,.int .i64 ((deg (T.take k) x:Nat):Int)),(6,.int .i64 (k:Nat))])
  (λk _ h'=>h'=h) () (Hi2 d0 @aW) rfl ?_ ?_ ?_
 ·rintro k _ ts h2 hk rfl ⟨e0,e1,e5,e6,-⟩
  simp only at e0 e1 e5 e6
  exact⟨_,(M4 e0 e6 el @bw),Z0,H4 e0 e1 e5 e6⟩
 ·rintro k _ ts h2 hk rfl ⟨e0,e1,e5,e6,-⟩
  simp only at e0 e1 e5 e6
  have w6:=dF (k:=k) om
  have hdl:=deg_le (T.take k) x
  rw[bz] at hdl
  have w5:=dF (k:=deg (T.take k) x) om
  obtain⟨b1,p1,a1,_,r1,_⟩:=hv.at (dp (f:=eT4) hk)
  obtain⟨q1,q2,q3,q4⟩:=(hok _ (aO hk)).nat
  have r10:=r1 0 (.int .i64 T[k].1) rfl
  have r11:=r1 1 (.int .i64 T[k].2.1) rfl
  rw[ce] at r10
  have hst:=deg_take hk x
  rw[q1] at r10
  rw[q2] at r11
  generalize tA T[k]=a at *
  generalize tB T[k]=b at *
  by_cases k1:a=x
  ·have c1:decide (((a:Nat):Int)=((x:Nat):Int))=true:=aq om
   have hs:(if a=x∨b=x then 1 else 0)=1:=if_pos (.inl k1)
   rw[hs] at hst
   refine ah (ak (M6 e0 e1 e6 a1 r10 c1) ?_)
   refine bq (Z0) ?_
   refine ak (M2 e5 w5) ?_
   exact⟨(),rfl,_,(M2 e6 w6),H3 e0 e1 hst⟩
  have c1:decide (((a:Nat):Int)=((x:Nat):Int))=false:=ai om
  by_cases k2:b=x
  ·have c2:decide (((b:Nat):Int)=((x:Nat):Int))=true:=aq om
   have hs:(if a=x∨b=x then 1 else 0)=1:=if_pos (.inr k2)
   rw[hs] at hst
   refine ah (ak (M8 e0 e1 e6 a1 r10 r11 c1 c2) ?_)
   refine bq (Z0) ?_
   refine ak (M2 e5 w5) ?_
   exact⟨(),rfl,_,(M2 e6 w6),H3 e0 e1 hst⟩
  have c2:decide (((b:Nat):Int)=((x:Nat):Int))=false:=ai om
  have hs:(if a=x∨b=x then 1 else 0)=0:=if_neg (by rintro (e|e); exact k1 e; exact k2 e)
  rw[hs,ce] at hst
  refine ah (ak (M8 e0 e1 e6 a1 r10 r11 c1 c2) ?_)
  refine cj (Z0) (be ?_)
  exact⟨(),rfl,_,(M2 e6 w6),H4 e0 e1 e5 hst⟩
 ·rintro _ ts h2 rfl ⟨e0,e1,e5,e6,-⟩
  simp only at e5
  rw[bO] at e5
  refine ah (ak (M1 e5) ?_)
  exact aV ⟨_,(by simp only[rs,rf38,am,aC,simprocAttr]<;>rfl),rfl,rfl⟩
def vsK (T:List T4) (k:Nat):List Nat:=(List.range k).filter λx=>decide (0<deg T x)
theorem wI {T:List T4}{k:Nat}:vsK T (k+1)=vsK T k++if 0<deg T k then [k] else []:=by
 unfold vsK
 rw[bT,fm]
 congr 1
 by_cases q:0<deg T k
 ·rw[if_pos q,dY (by simpa using q)]; rfl
 ·rw[if_neg q,eT (by simpa using q)]; rfl
theorem GU (T:List T4) (k:Nat):(vsK T k).length≤k:=by
 have:=eN (λx=>decide (0<deg T x)) (List.range k)
 rwa [aZ] at this
theorem nA {h:AH}{v:AV}{T:List T4} (hv:qA h v T) (hok:∀ t∈T,OkT t) (hxl:T.length<2 ^ 40):C prg 19 [v] h λr h'=>IsSl h' 1 h.next r (nC (vs T))∧Ext h.next h h':=by
 refine NX pf19 ?_
 refine ah (ak (Mi0) ?_)
 have x5:Ext h.next h (h.new (.cells [] 1 false)):=NU (ae _)
 have g5:(h.new (.cells [] 1 false)).get h.next=some (.cells [] 1 false):=by rw[AH.get_new,if_pos rfl]
 refine ah (ak (M0) ?_)
 show W _ _ _ (h.new (.cells [] 1 false)) _ _ _
 generalize (h.new (.cells [] 1 false))=h1 at *
 refine ah (ah (ak (M0) ?_))
 have h64:∀ k:Nat,(((k:Nat):Int)<64)=(k<64):=λk=>propext om
 refine er (α:=AV) (N:=64) (λk a=>[(0,v),(3,a),(4,.int .i64 (k:Nat))])
  (λk a h'=>IsSl h' 1 h.next a (nC (vsK T k))∧Ext h.next h h') (.sl h.next 0 0 0) (Hi1 @aW) ⟨.inr ⟨h.next,0,ae _,rfl,g5,rfl⟩,x5⟩ ?_ ?_ ?_
 ·rintro k a ts h2 hk ⟨j1,j2⟩ ⟨e0,e3,e4,-⟩
  simp only at e0 e3 e4
  exact⟨_,(M2 e4 h64),Z0,H3 e0 e3 e4⟩
 ·rintro k a ts h2 hk ⟨j1,j2⟩ ⟨e0,e3,e4,-⟩
  simp only at e0 e3 e4
  have w4:=dF (k:=k) om
  refine ah (bF (bg 2 (M2 e0 e4) rfl (Z2 e0 e4) (M2 e0 e4) (qe (x:=k) (hv.ext j2 (ae _)) hok hxl) λr h3 hq=>?_))
  obtain⟨rfl,rfl⟩:=hq
  have hvl:=GU T k
  by_cases q:0<deg T k
  ·have c1:decide ((0:Int)<((deg T k:Nat):Int))=true:=aq om
   refine bp (M1 c1) ?_
   refine bq (Z0) ?_
   obtain⟨a',h4,p1,p2,p3,p4⟩:=j1.push (bytes:=8) [.int .i64 ((k:Nat):Int)] (by have:=j2.nx; omega) om rfl rfl (by rw[fj]; unfold aQ; omega) (by rw[fj]; unfold aQ; omega)
   refine ak (M3 e3 e4 p1) ?_
   refine⟨a',⟨?_,j2.trans p3⟩,_,(M2 e4 w4),H1 e0⟩
   rw[wI,if_pos q,pj]
   exact p2
  ·have c1:decide ((0:Int)<((deg T k:Nat):Int))=false:=ai om
   refine bp (M1 c1) ?_
   refine cj (Z0) (be ?_)
   refine⟨a,⟨?_,j2⟩,_,(M2 e4 w4),H2 e0 e3⟩
   rw[wI,if_neg q,bZ]
   exact j1
 ·rintro a ts h2 ⟨j1,j2⟩ ⟨e0,e3,e4,-⟩
  simp only at e3
  refine ah (ak (M1 e3) ?_)
  exact aV ⟨a,(by simp only[rs,rf19,am,aC,simprocAttr,j1.cells.1]<;>rfl),j1,j2⟩
theorem Cj {n:Nat}{E:List (Int×Int)}{o:Nat→Bool} (hE:InG n E) {x:Nat} (hx:x<n):cU n E o x=((x:Nat):Int)↔RepP E.length (tlE E) (hdE E) o x:=by
 have ht:∀ i,i<E.length→tlE E i<n∧hdE E i<n:=λi hi=>(hE i hi).2
 have hgo:=λy=>go_ok (c:=λi=>!(o (tlE E i))&&!(o (hdE E i))) ht hx y
 unfold cU
 cases ho:o x with
 | true =>
   rw[ui (λi _=>by simp) n (ae _)]
   constructor
   ·intro q; omega
   ·intro q; have:=q.1; rw[ho] at this; cases this
 | false =>
   obtain⟨y,e1,_,e3,e4,e5⟩:=kI (p:=λy=>goN E.length (tlE E) (hdE E) (λi=>!(o (tlE E i))&&!(o (hdE E i))) n (λv=>decide (v=x)) y&&!false) n (ae _) ⟨x,om,hx,by
    rw[(hgo x).2 .refl]; rfl⟩
   rw[e1]
   constructor
   ·intro q
    have:y=x:=om
    subst this
    refine⟨ho,λz hz hr=>?_⟩
    have:=e5 z om hz
    rw[(hgo z).2 (rc_symm hr)] at this
    cases this
   ·rintro⟨_,q⟩
    simp only[wD,iW] at e4
    have hr:=(hgo y).1 e4
    rcases kw y x with h|h|h
    ·exact absurd (rc_symm hr) (q y h)
    ·omega
    ·have:=e5 x om h
     rw[(hgo x).2 .refl] at this
     cases this
theorem oj {n:Nat}{E:List (Int×Int)}{w w':Nat→Bool} (hE:InG n E) (h:∀ x,x<n→w x=w' x):nParts n E.length (tlE E) (hdE E) w=nParts n E.length (tlE E) (hdE E) w':=by
 have hc:∀ i,i<E.length→cw (tlE E) (hdE E) w i=cw (tlE E) (hdE E) w' i:=λi hi=>by
  unfold cw
  rw[h _ (hE i hi).2.1,h _ (hE i hi).2.2]
 have h1:∀ u v,RC E.length (tlE E) (hdE E) (cw (tlE E) (hdE E) w) u v↔RC E.length (tlE E) (hdE E) (cw (tlE E) (hdE E) w') u v:=λu v =>
  ⟨rc_sub λi hi q=>⟨i,hi,by rw[← hc i hi]; exact q,.inl ⟨rfl,rfl⟩⟩,rc_sub λi hi q=>⟨i,hi,by rw[hc i hi]; exact q,.inl ⟨rfl,rfl⟩⟩⟩
 unfold nParts
 refine oS λx hx=>?_
 have hx:=aL.1 hx
 simp only[az]
 unfold RepP
 rw[h x hx]
 constructor
 ·exact λ⟨a,b⟩=>⟨a,λy hy hr=>b y hy ((h1 y x).2 hr)⟩
 ·exact λ⟨a,b⟩=>⟨a,λy hy hr=>b y hy ((h1 y x).1 hr)⟩
def dG (T:List T4) (a b:Int) (x:Nat):Bool:=decide ((((vs T).getD x 0:Nat):Int)=a)||decide ((((vs T).getD x 0:Nat):Int)=b)
def plF (T:List T4) (i x:Nat):Int:=if x∈vs T∧rk T x<i then ((rk T x:Nat):Int) else 0
theorem ER {T:List T4}{i:Nat} (hi:i<(vs T).length) (x:Nat):(if x=(vs T)[i] then ((i:Nat):Int) else plF T i x)=plF T (i+1) x:=by
 unfold plF
 by_cases e:x=(vs T)[i]
 ·subst e
  rw[if_pos rfl,if_pos ⟨aO hi,by rw[rk_get hi]; omega⟩,rk_get hi]
 ·rw[if_neg e]
  by_cases q:x∈vs T∧rk T x<i
  ·rw[if_pos q,if_pos ⟨q.1,om⟩]
  ·rw[if_neg q,if_neg]
   rintro⟨q1,q2⟩
   have:rk T x=i:=by
    refine Classical.byContradiction λhc=>q ⟨q1,om⟩
   obtain⟨_,e2⟩:=rk_mem q1
   refine e ?_
   rw[← e2]
   simp only[this]
open Go.Am
open Go.Spl (T4 OkT tA tB deg vs rk rkE mem_vs vs_len vs_rise vs_nodup end_vs rk_mem rk_get rkE_len nParts RepP)
theorem Da {n:Nat}{E:List (Int×Int)}{o:Nat→Bool} (hE:InG n E):∀ k,k≤n→(List.range k).countP (λi=>decide (cU n E o i=((i:Nat):Int)))=nParts k E.length (tlE E) (hdE E) o
 | 0,_=>rfl
 | k+1,h=>by
   unfold nParts
   refine oS λx hx=>?_
   have hx:=aL.1 hx
   simp only[az]
   exact Cj hE om
theorem AC {T:List T4}{x:Nat} (hx:x∈vs T):plF T (vs T).length x=((rk T x:Nat):Int):=by
 unfold plF
 rw[if_pos ⟨hx,(rk_mem hx).1⟩]
set_option maxHeartbeats 2000000 in
theorem qd {h:AH}{v:AV}{T:List T4}{a b:Int} (hv:qA h v T) (hok:∀ t∈T,OkT t) (hxl:T.length<2 ^ 29) :
 C prg 39 [v,.int .i64 a,.int .i64 b] h λr h'=>r=.int .i64 ((nParts (vs T).length (rkE T).length (tlE (rkE T)) (hdE (rkE T)) (dG T a b):Nat):Int)∧Ext h.next h h':=by
 have el:=hv.len
 rw[ar] at el
 have hvl:=vs_len T
 have hE:=yZ hok
 refine NX pf39 ?_
 refine ah (ak (Mi0) ?_)
 refine ah (bF (bg 1 (Mi0) rfl (Zi0) (Mi0) (nA hv hok om) λr h1 hq=>?_))
 obtain⟨i1,x1⟩:=hq
 refine bp (M0) ?_
 generalize hlv:r=lv at *
 clear hlv
 have n1:=x1.nx
 have s1:=kH i1
 have l1:=s1.len
 rw[ar,ar] at l1
 have mu2:=fS (h:=h1) (z:=[.int .i64 0]) (e:=1) (bytes:=8) (n:=64) (by unfold aQ; omega) (by unfold aQ; omega)
 have mu2:xC h1 [.int .i64 0] 1 8 (.int .i64 64) (.int .i64 64)=some (.sl h1.next 0 64 64,h1.new (.cells (bX [.int .i64 0] 64) 1 false)):=mu2
 have x2:Ext h1.next h1 (h1.new (.cells (bX [.int .i64 0] 64) 1 false)):=NU (ae _)
 have g2:(h1.new (.cells (bX [.int .i64 0] 64) 1 false)).get h1.next=some (.cells (bX [.int .i64 0] 64) 1 false):=by rw[AH.get_new,if_pos rfl]
 have n2:(h1.new (.cells (bX [.int .i64 0] 64) 1 false)).next=h1.next+1:=rfl
 refine ah (ak (Mi1 mu2) ?_)
 generalize (h1.new (.cells (bX [.int .i64 0] 64) 1 false))=h2 at *
 rw[lh] at g2
 have mu3:=fS (h:=h2) (z:=[.bool false]) (e:=1) (bytes:=1) (n:=(vs T).length) (by unfold aQ; omega) (by unfold aQ; omega)
 have x3:Ext h2.next h2 (h2.new (.cells (bX [.bool false] (vs T).length) 1 false)):=NU (ae _)
 have g3:(h2.new (.cells (bX [.bool false] (vs T).length) 1 false)).get h2.next=some (.cells (bX [.bool false] (vs T).length) 1 false):=by rw[AH.get_new,if_pos rfl]
 have n3:(h2.new (.cells (bX [.bool false] (vs T).length) 1 false)).next=h2.next+1:=rfl
 refine ah (ak (Mi2 l1 mu3) ?_)
 generalize (h2.new (.cells (bX [.bool false] (vs T).length) 1 false))=h3 at *
 rw[oH] at g3
 have X3:Ext h.next h h3:=(x1.trans (x2.mono n1)).trans (x3.mono om)
 have g32:h3.get h1.next=some (.cells (il 64 λ_=>0) 1 false):=by rw[x3.gt _ om]; exact g2
 have x13:Ext h1.next h1 h3:=x2.trans (x3.mono om)
 clear mu2 mu3
 refine ah (ah (ak (Mi0) ?_))
 refine er (α:=Unit) (N:=(vs T).length) (λi _=>[(0,v),(1,.int .i64 a),(2,.int .i64 b),(7,lv),(8,.sl h1.next 0 64 64),(9,.sl h2.next 0 (vs T).length (vs T).length),(10,.int .i64 (i:Nat))])
  (λi _ h'=>h'.get h1.next=some (.cells (il 64 (plF T i)) 1 false)∧h'.get h2.next=some (.cells (bl (vs T).length λj=>if j<i then dG T a b j else false) 1 false)∧Ext h.next h h'∧h2.next+1≤h'.next∧Ext h1.next h1 h') () (Hi1 @aW)
  ⟨by rw[g32]; congr 2; refine dx λi _=>?_; unfold plF; rw[if_neg om],by rw[g3]; simp,X3,om,x13⟩ ?_ ?_ ?_
 ·rintro i _ ts h4 hi ⟨j1,j2,j3,j4,j5⟩ ⟨e0,e1,e2,e7,e8,e9,e10,-⟩
  simp only at e0 e1 e2 e7 e8 e9 e10
  exact⟨_,(M4 e7 e10 l1 @bw),Z0,H7 e0 e1 e2 e7 e8 e9 e10⟩
 ·rintro i _ ts h4 hi ⟨j1,j2,j3,j4,j5⟩ ⟨e0,e1,e2,e7,e8,e9,e10,-⟩
  simp only at e0 e1 e2 e7 e8 e9 e10
  have w10:=dF (k:=i) om
  have hpl:=ER hi
  have hx64:(vs T)[i]<64:=(mem_vs.1 (aO hi)).1
  have hname:dG T a b i=(decide ((((vs T)[i]:Nat):Int)=a)||decide ((((vs T)[i]:Nat):Int)=b)):=by
   unfold dG
   rw[aF,au hi]
   rfl
  have s4:=s1.ext j5 (ae _)
  obtain⟨b1,p1,a1,r1,_⟩:=s4.at1 (i:=i) (y:=.int .i64 (((vs T)[i]:Nat):Int)) (by rw[aE,aE,au hi]; rfl)
  generalize hxe:(vs T)[i]=x at *
  have ix:eQ ((x:Nat):Int) 64=some x:=cJ hx64
  have ii:eQ ((i:Nat):Int) (vs T).length=some i:=cJ hi
  have wu:=dN (v:=.int .i64 ((i:Nat):Int)) j1 (i:=x) (by rw[fc]; exact hx64)
  have uu:=NW (o:=.cells ((il 64 (plF T i)).set x (.int .i64 ((i:Nat):Int))) 1 false) j1
  refine ah (ak (M8 e7 e8 e10 a1 r1 ix @aD wu) ?_)
  generalize h4.put h1.next (.cells ((il 64 (plF T i)).set x (.int .i64 ((i:Nat):Int))) 1 false)=h5 at *
  have X5:Ext h.next h h5:=j3.trans (uu.ext n1)
  have X15:Ext h1.next h1 h5:=j5.trans (uu.ext (ae _))
  have n5:=uu.nx
  have s5:=s1.ext X15 (ae _)
  obtain⟨b5,p5,a5,r5,_⟩:=s5.at1 (i:=i) (y:=.int .i64 ((x:Nat):Int)) (by
   rw[aE,aE,au hi,hxe]; rfl)
  have g5:h5.get h2.next=some (.cells (bl (vs T).length λj=>if j<i then dG T a b j else false) 1 false):=by rw[uu.ne om]; exact j2
  have wo:=dN (v:=.bool (dG T a b i)) g5 (i:=i) (by rw[kr]; exact hi)
  have uo:=NW (o:=.cells ((bl (vs T).length λj=>if j<i then dG T a b j else false).set i (.bool (dG T a b i))) 1 false) g5
  have hJ:(h5.put h2.next (.cells ((bl (vs T).length λj=>if j<i then dG T a b j else false).set i (.bool (dG T a b i))) 1 false)).get h1.next=some (.cells (il 64 (plF T (i+1))) 1 false)∧(h5.put h2.next (.cells ((bl (vs T).length λj=>if j<i then dG T a b j else false).set i (.bool (dG T a b i))) 1 false)).get h2.next=some (.cells (bl (vs T).length λj=>if j<i+1 then dG T a b j else false) 1 false):=by
   refine⟨?_,?_⟩
   ·rw[uo.ne om,uu.get,gf]
    congr 2
    exact dx λj _=>hpl j
   ·rw[uo.get,mE]
    congr 2
    refine jC λj _=>?_
    by_cases e:j=i
    ·subst e; rw[if_pos rfl,if_pos om]
    ·rw[if_neg e]
     by_cases e2:j<i
     ·rw[if_pos e2,if_pos om]
     ·rw[if_neg e2,if_neg om]
  have hX:Ext h.next h (h5.put h2.next (.cells ((bl (vs T).length λj=>if j<i then dG T a b j else false).set i (.bool (dG T a b i))) 1 false))∧h2.next+1≤(h5.put h2.next (.cells ((bl (vs T).length λj=>if j<i then dG T a b j else false).set i (.bool (dG T a b i))) 1 false)).next∧Ext h1.next h1 (h5.put h2.next (.cells ((bl (vs T).length λj=>if j<i then dG T a b j else false).set i (.bool (dG T a b i))) 1 false)) :=
   ⟨X5.trans (uo.ext om),by rw[uo.nx]; omega,X15.trans (uo.ext om)⟩
  by_cases k1:((x:Nat):Int)=a
  ·have c1:decide (((x:Nat):Int)=a)=true:=aq k1
   rw[c1,Bool.true_or] at hname
   rw[hname] at wo hJ hX
   refine ak (M12 e1 e2 e7 e9 e10 a5 r5 c1 ii @aD wo wo) ?_
   exact⟨(),⟨hJ.1,hJ.2,hX.1,hX.2.1,hX.2.2⟩,_,(M2 e10 w10),H6 e0 e1 e2 e7 e8 e9⟩
  ·have c1:decide (((x:Nat):Int)=a)=false:=ai k1
   rw[c1,pP] at hname
   rw[hname] at wo hJ hX
   refine ak (M12 e1 e2 e7 e9 e10 a5 r5 c1 ii @aD wo wo) ?_
   exact⟨(),⟨hJ.1,hJ.2,hX.1,hX.2.1,hX.2.2⟩,_,(M2 e10 w10),H6 e0 e1 e2 e7 e8 e9⟩
 rintro _ ts h4 ⟨j1,j2,j3,j4,j5⟩ ⟨e0,e1,e2,e7,e8,e9,e10,-⟩
 simp only at e0 e1 e2 e7 e8 e9
 have j2:h4.get h2.next=some (.cells (bl (vs T).length (dG T a b)) 1 false):=by
  rw[j2]
  congr 2
  exact jC λj hj=>by rw[if_pos hj]
 obtain⟨h5,w5,x5,g5,n5⟩:=dI (h:=h4) (z:=[.int .i64 0,.nils]) (cs:=[.int .i64 (((vs T).length:Nat):Int),.nils]) (e:=2) rfl
 refine ah (ak (M3 e7 l1 w5) ?_)
 have X5:Ext h.next h h5:=j3.trans (x5.mono j3.nx)
 refine ah (ah (ak (M0) ?_))
 refine er (α:=AV) (N:=T.length) (λk _=>[(0,v),(7,lv),(8,.sl h1.next 0 64 64),(9,.sl h2.next 0 (vs T).length (vs T).length),(11,.ptr h4.next 0),(12,.int .i64 (k:Nat))])
  (λk ev h'=>h'.get h4.next=some (.cells [.int .i64 (((vs T).length:Nat):Int),ev] 2 false)∧IsSl h' 2 (h4.next+1) ev (((rkE T).take k).flatMap eE)∧h'.get h1.next=some (.cells (il 64 (plF T (vs T).length)) 1 false)∧h'.get h2.next=some (.cells (bl (vs T).length (dG T a b)) 1 false)∧Ext h.next h h'∧h4.next+1≤h'.next) .nils (H5 e0 e7 e8 e9 @aW)
  ⟨g5,.inl ⟨rfl,rfl⟩,by rw[x5.gt _ om]; exact j1,by rw[x5.gt _ om]; exact j2,X5,om⟩ ?_ ?_ ?_
 ·clear e0 e1 e2 e7 e8 e9
  rintro k ev ts h6 hk ⟨k1,k2,k3,k4,k5,k6⟩ ⟨e0,e7,e8,e9,e11,e12,-⟩
  simp only at e0 e7 e8 e9 e11 e12
  exact⟨_,(M4 e0 e12 el @bw),Z0,H6 e0 e7 e8 e9 e11 e12⟩
 ·clear e0 e1 e2 e7 e8 e9
  rintro k ev ts h6 hk ⟨k1,k2,k3,k4,k5,k6⟩ ⟨e0,e7,e8,e9,e11,e12,-⟩
  simp only at e0 e7 e8 e9 e11 e12
  have w12:=dF (k:=k) om
  have htk:=xc hk
  obtain⟨m1,m2⟩:=end_vs hok (aO hk)
  obtain⟨q1,q2,q3,q4⟩:=(hok _ (aO hk)).nat
  have kg:∀ c,c<h6.next→(h6.keep 1).get c=h6.get c:=λc hc=>by rw[AH.keep_get,if_neg om]
  have q7:(h6.keep 1).get h6.next=some .resv:=fN
  have hv6:qA (h6.keep 1) v T:=(hv.ext k5 (ae _)).cong λb' o' n' c' e'=>kg _ ((hv.ext k5 (ae _)).lt e')
  obtain⟨b1,p1,a1,_,r1,_⟩:=hv6.at (dp (f:=eT4) hk)
  have r10:=r1 0 (.int .i64 T[k].1) rfl
  have r11:=r1 1 (.int .i64 T[k].2.1) rfl
  rw[ce,q1] at r10
  rw[q2] at r11
  have pA:=AC m1
  have pB:=AC m2
  generalize tA T[k]=x at *
  generalize tB T[k]=y at *
  have ix:eQ ((x:Nat):Int) 64=some x:=cJ om
  have iy:eQ ((y:Nat):Int) 64=some y:=cJ om
  have hnl1:=AH.lt_of_get k3
  have rx:aj (h6.keep 1) h1.next x 1=some [.int .i64 ((rk T x:Nat):Int)]:=aJ (by rw[kg _ hnl1]; exact k3) (by rw[fx om,pA])
  have ry:aj (h6.keep 1) h1.next y 1=some [.int .i64 ((rk T y:Nat):Int)]:=aJ (by rw[kg _ hnl1]; exact k3) (by rw[fx om,pB])
  have rE:aj (h6.keep 1) h4.next 1 1=some [ev]:=aJ (by rw[kg _ om]; exact k1) rfl
  obtain⟨x7,p7,n7,y7⟩:=gq (h:=h6) (o:=.cells [.int .i64 ((rk T x:Nat):Int),.int .i64 ((rk T y:Nat):Int)] 2 false)
  have hlen:(((rkE T).take k).flatMap eE).length=k*2:=by rw[dZ (f:=eE) (e:=2) (λ_=>rfl),bz,rkE_len]; congr 1; omega
  obtain⟨a',h9,t1,t2,t3,t4,t5,t6,_⟩:=(k2.ext x7 (ae _)).app (bytes:=16) om om p7 om (λb n e=>by have:=k2.lt e; omega) rfl rfl (by rw[hlen,cM _ om]; unfold aQ; omega) (by rw[hlen,cM _ om]; unfold aQ; omega)
  have ac:=t2.cells
  have g9:h9.get h4.next=some (.cells [.int .i64 (((vs T).length:Nat):Int),ev] 2 false):=by rw[t3.gt _ om,y7 _ om]; exact k1
  have w9:bD h9 h4.next 1 [a']=some (h9.put h4.next (.cells [.int .i64 (((vs T).length:Nat):Int),a'] 2 false)):=dN (v:=a') g9 (show 1<2 by omega)
  have u9:=NW (o:=.cells [.int .i64 (((vs T).length:Nat):Int),a'] 2 false) g9
  refine nS (by simp only[am,aC,simprocAttr,e0,e8,e11,e12,rE,a1,r10,r11,ix,iy,aD,rx,ry,eP,eV q7,t1,ac.1,ac.2,w9]<;>rfl) ?_
  refine⟨a',⟨u9.get,?_,?_,?_,?_,by rw[u9.nx]; omega⟩,_,(M2 e12 w12),H5 e0 e7 e8 e9 e11⟩
  ·rw[htk,cI]
   exact t2.upd u9 om
  ·rw[u9.ne om,t3.gt _ om,y7 _ om]; exact k3
  ·rw[u9.ne om,t3.gt _ om,y7 _ om]; exact k4
  ·exact ((k5.trans (x7.mono (by have:=k5.nx; omega))).trans (t3.mono om)).trans (u9.ext om)
 clear e0 e1 e2 e7 e8 e9 e10
 rintro ev ts h6 ⟨k1,k2,k3,k4,k5,k6⟩ ⟨e0,e7,e8,e9,e11,e12,-⟩
 simp only at e0 e7 e8 e9 e11
 have sE:SlE h6 ev (rkE T):=by
  rw[← rkE_len T,bO] at k2
  exact NT om (λ_=>rfl) k2
 have rG:aj h6 h4.next 0 2=some [.int .i64 (((vs T).length:Nat):Int),ev]:=by rw[aP k1]; rfl
 have hP:=oZ (n:=(vs T).length) (o:=dG T a b) sE hE (by rw[rkE_len]; omega) om k4
 unfold gW at hP
 refine ah (bF (bg 2 (M3 e9 e11 rG) rfl (Z3 e9 e11 rG) (M3 e9 e11 rG) (hP) λr h7 hq=>?_))
 obtain⟨x7,i7⟩:=hq
 refine bp (M0) ?_
 have X7:Ext h.next h h7:=k5.trans (x7.mono k5.nx)
 refine ah (ak (M0) ?_)
 refine ah (ah (ak (M0) ?_))
 have i7':SlI h7 r ((List.range (vs T).length).map (cU (vs T).length (rkE T) (dG T a b))):=NT om (λ_=>rfl) i7
 refine er (α:=Unit) (N:=(vs T).length) (λk _=>[(7,lv),(13,r),(14,.int .i64 (((List.range k).countP (λi=>decide (cU (vs T).length (rkE T) (dG T a b) i=((i:Nat):Int))):Nat):Int)),(15,.int .i64 (k:Nat))])
  (λk _ h'=>h'=h7) () (by simp only[hl,am,aC,simprocAttr,e7,List.range_zero,jh,aW]) rfl ?_ ?_ ?_
 ·clear e0 e7 e8 e9 e11
  rintro k _ ts h8 hk rfl ⟨e7,e13,e14,e15,-⟩
  simp only at e7 e13 e14 e15
  exact⟨_,(M4 e7 e15 l1 @bw),Z0,H4 e7 e13 e14 e15⟩
 ·clear e0 e7 e8 e9 e11
  rintro k _ ts h8 hk rfl ⟨e7,e13,e14,e15,-⟩
  simp only at e7 e13 e14 e15
  have w15:=dF (k:=k) om
  have hcl:(List.range k).countP (λi=>decide (cU (vs T).length (rkE T) (dG T a b) i=((i:Nat):Int)))≤k:=by
   refine bW dQ ?_
   rw[aZ]; exact ae _
  have hcs:(List.range (k+1)).countP (λi=>decide (cU (vs T).length (rkE T) (dG T a b) i=((i:Nat):Int)))=(List.range k).countP (λi=>decide (cU (vs T).length (rkE T) (dG T a b) i=((i:Nat):Int)))+if cU (vs T).length (rkE T) (dG T a b) k=((k:Nat):Int) then 1 else 0:=by
   rw[bT,dW,df,jh,bM]
   simp only[az]
  obtain⟨b1,p1,a1,r1,_⟩:=i7'.at1 (i:=k) (y:=.int .i64 (cU (vs T).length (rkE T) (dG T a b) k)) (by rw[aE,aE,cu hk]; rfl)
  generalize (List.range k).countP (λi=>decide (cU (vs T).length (rkE T) (dG T a b) i=((i:Nat):Int)))=c at *
  have w14:=dF (k:=c) om
  by_cases q:cU (vs T).length (rkE T) (dG T a b) k=((k:Nat):Int)
  ·have c1:decide (cU (vs T).length (rkE T) (dG T a b) k=((k:Nat):Int))=true:=aq q
   rw[if_pos q] at hcs
   refine ah (ak (M5 e13 e15 a1 r1 c1) ?_)
   refine bq (Z0) ?_
   refine ak (M2 e14 w14) ?_
   exact⟨(),rfl,_,(M2 e15 w15),H3 e7 e13 hcs⟩
  ·have c1:decide (cU (vs T).length (rkE T) (dG T a b) k=((k:Nat):Int))=false:=ai q
   rw[if_neg q,ce] at hcs
   refine ah (ak (M5 e13 e15 a1 r1 c1) ?_)
   refine cj (Z0) (be ?_)
   exact⟨(),rfl,_,(M2 e15 w15),H4 e7 e13 e14 hcs⟩
 ·clear e0 e7 e8 e9 e11
  rintro _ ts h8 rfl ⟨e7,e13,e14,e15,-⟩
  simp only at e14
  rw[Da hE _ (ae _)] at e14
  refine ah (ak (M1 e14) ?_)
  exact aV ⟨_,(by simp only[rs,rf39,am,aC,simprocAttr]<;>rfl),rfl,X7⟩
end Go.Proofs.YthbmhbldmcbnpaaGreatDoor
