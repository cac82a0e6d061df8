/- The legs, one behind another. -/
import Derived.Test.YthbmhbldmcbnpaaGreatDoorYTXA
import Derived.Test.YthbmhbldmcbnpaaGreatDoorYTXB
import Derived.Test.YthbmhbldmcbnpaaGreatDoorYTXC
import Derived.Test.YthbmhbldmcbnpaaGreatDoorYTAW
import Derived.Test.YthbmhbldmcbnpaaGreatDoorYAmRo
import Derived.KernelRfl
import Derived.Test.YthbmhbldmcbnpaaGreatDoorYTBB
import Derived.Test.YthbmhbldmcbnpaaGreatDoorYTAB
import Derived.Test.YthbmhbldmcbnpaaGreatDoorYAmSrt
import Derived.Shelf.Slices.In.SortAlone
import Derived.Deep.QuietTactic
import Derived.BigQuiet
import Derived.Shelf.SlSortCmp.Whole1
set_option linter.all false
namespace Go.Proofs.YthbmhbldmcbnpaaGreatDoor
open Go.Am
theorem Hm:GoodS prg (skS0.load prg) :=
 cH Nm (cy Nl (cH Nk (cH Nj (cy Ni (cH Nh (cH Ng (cy Nf (cH Nd (cH Ib (
 cy Ia (cH HZ (cy HY (cH HX (cy HW (cH HV (cy HU (cH HT (cy HS (cH HQ (
 cy HP (cH HO (cy HN (cH HM (cy HL (cH HK (cy HJ (cH HI (cy HH (cH HG (
 cy HF (cH HE (cy HD (cH HC (cy HB (cH HA (cy Hz (cH Hy (cy Hx (cH Hw (
 cy Hv (cH Hu (cy Ht (cH Hs (cy Hr (cH Hq (cy Hp (cH Ho (cy Hn (vG skEnd)))))))))))))))))))))))))))))))))))))))))))))))))
open Go.Am
open Go.Spl (T4)
def Z64:AH:=AH.zero.put 0 (.cells (tab64.map (AV.int .u8)) 1 true)
theorem Ic:skH0=Z64.keep 73:=by kernel_rfl
theorem yP {f:FuncId}{S0 Z:AH}{m:Nat} (hg:GoodS prg ⟨.call f [] S0,[]⟩) (hZ:Z.next=8) (hS:S0=Z.keep m) {os:List AO} (hl:os.length=m) (hm:0<m) :
 C prg f [] (news os Z) λv h'=>v=.bool true∧8+m≤h'.next∧∀ b o,8≤b→(news os Z).get b=some o→h'.get b=some o:=by
 have he:news os Z=gP (oT os 8) S0:=by
  rw[uc,hl,hS,hZ]
 have hfst:(oT os 8).map (·.1)=List.range' 8 m:=by rw[wF,hl]
 have hmem:∀ b,b∈(oT os 8).map (·.1)↔8≤b∧b<8+m:=λb=>by
  rw[hfst,List.mem_range'_1]
 rw[he]
 refine (C.of_goodS hg (oT os 8) (by rw[hfst]; exact List.nodup_range') (λx hx=>?_)).mono λv h' ⟨e1,e2⟩=>⟨e1,?_,λb o h8 hb=>?_⟩
 ·have:=(hmem x.1).1 (bi.2 ⟨x,hx,rfl⟩)
  rw[hS,AH.keep_get,if_pos ⟨om,om⟩]
 ·have:=(e2 (8+m-1) ((hmem _).2 om)).1
  omega
 ·have hbl:b<8+m:=by
   have:=AH.lt_of_get hb
   rw[iY,hS,AH.keep_next] at this
   omega
  rw[(e2 b ((hmem b).2 ⟨h8,hbl⟩)).2]
  exact hb
theorem C.ro {P:RP}{f:FuncId}{args:List AV}{h:AH}{Q:AV→AH→Prop}{c:Nat}{cs:List AV}{e:Nat} (hC:C P f args h Q) (hc:h.get c=some (.cells cs e true)):C P f args h λv h'=>Q v h'∧h'.get c=some (.cells cs e true):=by
 have:=BS.ro hC hc
 exact BS.mono this λo ⟨⟨v,h',e,q⟩,k⟩=>by
  subst e
  exact⟨v,h',rfl,q,k⟩
theorem mh:∀ (os:List AO) (h:AH) {b:Nat},b<h.next→(news os h).get b=h.get b
 | [],_,_,_=>rfl
 | o::r,h,b,hb=>by
   show (news r (h.new o)).get b=_
   rw[mh r (h.new o) (by rw[AH.next_new]; omega),AH.get_new,if_neg om]
theorem Bj {b:Nat}:Z64.get b=if b=0 then some (.cells (tab64.map (AV.int .u8)) 1 true) else none:=by
 unfold Z64
 rw[AH.get_put _ _ _ _ (by decide)]
 by_cases e:b=0
 ·subst e; rfl
 ·rw[if_neg e,if_neg (λq=>e q.symm),AH.get_zero]
theorem SkL.stay {h h':AH}{v:AV}{S:List SK} (hk:∀ b o,h.get b=some o→h'.get b=some o) (hs:SkL h v S):SkL h' v S:=by
 obtain⟨ws,a,b,c⟩:=hs
 exact⟨ws,a,Sl.stay hk b,λi p w q1 q2=>Sl.stay hk (c i p w q1 q2)⟩
set_option maxHeartbeats 1000000 in
theorem Bz {os:List AO}{n:Int}{ev v:AV}{E:List (Int×Int)}{S:List SK}{L:Nat} (hos:os.length=72) (he:SlE (news os Z64) ev E) (hlv:gD v=some (.int .i64 (L:Nat))) (hs:L≤70→SkL (news os Z64) v S) (hvs:v.same v=true) :
 C prg 3 [.agg [.int .i64 n,ev],v] (news os Z64) λv _=>v=.bool true:=by
 obtain⟨ec,eo⟩:=he.cells
 have hnx:(news os Z64).next=80:=by rw[ud,hos]; rfl
 refine NX pf3 ?_
 refine ah (ak (Mi0) ?_)
 have hsp:=yP (f:=4) Hm rfl Ic (os:=os++[.cells [.int .i64 n,ev] 2 false]) (by rw[aN,hos]; rfl) (by decide)
 have ht0:(news (os++[.cells [.int .i64 n,ev] 2 false]) Z64).get 0=some (.cells (tab64.map (AV.int .u8)) 1 true):=by
  rw[mh _ _ (by decide),Bj,if_pos rfl]
 have hsp:=C.ro hsp ht0
 have hlow:∀ b o,b<8→(news os Z64).get b=some o→b=0∧o=.cells (tab64.map (AV.int .u8)) 1 true:=λb o hb hg=>by
  rw[mh _ _ (show b<Z64.next from hb),Bj] at hg
  split at hg
  ·rename_i e; cases hg; exact⟨e,rfl⟩
  ·cases hg
 rw[← Fg] at hsp
 have ga:∀ c,((news os Z64).new (.cells [.int .i64 n,ev] 2 false)).get c=if c=(news os Z64).next then some (.cells [.int .i64 n,ev] 2 false) else (news os Z64).get c:=λc=>by
  rw[AH.get_new]
 have hk0:∀ b o,(news os Z64).get b=some o→((news os Z64).new (.cells [.int .i64 n,ev] 2 false)).get b=some o:=λb o hb=>by
  have:=AH.lt_of_get hb
  rw[ga,if_neg om]
  exact hb
 generalize ((news os Z64).new (.cells [.int .i64 n,ev] 2 false))=h1 at *
 have gG:h1.get (news os Z64).next=some (.cells [.int .i64 n,ev] 2 false):=by rw[ga,if_pos rfl]
 generalize (news os Z64).next=nx at *
 subst hnx
 refine ah (ah (bF (mU (Z0) (M0) (hsp) λr h2 hq=>?_)))
 obtain⟨⟨rfl,hn2,hk2⟩,ht2⟩:=hq
 refine bp (M0) ?_
 refine cj (Z0) (be ?_)
 have hst:∀ b o,(news os Z64).get b=some o→h2.get b=some o:=λb o hb=>by
  by_cases h8:8≤b
  ·exact hk2 b o h8 (hk0 b o hb)
  ·obtain⟨rfl,rfl⟩:=hlow b o om hb
   exact ht2
 have he2:SlE h2 ev E:=Sl.stay hst he
 have hs2:L≤70→SkL h2 v S:=λq=>SkL.stay hst (hs q)
 have gG2:=hk2 _ _ om gG
 have g10:=AH.lt_of_get gG2
 have rG:aj h2 80 0 2=some [.int .i64 n,ev]:=by rw[aP gG2]; rfl
 clear hk0 ga hst he hs hsp ht0 hlow gG hk2
 refine ah (ah (bF (bg 1 (Mi1 rG) rfl (Zi1 rG) (Mi1 rG) (zB (n:=n) he2) λr h3 hq=>?_)))
 obtain⟨b,rfl,hbE,x3⟩:=hq
 have g3:h3.get 80=some (.cells [.int .i64 n,ev] 2 false):=by rw[x3.gt _ g10]; exact gG2
 cases b with
 | true =>
   refine ee 2 (Mi0) rfl (Z0) ?_
   refine bp (M0) ?_
   refine bq (Z0) (ah (ak (M0) ?_))
   exact aV ⟨_,(by simp only[rs,rf3,am,aC,simprocAttr]<;>rfl),rfl⟩
 | false =>
 have hE30:=hbE rfl
 have hs3:L≤70→SkL h3 v S:=λq=>(hs2 q).ext x3 (ae _)
 refine bg 2 (Mi0) rfl (Zi0) (Mi0) (Ct hlv hs3) λr h4 hq=>?_
 obtain⟨b,rfl,hbS,x4⟩:=hq
 have g34:=AH.lt_of_get g3
 have g4:h4.get 80=some (.cells [.int .i64 n,ev] 2 false):=by rw[x4.gt _ g34]; exact g3
 refine bp (M0) ?_
 cases b with
 | true =>
   refine bq (Z0) (ah (ak (M0) ?_))
   exact aV ⟨_,(by simp only[rs,rf3,am,aC,simprocAttr]<;>rfl),rfl⟩
 | false =>
 refine cj (Z0) (be ?_)
 obtain⟨hL70,hT⟩:=hbS rfl
 have hs4:SkL h4 v S:=(hs3 hL70).ext x4 (ae _)
 have hSL:S.length≤70:=by
  have:=hs4.len
  rw[hlv] at this
  simp only[aa,AV.int.injEq,true_and] at this
  omega
 have x24:Ext h2.next h2 h4:=x3.trans (x4.mono x3.nx)
 have he4:SlE h4 ev E:=he2.ext x24 (ae _)
 have ht4:Tab h4:=by
  have:=AH.lt_of_get ht2
  unfold Tab
  rw[x24.gt _ this]
  exact ht2
 have g44:=AH.lt_of_get g4
 have rG4:aj h4 80 0 2=some [.int .i64 n,ev]:=by rw[aP g4]; rfl
 have hself:=EE (n:=n) (Sl.selfV he4)
 refine ah (bF (kU 4 (Mi1 rG4) rfl (Zi1 rG4) (Mi1 rG4) (CC hs4 hSL hT) λr h5 hq=>?_))
 obtain⟨s5,x5,rc⟩:=hq
 have g5:h5.get 80=some (.cells [.int .i64 n,ev] 2 false):=by rw[x5.gt _ g44]; exact g4
 have g55:=AH.lt_of_get g5
 have rG5:aj h5 80 0 2=some [.int .i64 n,ev]:=by rw[aP g5]; rfl
 refine⟨Zi2 rG5 hself,?_⟩
 have he5:=he4.ext x5 (ae _)
 have ht5:Tab h5:=ht4.ext x5 om
 have hn5:=x5.nx
 refine kU 0 (M0) rfl (Z0) (M0) (yQ (n:=n) he5 s5 ht5 om om hSL hT) λr6 h6 hq=>?_
 obtain⟨b1,rfl,hb1,x6⟩:=hq
 have g6:h6.get 80=some (.cells [.int .i64 n,ev] 2 false):=by rw[x6.gt _ g55]; exact g5
 have rG6:aj h6 80 0 2=some [.int .i64 n,ev]:=by rw[aP g6]; rfl
 refine⟨Zi2 rG6 hself,?_⟩
 have hs6:=(hs4.ext x5 (ae _)).ext x6 (ae _)
 refine mU (Zi0) (Mi0) (xj (n:=n) (he5.ext x6 (ae _)) hs6 om hSL hT) λr7 h7 hq=>?_
 obtain⟨b2,rfl,hb2,x7⟩:=hq
 have hbb:b1=b2:=by
  have h1:=hb1.trans (Cg hE30)
  rw[cW]
  exact h1.trans hb2.symm
 subst hbb
 refine bp (M0) ?_
 refine aV ⟨.bool (b1==b1),(by simp only[rs,rf3,am,aC,simprocAttr]<;>rfl),by simp⟩
open Go.Am
open Go.RowKit
open Go.Spl (T4)
def nB:List Int→List T4
 | x::y::z::u::r=>(x,y,z,u)::nB r
 | _=>[]
theorem sr:∀ (n:Nat) (ns:List Int),ns.length=n*4→(nB ns).flatMap eT4=ns.map (AV.int .i64)∧(nB ns).length=n
 | 0,[],_=>⟨rfl,rfl⟩
 | n+1,x::y::z::u::r,h=>by
   have ih:=sr n r (by simp only[aR] at h; omega)
   refine⟨?_,?_⟩
   ·simp only[nB,cX,eT4,aS,cK,cV]
    rw[← ih.1]
   ·simp only[nB,aR,ih.2]
 | 0,_::_,h=>by simp at h
 | n+1,[],h=>by simp at h
 | n+1,[x],h=>by simp only[aR,bo] at h; omega
 | n+1,[x,y],h=>by simp only[aR,bo] at h; omega
 | n+1,[x,y,z],h=>by simp only[aR,bo] at h; omega
theorem xX {α:Type}{f:α→List AV} (hf:∀ x,(f x).length=2):∀ (xs:List α) (i:Nat) (v:AV),(xs.flatMap f)[i]?=some v→∃ x,xs[i / 2]?=some x∧(f x)[i % 2]?=some v
 | [],i,v,h=>by simp at h
 | y::r,i,v,h=>by
   rw[cX] at h
   by_cases hi:i<2
   ·rw[bf (by rw[hf]; exact hi)] at h
    refine⟨y,?_,?_⟩
    ·rw[show i / 2=0 by omega]; rfl
    ·rw[show i % 2=i by omega]; exact h
   ·rw[aY (by rw[hf]; omega),hf] at h
    obtain⟨x,h1,h2⟩:=xX hf r (i-2) v h
    refine⟨x,?_,?_⟩
    ·rw[show i / 2=(i-2) / 2+1 by omega,dy]; exact h1
    ·rw[show i % 2=(i-2) % 2 by omega]; exact h2
def tI (p:Int×ERow):SK:=(p.1,nB (p.2.zs.take (p.2.len*4)))
def eSk (q:(Int×ERow)×AV):List AV:=[.int .i64 q.1.1,q.2]
theorem Hl {w:World}{a:Option Addr}{len cap:Nat}{ks:List (Int×ERow)} (hc:SkIn w a len cap ks) {K:Bs}{σ:Sg}{h:AH} (r:Rep K σ h w) (hB:K.B=w.heap.size) :
 ∃ (σ':Sg) (os:List AO) (oc:AO) (cv:AV),os.length=70∧σ.le σ'∧Rep K σ' ((news os h).new oc) w∧VR σ' cv (.slice a len cap)∧gD cv=some (.int .i64 (len:Nat))∧cv.same cv=true ∧
   (len≤70→SkL ((news os h).new oc) cv ((ks.take len).map tI)):=by
 cases a with
 | none =>
   obtain⟨rfl,rfl⟩:=hc.none_ rfl
   obtain⟨σ1,os,vs,a1,a2,a3,a4,a5⟩:=wX (e:=4) (by decide) hB 70 [] r (ff _) (λr hr=>by cases hr)
   obtain⟨σ2,b1,b2⟩:=a4.dummy
   exact⟨σ2,os,_,.nils,a1,Sg.le_trans a3 b1,b2,by simp [VR],rfl,rfl,λ_=>⟨[],by simp,.inl ⟨by simp,.inl rfl⟩,λi p w h1=>by simp at h1⟩⟩
 | some x =>
   have hsp:=hc.spot x rfl
   by_cases hl:len≤70
   ·have hle:=hc.le
    have hlen:=hc.length
    have htl:(ks.take len).length=len:=by rw[bz]; omega
    obtain⟨σ1,os,vs,a1,a2,a3,a4,a5⟩:=wX (e:=4) (by decide) hB 70 ((ks.take len).map (·.2)) r (by rw[ar]; omega) (λr hr=>by
     obtain⟨p,hp,rfl⟩:=bi.1 hr
     exact hc.ok p (List.mem_of_mem_take hp))
    rw[ar] at a2
    have hcell:∀ i,i<cap*2→w.cell? (x.add i)=some (match ks[i / 2]? with|some p=>if i % 2=0 then .int .i64 p.1 else .slice p.2.a p.2.len p.2.cap|none=>.bool true):=by
     intro i hi
     have hk:ks[i / 2]?=some ks[i / 2]:=au om
     obtain⟨k1,k2⟩:=hc.cells x rfl _ _ hk
     rw[hk]
     simp only
     split
     ·rename_i q
      rw[show i / 2*2=i by omega] at k1
      exact k1
     ·rename_i q
      rw[show i / 2*2+1=i by omega] at k2
      exact k2
    obtain⟨σ2,b1,b2,b3⟩:=Ns a4 hB (e:=2) (by decide) (vs:=((ks.take len).zip vs).flatMap eSk) (len:=len) hsp hle (by rw[dZ (f:=eSk) (e:=2) (λ_=>rfl),List.length_zip]; congr 1; omega) hcell (λi v hv=>by
     obtain⟨q,h1,h2⟩:=xX (f:=eSk) (λ_=>rfl) _ _ _ hv
     rw[List.getElem?_zip_eq_some] at h1
     obtain⟨h3,h4⟩:=h1
     have hil:=(aB.1 h3).1
     have h5:ks[i / 2]?=some q.1:=by
      rw[← h3,cE,if_pos om]
     rw[h5]
     have hm2:i % 2=0∨i % 2=1:=om
     rcases hm2 with e|e
     ·rw[e] at h2
      simp only[eSk,bh,aa] at h2
      subst h2
      simp [e,VR]
     ·rw[e] at h2
      simp only[eSk,dy,bh,aa] at h2
      subst h2
      have:=(a5 (i / 2) q.2 q.1.2 h4 (by rw[aE,h3]; rfl)).1
      simpa [e] using this)
    refine⟨σ2,os,_,_,a1,Sg.le_trans a3 b1,b2,b3,rfl,by simp [AV.same],λ_=>⟨vs,by rw[ar]; omega,?_,λi p w hp hw=>?_⟩⟩
    ·have e:List.zipWith (λ(p:SK) (w:AV)=>([.int .i64 p.1,w]:List AV)) ((ks.take len).map tI) vs=((ks.take len).zip vs).map eSk:=by
      rw[List.zipWith_map_left,List.zip,List.map_zipWith]
      rfl
     rw[e]
     exact vi (f:=eSk) (ro:=true) (λ_=>rfl) (by rw[AH.get_new,if_pos rfl]) (by rw[List.length_zip]; omega)
    ·rw[aE] at hp
     obtain⟨k,hk,rfl⟩:=aw.1 hp
     rcases (a5 i w k.2 hw (by rw[aE,hk]; rfl)).2 with ⟨h1,h2⟩|⟨b,h1,h2,h3⟩
     ·exact .inl ⟨by simp [tI,h2,nB],h1⟩
     ·obtain⟨f1,f2⟩:=sr k.2.len _ h3
      subst h1
      refine vi (f:=eT4) (ro:=true) (λ_=>rfl) ?_ (by simp only[tI]; exact f2.symm)
      simp only[tI]
      rw[AH.get_new,if_neg (by have:=AH.lt_of_get h2; omega),f1]
      exact h2
   ·obtain⟨σ1,os,vs,a1,a2,a3,a4,a5⟩:=wX (e:=4) (by decide) hB 70 [] r (ff _) (λr hr=>by cases hr)
    obtain⟨σ2,b1,b2,b3⟩:=IV a4 (e:=2) (len:=len) hsp hc.le
    exact⟨σ2,os,_,_,a1,Sg.le_trans a3 b1,b2,b3,rfl,by simp [AV.same],λq=>absurd q hl⟩
theorem JO {w:World}{P:Program} (hT:∀ i,i<tab64.length→w.cell? ⟨0,i,none⟩=some (.int .u8 (tab64.getD i 0))) {a0 a1:Option Addr}{l0 c0 l1 c1:Nat}{z0:List Int}{ks:List (Int×ERow)} (w0:IsRowE .i64 2 w a0 l0 c0 z0) (s0:∀ x,a0=some x→x.spot=none) (w1:SkIn w a1 l1 c1 ks) :
 ∃ (σ:Sg) (os:List AO) (v0 v1:AV),os.length=72∧GL σ∧Rep ⟨w.heap.size,w,P,[]⟩ σ (news os Z64) w∧VR σ v0 (.slice a0 l0 c0)∧VR σ v1 (.slice a1 l1 c1) ∧
   SlE (news os Z64) v0 (nE (z0.take (l0*2)))∧gD v1=some (.int .i64 (l1:Nat))∧v1.same v1=true∧(l1≤70→SkL (news os Z64) v1 ((ks.take l1).map tI)):=by
 obtain⟨σ0,st⟩:=(St0.zero P w).layX (g:=0) (by decide) (by decide) hT
 obtain⟨σ1,os1,oc,v1,q1,q2,q3,q4,q5,q6,q7⟩:=Hl (h:=Z64) w1 st.rep rfl
 obtain⟨σ2,o0,v0,r1,r2,r3,r4⟩:=MS q3 rfl (by decide) w0 s0
 have e:((news os1 Z64).new oc).new o0=news (os1++[oc,o0]) Z64:=by
  rw[← Ff]
 rw[e] at r2
 refine⟨σ2,os1++[oc,o0],v0,v1,by simp [q1],(st.gl.mono q2).mono r1,r2,r3,VR.mono r1 _ _ q4,?_,q5,q6,λhl=>?_⟩
 ·rw[← e]
  rcases r4 with ⟨h1,h2⟩|⟨h1,h2,h3⟩
  ·subst h1 h2
   exact .inl ⟨by simp [nE],.inl rfl⟩
  ·subst h1 h2
   obtain⟨f1,f2⟩:=su l0 _ h3
   refine vi (f:=eE) (ro:=true) (λ_=>rfl) ?_ f2.symm
   rw[AH.get_new,if_pos rfl,f1]
 ·rw[← e]
  exact SkL.stay DL (q7 hl)
open Go.Am Go.Shelf
def sren:Ren:=⟨λx=>match x with|189=>58|125=>79|257=>81|128=>94|129=>95|294=>96|295=>97|296=>98|297=>99|298=>100|299=>101|216=>82|300=>102|301=>103|328=>111|329=>107|330=>108|331=>112|332=>113|215=>104|343=>115|n=>n,λx=>match x with|28=>52|46=>126|51=>141|53=>67|183=>135|182=>134|131=>98|218=>147|222=>151|228=>155|229=>156|n=>n,λn=>n⟩
def sre2:Ren:=⟨λx=>match x with|6=>54|15=>79|14=>78|28=>94|29=>95|20=>86|21=>87|22=>88|23=>89|24=>90|25=>91|26=>92|27=>93|46=>106|47=>107|48=>108|49=>109|50=>110|57=>114|n=>n,λx=>match x with|22=>70|24=>52|25=>108|39=>126|53=>141|55=>67|46=>135|45=>134|50=>98|66=>147|70=>151|76=>155|77=>156|n=>n,λn=>n⟩
theorem brs {f:FuncId}{B:Func} (h1:((Tryz.prog.funcs[f]?.getD Tryz.f54).name== "runtime.NumGoroutine")=false) (h2:Tryz.prog.funcs[f]?=some { B with name:=(Tryz.prog.funcs[f]?.getD Tryz.f54).name}):Bears Tryz.prog f B:=⟨_,h1,h2⟩
theorem slay:Lays.n189 Tryz.prog sren:=by
 constructor<;>first|kernel_rfl|(intro; kernel_rfl)
theorem sla2:SlLaysF.n6 Tryz.prog sre2:=by
 constructor<;>first|kernel_rfl|exact brs (by kernel_rfl) (by kernel_rfl)|(intro; kernel_rfl)
theorem cmp55:GO Tryz.prog 55:=by
 intro W b1 o1 n1 c1 b2 o2 n2 c2 k1 k2 h1 h2 a1 a2 a3 a4
 go_enter Tryz.func55,Tryz.ntmps55
 go_wp2
 go_quiet (fail)
 go_wp2
 go_ret
 exact⟨rfl,_,rfl⟩
theorem ssrt:GF Tryz.prog 58:=λblk off cap zs w hH hb hz=>calls_of_every_depth λD=>AnyS.slices_Sort_int_alone slay D blk off cap zs w hH hb hz
theorem srts:GJ Tryz.prog mks:=by
 have c:∀ {k:Nat}{r:RF},(bB Tryz.prog k).bind cx=some r→∃ rf,bB Tryz.prog k=some rf:=λh=>let ⟨rf,h,_⟩:=jG.1 h; ⟨rf,h⟩
 exact ww.2 ⟨.inl ⟨rfl,Hf ssrt (c cf58)⟩,ww.2 ⟨.inr ⟨55,rfl,Hh sla2 rfl (enters_of Tryz.func55 (by kernel_rfl) rfl) cmp55 (c cf54)⟩,λ_ h=>by cases h⟩⟩
end Go.Proofs.YthbmhbldmcbnpaaGreatDoor
