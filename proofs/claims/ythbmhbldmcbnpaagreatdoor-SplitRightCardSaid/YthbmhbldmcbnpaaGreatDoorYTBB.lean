/- Slices that came in, as they lie in the clean machine's memo -/
import Derived.Test.YthbmhbldmcbnpaaGreatDoorYTAB
import Derived.Test.YthbmhbldmcbnpaaGreatDoorYAmEnd
import Derived.Test.YthbmhbldmcbnpaaGreatDoorYAmR
import Derived.Test.YthbmhbldmcbnpaaGreatDoorRows
import Derived.WalkKit
import Derived.ProofKit
import Derived.OpenShut
import Derived.Deep.SlicePairs
import Derived.Deep.Matrix
set_option linter.all false
namespace Go.Proofs.YthbmhbldmcbnpaaGreatDoor
open Go.Am
open Go.RowKit
theorem vi {α:Type}{f:α→List AV}{h:AH}{e b n:Nat}{xs:List α}{ro:Bool} (hf:∀ x,(f x).length=e) (hg:h.get b=some (.cells (xs.flatMap f) e ro)) (hn:n=xs.length):Sl h e (.sl b 0 n n) (xs.map f):=by
 subst hn
 have hl:=dZ hf xs
 refine .inr ⟨b,0,xs.length,_,ro,by rw[ar],hg,by rw[ar]; exact ae _,by rw[ar,hl]; omega,λi x hx=>?_⟩
 rw[aE] at hx
 obtain⟨y,hy,rfl⟩:=aw.1 hx
 rw[bM]
 exact qI hf xs i y hy
def nE:List Int→List (Int×Int)
 | x::y::r=>(x,y)::nE r
 | _=>[]
theorem su:∀ (n:Nat) (ns:List Int),ns.length=n*2→(nE ns).flatMap eE=ns.map (AV.int .i64)∧(nE ns).length=n
 | 0,[],_=>⟨rfl,rfl⟩
 | n+1,x::y::r,h=>by
   have ih:=su n r (by simp only[aR] at h; omega)
   refine⟨?_,?_⟩
   ·simp only[nE,cX,eE,aS,cK,cV]
    rw[← ih.1]
   ·simp only[nE,aR,ih.2]
 | 0,_::_,h=>by simp at h
 | n+1,[],h=>by simp at h
 | n+1,[x],h=>by simp only[aR,bo] at h; omega
theorem MS {K:Bs}{σ:Sg}{h:AH}{w:World} (r:Rep K σ h w) (hB:K.B=w.heap.size) {k:IntKind}{e:Nat} (he:0<e) {a:Option Addr}{len cap:Nat}{zs:List Int} (hr:IsRowE k e w a len cap zs) (hspot:∀ x,a=some x→x.spot=none) :
 ∃ σ' o v,σ.le σ'∧Rep K σ' (h.new o) w∧VR σ' v (.slice a len cap)∧((v=.nils∧len=0)∨(v=.sl h.next 0 len len∧o=.cells ((zs.take (len*e)).map (AV.int k)) e true∧(zs.take (len*e)).length=len*e)):=by
 rcases hr with ⟨rfl,rfl,rfl,rfl⟩|⟨x,rfl,h1,h2,h3,h4,h5⟩
 ·obtain⟨σ',q1,q2⟩:=r.dummy
  exact⟨σ',_,.nils,q1,q2,by simp [VR],.inl ⟨rfl,rfl⟩⟩
 ·have hsp:=hspot x rfl
  have hadd:∀ j,x.add j=⟨x.block,x.off+j,none⟩:=by
   intro j
   obtain⟨xb,xo,xs⟩:=x
   simp only at hsp
   subst hsp
   exact Addr.add_lit _ _ _
  have hle:len*e≤cap*e:=dX e h1
  have hl:(zs.take (len*e)).length=len*e:=by rw[bz]; omega
  cases zs with
  | nil =>
    simp only[bo] at h3
    have e2:cap=0:=by
     rcases Nat.eq_zero_or_pos cap with q|q
     ·exact q
     ·have:=Nat.mul_pos q he; omega
    have e1:len=0:=om
    subst e1
    subst e2
    refine⟨σ.add h.next ⟨x.block,x.off,e,0,0⟩,.cells [] e true,.sl h.next 0 0 0,Sg.le_add r.fresh,r.came [] e _ rfl (.inl rfl),?_,.inr ⟨rfl,by rw[Dy]; rfl,hl⟩⟩
    simp only[VR]
    exact⟨_,x.off,0,Sg.add_at _ _ _,by obtain⟨xb,xo,xs⟩:=x; simp only at hsp; subst hsp; rfl,.inl trivial,ae _,ae _,.inl rfl⟩
  | cons z zs =>
    have h40:=h4 0 (by simp)
    rw[hadd] at h40
    unfold World.cell? at h40
    simp only at h40
    split at h40
    ·rename_i C t fr hC
     have hall:∀ i,i<(z::zs).length→C[x.off+i]?=some (.int k ((z::zs).getD i 0)):=by
      intro i hi
      have:=h4 i hi
      rw[hadd] at this
      simpa [World.cell?,hC] using this
     have hN:x.off+cap*e≤C.size:=by
      have:=hall (cap*e-1) (by simp at h3 ⊢; omega)
      have hlt:=(bE.1 this).1
      simp at h3
      omega
     have hblk:x.block<w.heap.size:=(bE.1 hC).1
     refine⟨σ.add h.next ⟨x.block,x.off,e,C.size,t⟩,.cells (((z::zs).take (len*e)).map (AV.int k)) e true,.sl h.next 0 len len,Sg.le_add r.fresh,r.came _ e _ rfl (.inr ⟨by rw[hB]; exact hblk,fun τ _=>?_⟩),?_,.inr ⟨rfl,rfl,hl⟩⟩
     ·refine⟨C,t,fr,hC,rfl,rfl,?_,λj y hy=>?_,λq=>by (cases q),rfl⟩
      ·show x.off+_≤C.size
       rw[ar,hl]; omega
      ·have hj:j<len*e:=by
        rcases dl j (len*e) with q|q
        ·exact q
        ·rw[bu (by rw[ar,hl]; exact q)] at hy; cases hy
       rw[aE,cE,if_pos hj] at hy
       refine⟨.int k ((z::zs).getD j 0),hall j om,?_⟩
       rw[aF]
       cases hq:(z::zs)[j]? with
       | none=>rw[hq] at hy; cases hy
       | some u=>rw[hq] at hy; simp only[aG,aa] at hy; subst hy; simp [VR]
     ·simp only[VR]
      refine⟨_,x.off,cap,Sg.add_at _ _ _,by obtain⟨xb,xo,xs⟩:=x; simp only at hsp; subst hsp; rfl,.inr (by simp),h1,ae _,.inr ⟨ae _,?_⟩⟩
      show x.off+cap*e≤C.size
      omega
    ·cases h40
theorem DL {h:AH}{o:AO}:∀ b x,h.get b=some x→(h.new o).get b=some x:=λb x hb=>by
 rw[AH.get_new,if_neg (by have:=AH.lt_of_get hb; omega)]
 exact hb
open Go.Am
open Go.RowKit
theorem Ns {K:Bs}{σ:Sg}{h:AH}{w:World} (r:Rep K σ h w) (hB:K.B=w.heap.size) {e:Nat} (he:0<e) {x:Addr}{len cap:Nat}{vs:List AV}{Y:Nat→Value} (hsp:x.spot=none) (h1:len≤cap) (hl:vs.length=len*e)
 (hc:∀ i,i<cap*e→w.cell? (x.add i)=some (Y i)) (hv:∀ i v,vs[i]?=some v→VR σ v (Y i)) :
 ∃ σ',σ.le σ'∧Rep K σ' (h.new (.cells vs e true)) w∧VR σ' (.sl h.next 0 len len) (.slice (some x) len cap):=by
 have hadd:∀ j,x.add j=⟨x.block,x.off+j,none⟩:=by
  intro j
  obtain⟨xb,xo,xs⟩:=x
  simp only at hsp
  subst hsp
  exact Addr.add_lit _ _ _
 have hx:x=⟨x.block,x.off,none⟩:=by
  obtain⟨xb,xo,xs⟩:=x
  simp only at hsp
  subst hsp
  rfl
 have hle:len*e≤cap*e:=dX e h1
 by_cases hz:cap=0
 ·have hl0:len=0:=om
  subst hz
  subst hl0
  have hvs:vs=[]:=bk.1 om
  subst hvs
  refine⟨σ.add h.next ⟨x.block,x.off,e,0,0⟩,Sg.le_add r.fresh,r.came [] e _ rfl (.inl rfl),?_⟩
  simp only[VR]
  exact⟨_,x.off,0,Sg.add_at _ _ _,by rw[← hx],.inl trivial,ae _,ae _,.inl rfl⟩
 ·have hpos:0<cap*e:=Nat.mul_pos om he
  have h40:=hc 0 hpos
  rw[hadd] at h40
  unfold World.cell? at h40
  simp only at h40
  split at h40
  ·rename_i C t fr hC
   have hall:∀ i,i<cap*e→C[x.off+i]?=some (Y i):=by
    intro i hi
    have:=hc i hi
    rw[hadd] at this
    simpa [World.cell?,hC] using this
   have hN:x.off+cap*e≤C.size:=by
    have hlt:=(bE.1 (hall (cap*e-1) om)).1
    omega
   have hblk:x.block<w.heap.size:=(bE.1 hC).1
   refine⟨σ.add h.next ⟨x.block,x.off,e,C.size,t⟩,Sg.le_add r.fresh,r.came vs e _ rfl (.inr ⟨by rw[hB]; exact hblk,fun τ hτ=>?_⟩),?_⟩
   ·refine⟨C,t,fr,hC,rfl,rfl,?_,λj y hy=>?_,λq=>(by cases q),rfl⟩
    ·show x.off+_≤C.size
     omega
    ·have hj:=(aB.1 hy).1
     exact⟨Y j,hall j om,VR.mono hτ _ _ (hv j y hy)⟩
   ·simp only[VR]
    refine⟨_,x.off,cap,Sg.add_at _ _ _,by rw[← hx],.inr (by simp),h1,ae _,.inr ⟨ae _,?_⟩⟩
    show x.off+cap*e≤C.size
    omega
  ·cases h40
theorem IV {K:Bs}{σ:Sg}{h:AH}{w:World} (r:Rep K σ h w) {e:Nat}{x:Addr}{len cap:Nat} (hsp:x.spot=none) (h1:len≤cap) :
 ∃ σ',σ.le σ'∧Rep K σ' (h.new (.cells [] e true)) w∧VR σ' (.sl h.next 0 len len) (.slice (some x) len cap):=by
 have hx:x=⟨x.block,x.off,none⟩:=by
  obtain⟨xb,xo,xs⟩:=x
  simp only at hsp
  subst hsp
  rfl
 refine⟨σ.add h.next ⟨x.block,x.off,e,x.off+cap*e,0⟩,Sg.le_add r.fresh,r.came [] e _ rfl (.inl rfl),?_⟩
 simp only[VR]
 refine⟨_,x.off,cap,Sg.add_at _ _ _,by rw[← hx],.inr (by simp),h1,ae _,.inr ⟨ae _,?_⟩⟩
 show x.off+cap*e≤x.off+cap*e
 omega
theorem rowEB {K:Bs}{σ:Sg}{h:AH}{w:World} (r:Rep K σ h w) (hB:K.B=w.heap.size) {k:IntKind}{e:Nat} (he:0<e) {a:Option Addr}{len cap:Nat}{zs:List Int} (hr:IsRowE k e w a len cap zs) :
 ∃ σ' o v,σ.le σ'∧Rep K σ' (h.new o) w∧VR σ' v (.slice a len cap)∧(((v=.nils∨v=.emp)∧len=0)∨(v=.sl h.next 0 len len∧o=.cells ((zs.take (len*e)).map (AV.int k)) e true∧(zs.take (len*e)).length=len*e)):=by
 by_cases hz:cap=0
 ·have hl0:len=0:=by
   rcases hr with ⟨_,q,_⟩|⟨x,_,q,_⟩<;>omega
  subst hz
  subst hl0
  obtain⟨σ',q1,q2⟩:=r.dummy
  cases a with
  | none=>exact⟨σ',_,.nils,q1,q2,by simp [VR],.inl ⟨.inl rfl,rfl⟩⟩
  | some x=>exact⟨σ',_,.emp,q1,q2,by simp [VR],.inl ⟨.inr rfl,rfl⟩⟩
 ·have hsp:∀ x,a=some x→x.spot=none:=λx hx=>by
   rcases hr with ⟨q,_⟩|⟨y,q,h1,h2,h3,h4,h5⟩
   ·rw[q] at hx; cases hx
   ·rw[q] at hx
    obtain rfl:=Option.some.inj hx
    have hpos:0<cap*e:=Nat.mul_pos om he
    have:=h4 0 om
    have e0:y.add 0=y:=rfl
    rw[e0] at this
    unfold World.cell? at this
    split at this
    ·split at this
     ·cases this
     ·rename_i hs
      cases hq:y.spot with
      | none=>rfl
      | some s=>rw[hq] at hs; simp at hs
    ·cases this
  obtain⟨σ',o,v,q1,q2,q3,q4⟩:=MS r hB he hr hsp
  refine⟨σ',o,v,q1,q2,q3,?_⟩
  rcases q4 with ⟨q,q'⟩|q
  ·exact .inl ⟨.inl q,q'⟩
  ·exact .inr q
structure ERow where
 a:Option Addr
 len:Nat
 cap:Nat
 zs:List Int
def ERow.ok (r:ERow) (w:World) (e:Nat):Prop:=IsRowE .i64 e w r.a r.len r.cap r.zs
def ERow.at (r:ERow) (h:AH) (e:Nat) (v:AV):Prop:=((v=.nils∨v=.emp)∧r.len=0)∨∃ b,v=.sl b 0 r.len r.len∧h.get b=some (.cells ((r.zs.take (r.len*e)).map (AV.int .i64)) e true)∧(r.zs.take (r.len*e)).length=r.len*e
theorem wX {K:Bs}{w:World}{e:Nat} (he:0<e) (hB:K.B=w.heap.size):∀ (n:Nat) (rows:List ERow) {σ:Sg}{h:AH},Rep K σ h w→rows.length≤n→(∀ r∈rows,r.ok w e) →
 ∃ (σ':Sg) (os:List AO) (vs:List AV),os.length=n∧vs.length=rows.length∧σ.le σ'∧Rep K σ' (news os h) w∧∀ (i:Nat) (v:AV) (r:ERow),vs[i]?=some v→rows[i]?=some r→VR σ' v (.slice r.a r.len r.cap)∧r.at (news os h) e v
 | 0,[],σ,h,r,_,_=>⟨σ,[],[],rfl,rfl,Sg.le_refl σ,r,λi v r hv=>by simp at hv⟩
 | 0,_::_,_,_,_,hl,_=>by simp at hl
 | n+1,[],σ,h,r,_,_=>by
   obtain⟨σ1,q1,q2⟩:=r.dummy
   obtain⟨σ2,os,vs,a1,a2,a3,a4,a5⟩:=wX he hB n [] q2 (ff _) (λr hr=>by cases hr)
   exact⟨σ2,.cells [] 1 true::os,vs,by simp [a1],a2,Sg.le_trans q1 a3,a4,λi v r hv hr=>by simp at hr⟩
 | n+1,row::rows,σ,h,r,hl,hok=>by
   have k1:=hok row (by simp)
   obtain⟨σ1,o,v,q1,q2,q3,q4⟩:=rowEB r hB he k1
   obtain⟨σ2,os,vs,a1,a2,a3,a4,a5⟩:=wX he hB n rows q2 (by simp at hl; omega) (λr hr=>hok r (by simp [hr]))
   refine⟨σ2,o::os,v::vs,by simp [a1],by simp [a2],Sg.le_trans q1 a3,a4,λi x row' hx hr=>?_⟩
   cases i with
   | zero =>
     simp only[bh,aa] at hx hr
     subst hx hr
     refine⟨VR.mono a3 _ _ q3,?_⟩
     rcases q4 with q4|⟨q4,q5,q6⟩
     ·exact .inl q4
     ·refine .inr ⟨_,q4,?_,q6⟩
      rw[news,xB os _ _ (by simp),AH.get_new,if_pos rfl,q5]
   | succ i =>
     simp only[dy] at hx hr
     exact a5 i x row' hx hr
open Go.ChangeShapes Go.WideShapes Go.ChangeAt Go.RowKit
open Go.Am (IsRowE)
set_option maxRecDepth 100000
theorem JL:Tryz.prog.cellsOf 24=2:=by kernel_rfl
theorem sL:Tryz.prog.cellsOf 3=1:=by kernel_rfl
theorem JM:Tryz.prog.cellsOf 22=1:=by kernel_rfl
theorem JH:Tryz.prog.cellsOf 58=2:=by kernel_rfl
theorem JJ:Tryz.prog.cellsOf 42=2:=by kernel_rfl
theorem JK:Tryz.prog.cellsOf 40=1:=by kernel_rfl
theorem JI:Tryz.prog.cellsOf 56=4:=by kernel_rfl
theorem Hb:Tryz.prog.cellTypes Tryz.prog.depth 24=some [3,22]:=by kernel_rfl
def uy:Value→Int
 | .int _ n=>n
 | _=>0
theorem GE (a:Addr) (i j:Nat):(a.add i).add j=a.add (i+j):=Deep.add_add a i j
theorem He {H:Type}{enc:TypeId×Value→H}{W:World}{fuel:Nat}{c:Value}{x:DataW H×List MemPlace} (h:DataW.trod enc Tryz.prog W 0 (λ_=>true) true fuel 40 [c]=some x) :
 ∃ a len cap zs,c=.slice a len cap∧IsRowE .i64 4 W a len cap zs:=by
 rcases Deep.open_slice Tryz.underlying40 h with ⟨e1,_⟩|⟨a,len,cap,m,n,D,Pl,e1,_,hle,hcap,hm,_,hx⟩
 ·simp only[cF,and_true] at e1
  exact⟨none,0,0,[],e1,.inl ⟨rfl,rfl,rfl,rfl⟩⟩
 ·simp only[cF,and_true] at e1
  simp only[if_true] at hm
  subst hm
  rw[JI] at hx
  have each:∀ j,j<m*4→∃ z,W.cell? (a.add j)=some (.int .i64 z)∧(Lit.int .i64 z).wf=true:=by
   intro j hj
   obtain⟨cs',h1,h2⟩:=hx (j / 4) om
   obtain⟨_,hlen,hcell⟩:=World.cells?_some h1
   obtain⟨xs,k,hk,hxy,_,hxl,hf⟩:=DataW.trod_struct Tryz.underlying56 h2
   have ej:=hcell (j % 4) om
   rw[GE,show j / 4*4+j % 4=j by omega] at ej
   match xs,hxl,cs',hlen with
   | [y0,y1,y2,y3],_,[v0,v1,v2,v3],_ =>
     have g0:=hf 0 _ rfl
     have g1:=hf 1 _ rfl
     have g2:=hf 2 _ rfl
     have g3:=hf 3 _ rfl
     simp [sL] at g0 g1 g2 g3
     obtain⟨n0,e0,_,w0⟩:=DataW.trod_int Tryz.underlying3 g0
     obtain⟨n1,e1,_,w1⟩:=DataW.trod_int Tryz.underlying3 g1
     obtain⟨n2,e2,_,w2⟩:=DataW.trod_int Tryz.underlying3 g2
     obtain⟨n3,e3,_,w3⟩:=DataW.trod_int Tryz.underlying3 g3
     simp only[cF,and_true] at e0 e1 e2 e3
     subst e0 e1 e2 e3
     have hj4:j % 4=0∨j % 4=1∨j % 4=2∨j % 4=3:=om
     rcases hj4 with q|q|q|q<;>rw[q] at ej
     ·exact⟨_,ej,w0⟩
     ·exact⟨_,ej,w1⟩
     ·exact⟨_,ej,w2⟩
     ·exact⟨_,ej,w3⟩
  obtain⟨Z,hZ⟩:=Deep.choose_lt each
  refine⟨some a,len,m,(List.range (m*4)).map Z,e1,.inr ⟨a,rfl,hle,hcap,by simp,λi hi=>?_,λz hz=>?_⟩⟩
  ·have hi':i<m*4:=by simpa using hi
   rw[(hZ i hi').1,aF,aE,cu hi']
   rfl
  ·obtain⟨j,hj,rfl⟩:=bi.1 hz
   exact (hZ j (aL.1 hj)).2
instance :Inhabited ERow:=⟨⟨none,0,0,[]⟩⟩
structure SkIn (w:World) (a:Option Addr) (len cap:Nat) (ks:List (Int×ERow)):Prop where
 spot:∀ x,a=some x→x.spot=none
 none_:a=none→len=0∧cap=0
 le:len≤cap
 length:ks.length=cap
 cells:∀ x,a=some x→∀ (i:Nat) (p:Int×ERow),ks[i]?=some p→w.cell? (x.add (i*2))=some (.int .i64 p.1)∧w.cell? (x.add (i*2+1))=some (.slice p.2.a p.2.len p.2.cap)
 ok:∀ p∈ks,p.2.ok w 4
theorem Ea {H:Type}{enc:TypeId×Value→H}{W:World}{base:Nat}{v:Value}{d:DataW H}{p:List MemPlace} (hval:Value.okWide Tryz.prog W .any base 25 v) (h:DataW.Trod enc Tryz.prog W 0 (λ_=>true) true 25 v d p) :
 ∃ a len cap ks,v=.slice a len cap∧SkIn W a len cap ks:=by
 obtain⟨a0,l0,c0,rfl⟩:=okWide_slice Tryz.underlying25 hval
 obtain⟨fuel,hf⟩:=h
 have hcs:(Value.slice a0 l0 c0).cells=#[.slice a0 l0 c0]:=rfl
 rw[hcs] at hf
 rcases Deep.open_slice Tryz.underlying25 hf with ⟨e1,_⟩|⟨a,len,cap,m,n,D,Pl,e1,_,hle,hcap,hm,_,hx⟩
 ·simp only[cF,and_true] at e1
  cases e1
  exact⟨none,0,0,[],rfl,λx hx=>(by cases hx),λ_=>⟨rfl,rfl⟩,ae _,rfl,λx hx=>(by cases hx),λr hr=>(by cases hr)⟩
 ·simp only[cF,and_true] at e1
  cases e1
  simp only[if_true] at hm
  subst hm
  rw[JJ] at hx
  have hsp:a.spot=none:=by
   simp only[Value.okWide,Tryz.underlying25,Cell.okWide,Cell.ok] at hval
   exact hval.2.2.2.1
  have each:∀ i,i<m→∃ q:Int×ERow,W.cell? (a.add (i*2))=some (.int .i64 q.1)∧W.cell? (a.add (i*2+1))=some (.slice q.2.a q.2.len q.2.cap)∧q.2.ok W 4:=by
   intro i hi
   obtain⟨cs',h1,h2⟩:=hx i hi
   obtain⟨_,hlen,hcell⟩:=World.cells?_some h1
   obtain⟨xs,k,hk,hxy,_,hxl,hf⟩:=DataW.trod_struct Tryz.underlying42 h2
   match xs,hxl,cs',hlen with
   | [y0,y1],_,[v0,v1],_ =>
     have g0:=hf 0 _ rfl
     have g1:=hf 1 _ rfl
     simp [sL,JK] at g0 g1
     have e0:=hcell 0 om
     have e1:=hcell 1 om
     rw[GE] at e0 e1
     obtain⟨n0,q0,_,w0⟩:=DataW.trod_int Tryz.underlying3 g0
     simp only[cF,and_true] at q0
     subst q0
     obtain⟨b,lb,cb,zs,rfl,r1⟩:=He g1
     exact⟨(n0,⟨b,lb,cb,zs⟩),by simpa using e0,by simpa using e1,r1⟩
  obtain⟨q,hq⟩:=Deep.choose_lt each
  refine⟨some a,l0,m,(List.range m).map q,rfl,λy hy=>(by cases hy; exact hsp),λh=>(by cases h),hle,by simp,λy hy i r hr=>?_,λr hr=>?_⟩
  ·cases hy
   rw[aE] at hr
   cases hq':(List.range m)[i]? with
   | none=>rw[hq'] at hr; cases hr
   | some j =>
     rw[hq'] at hr
     have hi:=(aB.1 hq').1
     have hj:j=i:=by
      have:=(aB.1 hq').2
      simpa using this.symm
     subst hj
     simp only[aG,aa] at hr
     subst hr
     have:=hq j (by simpa using hi)
     exact⟨this.1,this.2.1⟩
  ·obtain⟨j,hj,rfl⟩:=bi.1 hr
   exact (hq j (aL.1 hj)).2.2
theorem zn {H:Type}{enc:TypeId×Value→H}{W:World}{base:Nat}{v:Value}{d:DataW H}{p:List MemPlace} (hval:Value.okWide Tryz.prog W .any base 24 v) (h:DataW.Trod enc Tryz.prog W 0 (λ_=>true) true 24 v d p) :
 ∃ n a len cap zs,v=.agg #[.int .i64 n,.slice a len cap]∧IsRowE .i64 2 W a len cap zs∧∀ x,a=some x→x.spot=none:=by
 have hu:=Tryz.underlying24
 simp only[Value.okWide,hu] at hval
 obtain⟨cs,rfl,hsz,ts,hts,_,hok⟩:=hval
 rw[Hb] at hts
 simp only[aa] at hts
 subst hts
 rw[JL] at hsz
 obtain⟨fuel,hf⟩:=h
 obtain⟨xs,m,_,_,hl,hxl,hfs⟩:=DataW.trod_struct hu hf
 have hcs:(Value.agg cs).cells=cs:=rfl
 rw[hcs] at hf hfs hl
 obtain⟨l⟩:=cs
 simp only at hsz hf hfs hl
 match l,hsz with
 | [c0,c1],_ =>
   simp only[fy,aR,bo] at hxl
   match xs,hxl with
   | [x0,x1],_ =>
     have g0:=hfs 0 _ rfl
     have g1:=hfs 1 _ rfl
     simp [sL,JM] at g0 g1
     obtain⟨n,e0,_,_⟩:=DataW.trod_int Tryz.underlying3 g0
     simp only[cF,and_true] at e0
     subst e0
     have hk:=hok 1 c1 rfl
     obtain⟨u,hu1,hk⟩:=hk
     simp at hu1
     subst hu1
     rcases Deep.open_slice_pairs Tryz.underlying22 Tryz.underlying58 JH rfl rfl sL sL g1 with ⟨e1,_⟩|⟨a,len,cap,m',n',V0,V1,D0,D1,P0,P1,e1,_,hle,hcap,hm,_,hcell⟩
     ·simp only[cF,and_true] at e1
      subst e1
      exact⟨n,none,0,0,[],rfl,.inl ⟨rfl,rfl,rfl,rfl⟩,λx hx=>by cases hx⟩
     ·simp only[cF,and_true] at e1
      subst e1
      simp only[if_true] at hm
      subst hm
      have hsp:a.spot=none:=by
       simp only[Cell.okWide,Tryz.underlying22,Cell.ok] at hk
       exact hk.2.2.2.1
      have hV:∀ i,i<m'→(∃ x,V0 i=.int .i64 x∧(Lit.int .i64 x).wf=true)∧∃ x,V1 i=.int .i64 x∧(Lit.int .i64 x).wf=true:=by
       intro i hi
       obtain⟨_,_,q0,q1⟩:=hcell i hi
       obtain⟨x,e,_,hx⟩:=DataW.trod_int Tryz.underlying3 q0
       obtain⟨y,f,_,hy⟩:=DataW.trod_int Tryz.underlying3 q1
       simp only[cF,and_true] at e f
       exact⟨⟨x,e,hx⟩,⟨y,f,hy⟩⟩
      have hZ:∀ j,j<m'*2→W.cell? (a.add j)=some (.int .i64 (if j % 2=0 then uy (V0 (j / 2)) else uy (V1 (j / 2))))∧(Lit.int .i64 (if j % 2=0 then uy (V0 (j / 2)) else uy (V1 (j / 2)))).wf=true:=by
       intro j hj
       have hi:j / 2<m':=om
       obtain⟨⟨x,ex,hx⟩,⟨y,ey,hy⟩⟩:=hV _ hi
       obtain⟨q0,q1,_,_⟩:=hcell _ hi
       rw[ex] at q0
       rw[ey] at q1
       rcases Nat.mod_two_eq_zero_or_one j with hz|hz
       ·have ej:j / 2*2=j:=om
        rw[ej] at q0
        rw[if_pos hz,ex]
        exact⟨q0,hx⟩
       ·have ej:j / 2*2+1=j:=om
        rw[ej] at q1
        rw[if_neg om,ey]
        exact⟨q1,hy⟩
      refine⟨n,some a,len,m',(List.range (m'*2)).map λj=>if j % 2=0 then uy (V0 (j / 2)) else uy (V1 (j / 2)),rfl,.inr ⟨a,rfl,hle,hcap,by simp,λi hi=>?_,λz hz=>?_⟩,λx hx=>by cases hx; exact hsp⟩
      ·have hi':i<m'*2:=by simpa using hi
       rw[(hZ i hi').1,aF,aE,cu hi']
       rfl
      ·obtain⟨j,hj,rfl⟩:=bi.1 hz
       exact (hZ j (aL.1 hj)).2
end Go.Proofs.YthbmhbldmcbnpaaGreatDoor
