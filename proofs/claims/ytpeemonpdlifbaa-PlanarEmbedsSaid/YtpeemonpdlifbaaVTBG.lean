/- Five vertices, all joined, can't be laid -/
import Derived.Test.YtpeemonpdlifbaaVTAL
import Derived.Test.YtpeemonpdlifbaaVTBF
import Derived.Test.YtpeemonpdlifbaaVTAF
import Derived.Test.YtpeemonpdlifbaaVTBD
import Derived.Test.YtpeemonpdlifbaaVTAE
import Derived.Test.YtpeemonpdlifbaaVAmR
import Derived.Test.YtpeemonpdlifbaaVTBA
set_option linter.all false
namespace Go.Pla
open Go.Blk
variable {g:Gr}{B:List Nat}{Φ:Type}
theorem xm {p:Nat→Bool} (nd:B.Nodup) (h:par B p=false) {e:Nat} (he:e∈B) (hp:p e=true):∃ k∈B,k≠e∧p k=true:=by
 refine Classical.byContradiction λhno=>?_;rw[par_congr (q:=λj=>(j==e)&&true) (λj hj=>by
  by_cases q:j=e
  ·subst q; simp [hp]
  ·have q':(j==e)=false:=by rw[beq_eq_false_iff_ne]; exact q
   rw[q',fE];cases hpj:p j with
   | false=>rfl
   | true=>exact absurd ⟨j,hj,q,hpj⟩ hno),dp (p:=λ_=>true) nd he] at h
 cases h
theorem Aj:∀ {a b:List Nat},a.Nodup→(∀ x∈a,x∈b)→a.length≤b.length
 | [],_,_,_=>ft _
 | x::a,b,nd,h=>by
   obtain⟨h1,h2⟩:=aZ.1 nd;have hx:=h x (by simp);have:=Aj (b:=b.erase x) h2 λy hy=>(List.mem_erase_of_ne λ(q:y=x)=>h1 (q▸hy)).2 (h y (by simp [hy]));rw[List.length_erase_of_mem hx] at this;have:=sJ hx;rw[aB];omega
theorem zz (p:Pln g B) {X:Nat→Bool} (hX:Even g B X) {e:Nat} (he:e∈B) (hXe:X e=true):3≤B.countP X:=by
 have hne:=p.ne he;have a1:at_ g e (g.tl e)=true:=by unfold at_; simp [Ne.symm hne]
 have a2:at_ g e (g.hd e)=true:=by unfold at_; simp [hne]
 obtain⟨k1,hk1,n1,x1⟩:=xm p.nd (hX (g.tl e)) he (by simp [hXe,a1]);obtain⟨k2,hk2,n2,x2⟩:=xm p.nd (hX (g.hd e)) he (by simp [hXe,a2]);simp only[aQ] at x1 x2;have h12:k1≠k2:=λq=>by
  subst q;refine n1 (p.one k1 hk1 e he (g.tl e) (g.hd e) ?_ (jn_iff.2 (.inl ⟨rfl,rfl⟩)));have:=p.ne hk1;have y1:=((at_inc (p.lt k1 hk1)).1 x1.2).2;have y2:=((at_inc (p.lt k1 hk1)).1 x2.2).2;rw[jn_iff];omega
 have nd3:[e,k1,k2].Nodup:=by simp [Ne.symm n1,Ne.symm n2,h12]
 have hsub:∀ x∈[e,k1,k2],x∈B.filter X:=λx hx=>by
  simp only[aw,bz,or_false] at hx;rw[aY];rcases hx with rfl|rfl|rfl
  ·exact⟨he,hXe⟩
  ·exact⟨hk1,x1.1⟩
  ·exact⟨hk2,x2.1⟩
 rw[mQ];exact Aj nd3 hsub
theorem xu:∀ (L:List Φ),∃ D:List Φ,D.Nodup∧∀ x,x∈D↔x∈L
 | []=>⟨[],Ky,λ_=>Iff.rfl⟩
 | y::L=>by
   obtain⟨D,h1,h2⟩:=xu L;by_cases h:y∈D
   ·exact⟨D,h1,λx=>by
     rw[aw,h2];constructor
     ·exact .inr
     ·rintro (rfl|q)
      ·exact (h2 _).1 h
      ·exact q⟩
   ·exact⟨y::D,aZ.2 ⟨h,h1⟩,λx=>by rw[aw,aw,h2]⟩
theorem qG {α β:Type}{p:α→β→Bool}{L:List β}:∀ {D:List α},(D.map λa=>L.countP (p a)).sum=(L.map λb=>D.countP λa=>p a b).sum
 | []=>by induction L with
   | nil=>rfl
   | cons b L ih=>simpa using ih
 | a::D=>by
   rw[bE,jD,qG (D:=D)];clear qG;induction L with
   | nil=>rfl
   | cons b L ih =>
     simp only[bE,jD,cL] at ih ⊢;omega
theorem DJ {α:Type}{f:α→Nat}{c:Nat}:∀ {L:List α},(∀ a∈L,f a≤c)→(L.map f).sum≤L.length*c
 | [],_=>by simp
 | a::L,h=>by
   rw[bE,jD,aB,da];have:=h a (by simp);have:=DJ (L:=L) λb hb=>h b (by simp [hb]);omega
theorem Fe {α:Type}{f:α→Nat}{c:Nat}:∀ {L:List α},(∀ a∈L,c≤f a)→L.length*c≤(L.map f).sum
 | [],_=>by simp
 | a::L,h=>by
   rw[bE,jD,aB,da];have:=h a (by simp);have:=Fe (L:=L) λb hb=>h b (by simp [hb]);omega
open Classical in
theorem uy {D:List Φ} (nd:D.Nodup) {x:Φ}:D.countP (λa=>decide (x=a))≤1:=by
 induction D with
 | nil=>simp
 | cons y D ih =>
   obtain⟨h1,h2⟩:=aZ.1 nd;rw[cL];by_cases q:x=y
   ·subst q;have:D.countP (λa=>decide (x=a))=0:=by
     rw[List.countP_eq_zero];intro a ha;simp only[aJ];rintro rfl;exact h1 ha
    rw[this]; simp
   ·have:=ih h2;simp [q]; simpa using this
def cod (S:Φ→Bool):List Φ→Nat
 | []=>0
 | a::D=>2*cod S D+if S a then 1 else 0
theorem FY {S:Φ→Bool}:∀ {D:List Φ},cod S D<2 ^ D.length
 | []=>by simp [cod]
 | a::D=>by
   have:=FY (S:=S) (D:=D);rw[cod,aB,Nat.pow_succ];split<;>omega
theorem Be {S S':Φ→Bool}:∀ {D:List Φ},cod S D=cod S' D→∀ a∈D,S a=S' a
 | [],_,a,ha=>by simp at ha
 | b::D,h,a,ha=>by
   rw[cod,cod] at h;have h1:cod S D=cod S' D∧S b=S' b:=by
    cases hb:S b<;>cases hb':S' b<;>simp [hb,hb'] at h ⊢<;>omega
   rcases aw.1 ha with rfl|ha
   ·exact h1.2
   ·exact Be h1.1 a ha
theorem zm {l r:Nat→Φ} (p:Pln g B) (d:Dual g B l r) {k:Nat}{X:Nat→Nat→Bool} (hX:∀ c,c<2 ^ k→Even g B (X c)) (hi:∀ c c',c<2 ^ k→c'<2 ^ k→(∀ e∈B,X c e=X c' e)→c=c') (hc:∀ e∈B,∃ c,c<2 ^ k∧X c e=true) (hB:B≠[]):3*(k+1)≤2*B.length:=by
 classical
 have hlr:∀ e∈B,l e≠r e:=λe he q=>by
  obtain⟨c,h1,h2⟩:=hc e he;obtain⟨S,hS⟩:=d.one _ (hX c h1);have:=hS e he;rw[h2,q] at this;simp at this
 obtain⟨D,nd,hD⟩:=xu (B.flatMap λe=>[l e,r e]);have hDm:∀ x,x∈D↔∃ e∈B,x=l e∨x=r e:=λx=>by rw[hD]; simp
 have h3:∀ x∈D,3≤B.countP λe=>(decide (l e=x) ^^ decide (r e=x)):=λx hx=>by
  obtain⟨e,he,hxe⟩:=(hDm x).1 hx;refine zz p (X:=λe=>(decide (l e=x) ^^ decide (r e=x))) (d.two λa=>decide (a=x)) he ?_;have:=hlr e he;rcases hxe with rfl|rfl
  ·simp [Ne.symm this]
  ·simp [this]
 have hsum:=Fe h3;rw[qG] at hsum;have hup:=DJ (L:=B) (f:=λe=>D.countP λx=>(decide (l e=x) ^^ decide (r e=x))) (c:=2) λe he=>by
  have h1:=uy nd (x:=l e);have h2:=uy nd (x:=r e);have:∀ (D:List Φ),D.countP (λx=>(decide (l e=x) ^^ decide (r e=x)))≤D.countP (λx=>decide (l e=x))+D.countP λx=>decide (r e=x):=by
   intro D;induction D with
   | nil=>simp
   | cons y D ih =>
     rw[cL,cL,cL];generalize decide (l e=y)=u;generalize decide (r e=y)=v;cases u<;>cases v<;>simp<;>omega
  have:=this D;omega
 obtain⟨e0,he0⟩:=oP B hB;obtain⟨x0,D',hDD⟩:∃ x0 D',D=x0::D':=dV λq=>by
  have:=(hDm (l e0)).2 ⟨e0,he0,.inl rfl⟩;rw[q] at this; simp at this
 have hS:∀ c,∃ S:Φ→Bool,c<2 ^ k→S x0=false∧∀ e∈B,X c e=(S (l e) ^^ S (r e)):=λc=>by
  by_cases h:c<2 ^ k
  ·obtain⟨S,hS⟩:=d.one _ (hX c h);refine⟨λa=>S a ^^ S x0,λ_=>⟨by simp,λe he=>?_⟩⟩;rw[hS e he];dsimp only;cases S (l e)<;>cases S (r e)<;>cases S x0<;>rfl
  ·exact⟨λ_=>false,λh'=>absurd h' h⟩
 obtain⟨S,hS⟩:∃ S:Nat→Φ→Bool,∀ c,c<2 ^ k→S c x0=false∧∀ e∈B,X c e=(S c (l e) ^^ S c (r e)):=⟨λc=>Classical.choose (hS c),λc=>Classical.choose_spec (hS c)⟩
 have ndc:((List.range (2 ^ k)).map λc=>cod (S c) D').Nodup:=by
  rw[List.Nodup,dx];refine List.Pairwise.imp_of_mem ?_ (bq (n:=2 ^ k));intro a b ha hb hab he;rw[aE] at ha hb;have heq:=Be he;refine hab (hi a b ha hb λe he=>?_);have hon:∀ x∈D,S a x=S b x:=λx hx=>by
   rw[hDD] at hx;rcases aw.1 hx with rfl|hx
   ·rw[(hS a ha).1,(hS b hb).1]
   ·exact heq x hx
  rw[(hS a ha).2 e he,(hS b hb).2 e he,hon _ ((hDm _).2 ⟨e,he,.inl rfl⟩),hon _ ((hDm _).2 ⟨e,he,.inr rfl⟩)]
 have hle:=nd_lt ndc (n:=2 ^ D'.length) λx hx=>by
  obtain⟨c,_,rfl⟩:=bC.1 hx;exact FY
 rw[ae,bV] at hle;have hkd:k≤D'.length:=(Nat.pow_le_pow_iff_right om).1 hle;have hDl:D.length=D'.length+1:=by rw[hDD]; rfl
 omega
open Go.Blk
def t5 (e:Nat):Nat:=[0,0,0,0,1,1,1,2,2,3].getD e 0
def h5 (e:Nat):Nat:=[1,2,3,4,2,3,4,3,4,4].getD e 0
def x5 (c e:Nat):Bool:=if 4≤e then c.testBit (e-4) else par [4,5,6,7,8,9] λk=>c.testBit (k-4)&&((t5 k==e+1) ^^ (h5 k==e+1))
def chk5:Bool:=(List.range 64).all λc=>(List.range 5).all λv=>!(par (List.range 10) λe=>x5 c e&&((t5 e==v) ^^ (h5 e==v)))
def chkI:Bool:=(List.range 64).all λc=>(List.range 64).all λd=>(c==d)||!((List.range 10).all λe=>x5 c e==x5 d e)
def chkC:Bool:=(List.range 10).all λe=>(List.range 64).any λc=>x5 c e
def chkL:Bool:=(List.range 10).all λe=>decide (t5 e<5∧h5 e<5)
set_option maxRecDepth 100000 in
theorem IJ:chk5=true:=by decide +kernel
set_option maxRecDepth 100000 in
theorem IH:chkI=true:=by decide +kernel
set_option maxRecDepth 100000 in
theorem II:chkC=true:=by decide +kernel
theorem IG:chkL=true:=by decide +kernel
theorem five_no {g:Gr} (p:Pln g (List.range 10)) (ht:∀ e,e<10→g.tl e=t5 e∧g.hd e=h5 e):¬ ∃ (Φ:Type) (l r:Nat→Φ),Dual g (List.range 10) l r:=by
 rintro⟨Φ,l,r,d⟩;have hat:∀ e,e<10→∀ v,at_ g e v=((t5 e==v) ^^ (h5 e==v)):=λe he v=>by unfold at_; rw[(ht e he).1,(ht e he).2]
 have:=zm p d (k:=6) (X:=x5) (λc hc v=>?_) (λc c' hc hc' h=>?_) (λe he=>?_) (by simp)
 ·simp at this
 ·by_cases hv:v<5
  ·have h1:=IJ;unfold chk5 at h1;rw[cr] at h1;have h2:=h1 c (aE.2 hc);rw[cr] at h2;have h3:=h2 v (aE.2 hv);rw[par_congr (q:=λe=>x5 c e&&((t5 e==v) ^^ (h5 e==v))) λe he=>by rw[hat e (aE.1 he) v]];simpa using h3
  ·refine eN λe he=>?_;have h1:=IG;unfold chkL at h1;rw[cr] at h1;have h2:=h1 e he;simp only[aJ] at h2;rw[hat e (aE.1 he) v];have a:(t5 e==v)=false:=by rw[beq_eq_false_iff_ne]; omega
   have b:(h5 e==v)=false:=by rw[beq_eq_false_iff_ne]; omega
   rw[a,b]; simp
 ·have h1:=IH;unfold chkI at h1;rw[cr] at h1;have h2:=h1 c (aE.2 hc);rw[cr] at h2;have h3:=h2 c' (aE.2 hc');have h4:((List.range 10).all λe=>x5 c e==x5 c' e)=true:=by
   rw[cr];intro e he;rw[h e he]; simp
  rw[h4] at h3;simpa using h3
 ·have h1:=II;unfold chkC at h1;rw[cr] at h1;have h2:=h1 e he;rw[qk] at h2;obtain⟨c,hc,hx⟩:=h2;exact⟨c,aE.1 hc,hx⟩
def t4 (e:Nat):Nat:=[0,0,0,1,1,2].getD e 0
def h4 (e:Nat):Nat:=[1,2,3,2,3,3].getD e 0
theorem four_yes {g:Gr} (ht:∀ e,e<6→g.tl e=t4 e∧g.hd e=h4 e):∃ (Φ:Type) (l r:Nat→Φ),Dual g (List.range 6) l r:=by
 have hat:∀ e,e<6→∀ v,at_ g e v=((t4 e==v) ^^ (h4 e==v)):=λe he v=>by unfold at_; rw[(ht e he).1,(ht e he).2]
 have hp:∀ (X:Nat→Bool) (v:Nat),par (List.range 6) (λe=>X e&&at_ g e v)=((X 0&&((0==v) ^^ (1==v))) ^^ (X 1&&((0==v) ^^ (2==v))) ^^ (X 2&&((0==v) ^^ (3==v))) ^^ (X 3&&((1==v) ^^ (2==v))) ^^ (X 4&&((1==v) ^^ (3==v))) ^^ (X 5&&((2==v) ^^ (3==v)))):=λX v=>by
  rw[par_congr (q:=λe=>X e&&((t4 e==v) ^^ (h4 e==v))) λe he=>by rw[hat e (aE.1 he) v]];have:List.range 6=[0,1,2,3,4,5]:=rfl;rw[this];simp [par,t4,h4]
 refine⟨Nat,λe=>[0,0,1,0,1,2].getD e 0,λe=>[1,2,2,3,3,3].getD e 0,λS v=>?_,λX hX=>?_⟩
 ·rw[hp];have e0:v=0∨v=1∨v=2∨v=3∨4≤v:=om;have f:∀ (a b c d:Bool),True:=λ_ _ _ _=>trivial;rcases e0 with rfl|rfl|rfl|rfl|h
  ·simp; cases S 0<;>cases S 1<;>cases S 2<;>rfl
  ·simp; cases S 0<;>cases S 1<;>cases S 3<;>rfl
  ·simp; cases S 0<;>cases S 2<;>cases S 3<;>rfl
  ·simp; cases S 1<;>cases S 2<;>cases S 3<;>rfl
  ·have h0:(0==v)=false:=by rw[beq_eq_false_iff_ne]; omega
   have h1:(1==v)=false:=by rw[beq_eq_false_iff_ne]; omega
   have h2:(2==v)=false:=by rw[beq_eq_false_iff_ne]; omega
   have h3:(3==v)=false:=by rw[beq_eq_false_iff_ne]; omega
   simp [h0,h1,h2,h3]
 ·have a0:=hX 0;have a1:=hX 1;have a2:=hX 2;rw[hp] at a0 a1 a2;simp at a0 a1 a2;refine⟨λf=>if f=1 then X 0 else if f=2 then X 1 else if f=3 then X 3 else false,λe he=>?_⟩;have he:=aE.1 he;have:e=0∨e=1∨e=2∨e=3∨e=4∨e=5:=om;rcases this with rfl|rfl|rfl|rfl|rfl|rfl
  ·simp
  ·simp
  ·revert a0; cases X 0<;>cases X 1<;>cases X 2<;>simp
  ·simp
  ·revert a1; cases X 0<;>cases X 3<;>cases X 4<;>simp
  ·revert a2; cases X 1<;>cases X 3<;>cases X 5<;>simp
end Go.Pla
namespace Go.Proofs.Ytpeemonpdlifbaa
open Go.Am
open Go.Pla (Dual at_ t5 h5 t4 h4)
def sM (a k:Nat):List (Int×Int):=(List.range k).map λb=>(((a:Nat):Int),((a+1+b:Nat):Int))
def jt (n a:Nat):List (Int×Int):=(List.range a).flatMap λa=>sM a (n-(a+1))
theorem BZ {a k:Nat}:sM a (k+1)=sM a k++[(((a:Nat):Int),((a+1+k:Nat):Int))]:=by
 unfold sM;rw[bW,ee];rfl
theorem rS {n a:Nat}:jt n (a+1)=jt n a++sM a (n-(a+1)):=by
 unfold jt;rw[bW,dU];simp
theorem wS {a k:Nat}:(sM a k).length=k:=by simp [sM]
theorem tX {n:Nat}:∀ {a:Nat},(jt n a).length≤a*n
 | 0=>by simp [jt]
 | a+1=>by
   have:=@tX n a;rw[rS,aC,wS,da];omega
theorem FM (e:Int×Int):(eE e).length=2:=rfl
theorem Ku (E:List (Int×Int)):(E.flatMap eE).length=E.length*2:=eY FM E
set_option maxHeartbeats 1000000 in
theorem tY {h:AH}{n:Nat} (hn:n≤100):C prg 17 [.int .i64 (n:Nat)] h λv h'=>∃ ev,v=.agg [.int .i64 (n:Nat),ev]∧SlE h' ev (jt n n)∧Ext h.next h h':=by
 refine KK pf17 ?_;refine ai (au (Mi0) ?_);have x0:Ext h.next h (h.new (.cells [.int .i64 0,.nils] 2 false)):=KH (ab _);have g0:(h.new (.cells [.int .i64 0,.nils] 2 false)).get h.next=some (.cells [.int .i64 0,.nils] 2 false):=by rw[AH.get_new,if_pos rfl]
 have n0:(h.new (.cells [.int .i64 0,.nils] 2 false)).next=h.next+1:=rfl;generalize (h.new (.cells [.int .i64 0,.nils] 2 false))=h1 at *
 obtain⟨h2,w2,x2,g2,n2⟩:=gH (h:=h1) (z:=[.int .i64 0,.nils]) (cs:=[.int .i64 (n:Nat),.nils]) (e:=2) rfl;refine ai (bR (λts h'=>h'=h2∧aN ts 0=.int .i64 (n:Nat)∧aN ts 2=.ptr h.next 0∧aN ts 3=.ptr h1.next 0) (by simp only[am,aH,simprocAttr,bN,w2]) ?_);rintro ts h2' ⟨rfl,e0,e2,e3⟩;have g02:h2'.get h.next=some (.cells [.int .i64 0,.nils] 2 false):=by rw[x2.gt _ om]; exact g0
 have X2:Ext h.next h h2':=x0.trans (x2.mono om);rw[n0] at e3 g2 n2;refine ai (ju (λts h'=>∃ ev,aN ts 2=.ptr h.next 0∧aN ts 3=.ptr (h.next+1) 0∧IsSl h' 2 (h.next+2) ev ((jt n n).flatMap eE)∧h'.get (h.next+1)=some (.cells [.int .i64 (n:Nat),ev] 2 false)∧h'.get h.next=some (.cells [.int .i64 0,.nils] 2 false)∧Ext h.next h h') ?_ ?_)
 ·refine ai (au (M0) ?_)
  refine fN (α:=AV) (N:=n) (λa ev=>[(0,.int .i64 (n:Nat)),(2,.ptr h.next 0),(3,.ptr (h.next+1) 0),(4,.int .i64 (a:Nat))])
   (λa ev h'=>IsSl h' 2 (h.next+2) ev ((jt n a).flatMap eE)∧h'.get (h.next+1)=some (.cells [.int .i64 (n:Nat),ev] 2 false)∧h'.get h.next=some (.cells [.int .i64 0,.nils] 2 false)∧Ext h.next h h'∧h.next+2≤h'.next) .nils (H4 e0 e2 e3 @bg) ⟨.inl ⟨rfl,rfl⟩,g2,g02,X2,om⟩ ?_ ?_ ?_
  ·clear e0 e2 e3;rintro a ev ts h3 ha _ ⟨e0,e2,e3,e4,-⟩;simp only at e0 e2 e3 e4;exact⟨_,(M3 e0 e4 @cx),Z0,H4 e0 e2 e3 e4⟩
  ·clear e0 e2 e3;rintro a ev ts h3 ha ⟨i3,g3,r3,X3,n3⟩ ⟨e0,e2,e3,e4,-⟩;simp only at e0 e2 e3 e4;have wa:IntKind.i64.wrap (((a:Nat):Int)+1)=((a+1:Nat):Int):=et om om;have fl:=@tX n a;have fl2:a*n≤100*100:=kH om hn;refine ai (au (M2 e4 wa) ?_)
   refine fN (α:=AV) (N:=n-(a+1)) (λk ev=>[(0,.int .i64 (n:Nat)),(2,.ptr h.next 0),(3,.ptr (h.next+1) 0),(4,.int .i64 (a:Nat)),(5,.int .i64 (a+1+k:Nat))])
    (λk ev h'=>IsSl h' 2 (h.next+2) ev ((jt n a++sM a k).flatMap eE)∧h'.get (h.next+1)=some (.cells [.int .i64 (n:Nat),ev] 2 false)∧h'.get h.next=some (.cells [.int .i64 0,.nils] 2 false)∧Ext h.next h h'∧h.next+2≤h'.next) ev (by simp only[hl,am,aH,simprocAttr,e0,e2,e3,e4,cZ]) ⟨by simpa [sM] using i3,g3,r3,X3,n3⟩ ?_ ?_ ?_
   ·clear e0 e2 e3 e4 i3 g3 r3 X3 n3;rintro k ev ts h4 hk _ ⟨e0,e2,e3,e4,e5,-⟩;simp only at e0 e2 e3 e4 e5;have c1:decide (((a+1+k:Nat):Int)<((n:Nat):Int))=decide (k<n-(a+1)):=by rw[decide_eq_decide]; omega
    exact⟨_,(M3 e0 e5 c1),Z0,H5 e0 e2 e3 e4 e5⟩
   ·clear e0 e2 e3 e4 i3 g3 r3 X3 n3;rintro k ev ts h4 hk ⟨i4,g4,r4,X4,n4⟩ ⟨e0,e2,e3,e4,e5,-⟩;simp only at e0 e2 e3 e4 e5;have wk:IntKind.i64.wrap (((a+1+k:Nat):Int)+1)=((a+1+(k+1):Nat):Int):=et om om;have rg:ak h4 (h.next+1) 1 1=some [ev]:=br g4 rfl;have hlen:((jt n a++sM a k).flatMap eE).length / 2≤100*100+100:=by
     rw[Ku,aC,wS];omega
    obtain⟨ev',h5,a5,i5,x5,n5⟩:=i4.push (bytes:=16) [.int .i64 (a:Nat),.int .i64 (a+1+k:Nat)] n4 om rfl rfl (by unfold aU; omega) (by unfold aU; omega);have g5:h5.get (h.next+1)=some (.cells [.int .i64 (n:Nat),ev] 2 false):=by rw[x5.gt _ om]; exact g4
    have r5:h5.get h.next=some (.cells [.int .i64 0,.nils] 2 false):=by rw[x5.gt _ om]; exact r4
    have w5:=gj (v:=ev') g5 (i:=1) (by simp);have u5:=KJ (o:=.cells ([AV.int .i64 (n:Nat),ev].set 1 ev') 2 false) g5;refine au (by simp only[am,aH,simprocAttr,e3,e4,e5,rg,a5,i5.cells.1,i5.cells.2,w5]<;>rfl) ?_;generalize h5.put (h.next+1) (.cells ([AV.int .i64 (n:Nat),ev].set 1 ev') 2 false)=h6 at *
    refine⟨ev',⟨?_,u5.get,by rw[u5.ne om]; exact r5,X4.trans ((x5.mono om).trans (u5.ext om)),by have:=u5.nx; omega⟩,_,(by simp only[am,aH,simprocAttr,e5,wk]<;>rfl),H4 e0 e2 e3 e4⟩;rw[BZ,← bQ,dU];exact i5.upd u5 om
   ·clear e0 e2 e3 e4 i3 g3 r3 X3 n3;rintro ev ts h4 ⟨i4,g4,r4,X4,n4⟩ ⟨e0,e2,e3,e4,e5,-⟩;simp only at e0 e2 e3 e4;exact⟨ev,⟨by rw[rS]; exact i4,g4,r4,X4,n4⟩,_,(M2 e4 wa),H3 e0 e2 e3⟩
  ·clear e0 e2 e3;rintro ev ts h3 ⟨i3,g3,r3,X3,n3⟩ ⟨e0,e2,e3,e4,-⟩;exact⟨ev,e2,e3,i3,g3,r3,X3⟩
 clear e0 e2 e3;rintro ts h3 ⟨ev,e2,e3,i3,g3,r3,X3⟩;have rg:ak h3 (h.next+1) 0 2=some [.int .i64 (n:Nat),ev]:=by rw[aW g3]; rfl
 have w4:bX h3 h.next 0 [.int .i64 (n:Nat),ev]=some (h3.put h.next (.cells [.int .i64 (n:Nat),ev] 2 false)):=by rw[fz r3]; rfl
 have u4:=KJ (o:=.cells [.int .i64 (n:Nat),ev] 2 false) r3;refine ai (au (by simp only[am,aH,simprocAttr,e2,e3,rg,w4,i3.cells.2]<;>rfl) ?_);generalize h3.put h.next (.cells [.int .i64 (n:Nat),ev] 2 false)=h4 at *
 have r4:ak h4 h.next 0 2=some [.int .i64 (n:Nat),ev]:=by rw[aW u4.get]; rfl
 exact bM ⟨.agg [.int .i64 (n:Nat),ev],(by simp only[rs,rf17,am,aH,simprocAttr,e2,r4]<;>rfl),ev,rfl,KE om FM (i3.upd u4 om),X3.trans (u4.ext (ab _))⟩
theorem JO:jp 4 (jt 4 4):=⟨by decide,by decide,by decide⟩
theorem HW:¬ IsP 5 (jt 5 5):=λ⟨hP,h⟩=>by
 have hE:=rQ hP.1;have hL:=AJ hP.1 hP.2.1;have hl:(jt 5 5).length=10:=by decide
 have hp:Go.Pla.Pln (grE (5:Int).toNat (jt 5 5) hE hL) (List.range 10):=by
  have:=qV (hE:=hE) (hL:=hL) hP.2.2;rwa [hl] at this
 refine Go.Pla.five_no hp (λe he=>?_) (by have:=h hE hL; rwa [hl] at this);have:e=0∨e=1∨e=2∨e=3∨e=4∨e=5∨e=6∨e=7∨e=8∨e=9:=om;rcases this with rfl|rfl|rfl|rfl|rfl|rfl|rfl|rfl|rfl|rfl<;>exact⟨rfl,rfl⟩
theorem is4:IsP 4 (jt 4 4):=⟨JO,λhE hL=>by
 have hl:(jt 4 4).length=6:=by decide
 rw[hl];refine Go.Pla.four_yes (λe he=>?_);have:e=0∨e=1∨e=2∨e=3∨e=4∨e=5:=om;rcases this with rfl|rfl|rfl|rfl|rfl|rfl<;>exact⟨rfl,rfl⟩⟩
theorem wM {h:AH}:C prg 6 [] h λv h'=>v=.bool true∧Ext h.next h h':=by
 refine KK pf6 ?_;refine ai (au (Mi0) ?_);refine ai (bU (mc (Z0) (M0) (tY (n:=5) om) λr h1 hq=>?_));obtain⟨ev,rfl,s1,x1⟩:=hq;refine mc (Z0) (M0) (vg (n:=5) s1 (by decide)) λr h2 hq=>?_;obtain⟨b,rfl,hb,x2⟩:=hq;have b0:b=false:=by
  cases b with
  | false=>rfl
  | true=>exact absurd (hb.1 rfl) HW
 subst b0;have n1:=x1.nx;have n2:=x2.nx;refine bu 2 (M0) rfl (Z0) (M0) (tY (n:=4) om) λr h3 hq=>?_;obtain⟨ev4,rfl,s3,x3⟩:=hq;have n3:=x3.nx;refine mc (Z0) (M0) (vg (n:=4) s3 (by decide)) λr h4 hq=>?_;obtain⟨b,rfl,hb4,x4⟩:=hq;obtain rfl:b=true:=hb4.2 is4;refine bP (M0) ?_;exact bM ⟨.bool true,(by simp only[rs,rf6,am,aH,simprocAttr]<;>rfl),rfl,x1.trans ((x2.mono n1).trans ((x3.mono om).trans (x4.mono om)))⟩
open Go.Am
theorem qB {ks:List IntKind}{xs ys:List AV}:fZ .eql (.flat ks) (.agg xs) (.agg ys)=(eO ks xs ys).map .bool:=by
 simp only[fZ,iV,eqF]
theorem oE {a b c d:Int}:eO [.i64,.i64] [.int .i64 a,.int .i64 b] [.int .i64 c,.int .i64 d]=some (decide ((a,b)=(c,d))):=by
 by_cases e:a=c
 ·subst e;by_cases e:b=d
  ·subst e; simp [eO]
  ·have:(b==d)=false:=by rw[beq_eq_false_iff_ne]; exact e
   simp [eO,this,e]
 ·have:(a==c)=false:=by rw[beq_eq_false_iff_ne]; exact e
  simp [eO,this,e]
theorem Co {α:Type}{l:List α}:l.Nodup↔∀ i (hi:i<l.length),∀ k (hk:k<l.length),k<i→l[i]≠l[k]:=by
 rw[List.Nodup,fy];constructor
 ·intro h i hi k hk hki e;exact h k i hk hi hki e.symm
 ·intro h i j hi hj hij e;exact h j hj i hi hij e.symm
theorem Cg {n:Int}{E:List (Int×Int)}:jp n E↔iP n E=true∧∀ i (hi:i<E.length),E[i].1≠E[i].2∧∀ k (hk:k<E.length),k<i→¬ (E[i]=E[k]∨(E[i].1=E[k].2∧E[i].2=E[k].1)):=by
 unfold jp;rw[Co];constructor
 ·rintro⟨h1,h2,h3⟩;refine⟨h1,λi hi=>⟨h2 _ (bj hi),λk hk hki q=>?_⟩⟩;have:=h3 i (by simpa using hi) k (by simpa using hk) hki;rw[lY,lY] at this;exact this (vu.2 q)
 ·rintro⟨h1,h2⟩;refine⟨h1,λe he=>?_,λi hi k hk hki q=>?_⟩
  ·obtain⟨i,hi,rfl⟩:=yu he;exact (h2 i hi).1
  ·rw[lY,lY] at q;exact (h2 i (by simpa using hi)).2 k (by simpa using hk) hki (vu.1 q)
set_option maxHeartbeats 1000000 in
theorem nz {h:AH}{n:Int}{ev:AV}{E:List (Int×Int)} (he:SlE h ev E):C prg 7 [.agg [.int .i64 n,ev]] h λr h'=>∃ b,r=.bool b∧(b=true↔jp n E)∧Ext h.next h h':=by
 obtain⟨ec,eo⟩:=he.cells;have el:=he.len;rw[ae] at el;refine KK pf7 ?_;refine ai (au (Mi0) ?_);have x0:Ext h.next h (h.new (.cells [.int .i64 n,ev] 2 false)):=KH (ab _);have g0:(h.new (.cells [.int .i64 n,ev] 2 false)).get h.next=some (.cells [.int .i64 n,ev] 2 false):=by rw[AH.get_new,if_pos rfl]
 have n0:(h.new (.cells [.int .i64 n,ev] 2 false)).next=h.next+1:=rfl;generalize (h.new (.cells [.int .i64 n,ev] 2 false))=h1 at *
 have rA:ak h1 h.next 0 2=some [.int .i64 n,ev]:=by rw[aW g0]; rfl
 refine ai (ai (bU (bu 1 (Mi1 rA) rfl (Zi1 rA) (Mi1 rA) (wU (n:=n) (he.ext x0 (ab _))) λr h2 hq=>?_)));obtain⟨rfl,x2⟩:=hq;have X2:Ext h.next h h2:=x0.trans (x2.mono om);refine bP (M0) ?_;cases hm:iP n E with
 | false =>
   refine cE (Z0) (ai (au (M0) ?_));exact bM ⟨.bool false,(by simp only[rs,rf7,am,aH,simprocAttr]<;>rfl),false,rfl,⟨(λq=>by cases q),λq=>by rw[q.1] at hm; cases hm⟩,X2⟩
 | true =>
 have hxl:E.length<2 ^ 40:=by
  have q:=hm;unfold iP at q;simp only[aQ,aJ] at q;omega
 refine dn (Z0) (bH ?_);have n2:=x2.nx;have g2:h2.get h.next=some (.cells [.int .i64 n,ev] 2 false):=by rw[x2.gt _ om]; exact g0
 have hP:=Cg (n:=n) (E:=E);refine ai (ai (au (Mi0) ?_))
 refine fN (α:=Unit) (N:=E.length) (λi _=>[(1,.ptr h.next 0),(3,.int .i64 (i:Nat))])
  (λi _ h'=>(∀ j (hj:j<E.length),j<i→E[j].1≠E[j].2∧∀ k (hk:k<E.length),k<j→¬ (E[j]=E[k]∨(E[j].1=E[k].2∧E[j].2=E[k].1)))∧h'.get h.next=some (.cells [.int .i64 n,ev] 2 false)∧Ext h.next h h') () (Hi1 @bg)
  ⟨λj hj q=>absurd q (eR _),g2,X2⟩ ?_ ?_ ?_
 ·rintro i _ ts h4 hi ⟨j1,j2,j3⟩ ⟨e1,e3,-⟩;simp only at e1 e3;have rE:ak h4 h.next 1 1=some [ev]:=br j2 rfl;exact⟨_,(M5 e1 e3 rE el @cx),Z0,H2 e1 e3⟩
 ·rintro i _ ts h4 hi ⟨j1,j2,j3⟩ ⟨e1,e3,-⟩;simp only at e1 e3;have w3:=nZ (k:=i) om;have rE:ak h4 h.next 1 1=some [ev]:=br j2 rfl;obtain⟨b1,p1,a1,r1,_⟩:=(he.ext j3 (ab _)).at (fR (f:=eE) hi);have n4:=j3.nx;have hnl:=AH.lt_of_get j2;obtain⟨h5,w5,x5,g5,n5⟩:=gH (h:=h4) (z:=[.int .i64 0,.int .i64 0]) (cs:=[.int .i64 E[i].1,.int .i64 E[i].2]) (e:=2) rfl;have r1:ak h4 b1 p1 2=some [.int .i64 E[i].1,.int .i64 E[i].2]:=r1;refine ai (au (M6 e1 e3 rE a1 r1 w5) ?_);have g5':h5.get h.next=some (.cells [.int .i64 n,ev] 2 false):=by rw[x5.gt _ hnl]; exact j2
  have X5:Ext h.next h h5:=j3.trans (x5.mono n4);refine ai (ai (au (M0) ?_))
  refine fN (α:=Unit) (N:=i) (λk _=>[(1,.ptr h.next 0),(3,.int .i64 (i:Nat)),(4,.ptr h4.next 0),(5,.int .i64 (k:Nat))])
   (λk _ h'=>(∀ k' (hk:k'<E.length),k'<k→¬ (E[i]=E[k']∨(E[i].1=E[k'].2∧E[i].2=E[k'].1)))∧h'.get h.next=some (.cells [.int .i64 n,ev] 2 false)∧h'.get h4.next=some (.cells [.int .i64 E[i].1,.int .i64 E[i].2] 2 false)∧Ext h.next h h') () (H3 e1 e3 @bg)
   ⟨λk' hk q=>absurd q (eR _),g5',g5,X5⟩ ?_ ?_ ?_
  ·clear e1 e3;rintro k _ ts h6 hk ⟨k1,k2,k3,k4⟩ ⟨e1,e3,e4,e5,-⟩;simp only at e1 e3 e4 e5;exact⟨_,(M3 e3 e5 @cx),Z0,H4 e1 e3 e4 e5⟩
  ·clear e1 e3;rintro k _ ts h6 hk ⟨k1,k2,k3,k4⟩ ⟨e1,e3,e4,e5,-⟩;simp only at e1 e3 e4 e5;have hk':k<E.length:=om;have w5:=nZ (k:=k) om;have rE:ak h6 h.next 1 1=some [ev]:=br k2 rfl;obtain⟨b2,p2,a2,r2,_⟩:=(he.ext k4 (ab _)).at (fR (f:=eE) hk');have hnl6:=AH.lt_of_get k2;have hnl7:=AH.lt_of_get k3;obtain⟨h7,w7,x7,g7,n7⟩:=gH (h:=h6) (z:=[.int .i64 0,.int .i64 0]) (cs:=[.int .i64 E[k].1,.int .i64 E[k].2]) (e:=2) rfl;have r2:ak h6 b2 p2 2=some [.int .i64 E[k].1,.int .i64 E[k].2]:=r2;refine ai (au (M6 e1 e5 rE a2 r2 w7) ?_);have X7:Ext h.next h h7:=k4.trans (x7.mono k4.nx);have g72:h7.get h4.next=some (.cells [.int .i64 E[i].1,.int .i64 E[i].2] 2 false):=by rw[x7.gt _ hnl7]; exact k3
   have rI:ak h7 h4.next 0 2=some [.int .i64 E[i].1,.int .i64 E[i].2]:=by rw[aW g72]; rfl
   have rK:ak h7 h6.next 0 2=some [.int .i64 E[k].1,.int .i64 E[k].2]:=by rw[aW g7]; rfl
   have rI0:ak h7 h4.next 0 1=some [.int .i64 E[i].1]:=br g72 rfl;have rI1:ak h7 h4.next 1 1=some [.int .i64 E[i].2]:=br g72 rfl;have rK0:ak h7 h6.next 0 1=some [.int .i64 E[k].1]:=br g7 rfl;have rK1:ak h7 h6.next 1 1=some [.int .i64 E[k].2]:=br g7 rfl;have hbad:(E[i]=E[k]∨(E[i].1=E[k].2∧E[i].2=E[k].1))→∃ v,jr ((mZ (mZ ts 2 (.bool false)) 2 (.bool false))) h7 []=some v:=λ_=>⟨_,rfl⟩
   have hnext:¬ (E[i]=E[k]∨(E[i].1=E[k].2∧E[i].2=E[k].1))→∀ k' (hk:k'<E.length),k'<k+1→¬ (E[i]=E[k']∨(E[i].1=E[k'].2∧E[i].2=E[k'].1)):=λq k' hk2 hlt=>by
    by_cases e:k'=k
    ·subst e; exact q
    ·exact k1 k' hk2 om
   have hno:(E[i]=E[k]∨(E[i].1=E[k].2∧E[i].2=E[k].1))→¬ jp n E:=λq p=>(hP.1 p).2 i hi |>.2 k hk' hk q;have g71:h7.get h.next=some (.cells [.int .i64 n,ev] 2 false):=by rw[x7.gt _ hnl6]; exact k2
   by_cases q1:E[i]=E[k]
   ·have c1:decide ((E[i].1,E[i].2)=(E[k].1,E[k].2))=true:=aM (by rw[q1]);refine ai (au (M6 e4 rI rK @qB @oE c1) ?_);refine cE (Z0) (ai (au (M0) ?_));exact bM ⟨.bool false,(by simp only[rs,rf7,am,aH,simprocAttr]<;>rfl),false,rfl,⟨(λq=>by cases q),λq=>absurd q (hno (.inl q1))⟩,X7⟩
   have c1:decide ((E[i].1,E[i].2)=(E[k].1,E[k].2))=false:=aK λq=>q1 (Prod.ext (congrArg Prod.fst q) (congrArg Prod.snd q));by_cases q2:E[i].1=E[k].2
   ·have c2:decide (E[i].1=E[k].2)=true:=aM q2;by_cases q3:E[i].2=E[k].1
    ·have c3:decide (E[i].2=E[k].1)=true:=aM q3;refine ai (au (M12 e4 rI rK rI0 rI1 rK0 rK1 @qB @oE c1 c2 c3) ?_);refine cE (Z0) (ai (au (M0) ?_));exact bM ⟨.bool false,(by simp only[rs,rf7,am,aH,simprocAttr]<;>rfl),false,rfl,⟨(λq=>by cases q),λq=>absurd q (hno (.inr ⟨q2,q3⟩))⟩,X7⟩
    ·have c3:decide (E[i].2=E[k].1)=false:=aK q3;refine ai (au (M12 e4 rI rK rI0 rI1 rK0 rK1 @qB @oE c1 c2 c3) ?_);refine dn (Z0) (bH ?_);exact⟨(),⟨hnext λq=>q.elim q1 λq=>q3 q.2,g71,g72,X7⟩,_,(M2 e5 w5),H3 e1 e3 e4⟩
   ·have c2:decide (E[i].1=E[k].2)=false:=aK q2;refine ai (au (M12 e4 rI rK rI0 rI1 rK0 rK1 @qB @oE c1 c2 c2) ?_);refine dn (Z0) (bH ?_);exact⟨(),⟨hnext λq=>q.elim q1 λq=>q2 q.1,g71,g72,X7⟩,_,(M2 e5 w5),H3 e1 e3 e4⟩
  ·clear e1 e3;rintro _ ts h6 ⟨k1,k2,k3,k4⟩ ⟨e1,e3,e4,e5,-⟩;simp only at e1 e3 e4 e5;have rI0:ak h6 h4.next 0 1=some [.int .i64 E[i].1]:=br k3 rfl;have rI1:ak h6 h4.next 1 1=some [.int .i64 E[i].2]:=br k3 rfl;by_cases q:E[i].1=E[i].2
   ·have c1:decide (E[i].1=E[i].2)=true:=aM q;refine ai (au (M4 e4 rI0 rI1 c1) ?_);refine cE (Z0) (ai (au (M0) ?_));exact bM ⟨.bool false,(by simp only[rs,rf7,am,aH,simprocAttr]<;>rfl),false,rfl,⟨(λq=>by cases q),λp=>absurd q ((hP.1 p).2 i hi).1⟩,k4⟩
   ·have c1:decide (E[i].1=E[i].2)=false:=aK q;refine ai (au (M4 e4 rI0 rI1 c1) ?_);refine dn (Z0) (bH ?_);refine⟨(),⟨λj hj hji=>?_,k2,k4⟩,_,(M2 e3 w3),H1 e1⟩;by_cases e:j=i
    ·subst e; exact⟨q,λk hk hkj=>k1 k hk hkj⟩
    ·exact j1 j hj om
 ·rintro _ ts h4 ⟨j1,j2,j3⟩ ⟨e1,e3,-⟩;refine ai (au (M0) ?_);exact bM ⟨.bool true,(by simp only[rs,rf7,am,aH,simprocAttr]<;>rfl),true,rfl,⟨λ_=>hP.2 ⟨hm,λi hi=>j1 i hi hi⟩,λ_=>rfl⟩,j3⟩
open Go.Am
open Go.Am
open Go.Pla (Dual at_)
theorem sB {x y:Bool}:fZ .neq .bl (.bool x) (.bool y)=some (.bool (x != y)):=rfl
end Go.Proofs.Ytpeemonpdlifbaa
