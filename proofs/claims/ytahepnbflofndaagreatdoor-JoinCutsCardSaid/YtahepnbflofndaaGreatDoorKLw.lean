/- Slices that came in, as they lie in the clean machine's memo -/
import Derived.Test.YtahepnbflofndaaGreatDoorKRf
import Derived.Test.YtahepnbflofndaaGreatDoorKAmEnd
import Derived.Test.YtahepnbflofndaaGreatDoorKAmR
import Derived.Test.YtahepnbflofndaaGreatDoorKAmF
set_option linter.all false
namespace Go.Proofs.YtahepnbflofndaaGreatDoor
open Go.Am
open Go.RowKit
theorem CE (xs:List Int):xs.flatMap eI=xs.map (AV.int .i64):=by
 induction xs with
 | nil=>rfl
 | cons x r ih=>rw[fo,ih]; rfl
theorem wM {α:Type}{f:α→List AV}{h:AH}{e b n:Nat}{xs:List α}{ro:Bool} (hf:∀ x,(f x).length=e) (hg:h.get b=some (.cells (xs.flatMap f) e ro)) (hn:n=xs.length):Sl h e (.sl b 0 n n) (xs.map f):=by
 subst hn;have hl:=dC hf xs;refine .inr ⟨b,0,xs.length,_,ro,by rw[ai],hg,by rw[ai]; exact ab _,by rw[ai,hl]; omega,λi x hx=>?_⟩;rw[aX] at hx;obtain⟨y,hy,rfl⟩:=aF.1 hx;rw[bM];exact xA hf xs i y hy
def ph:List Int→List (Int×Int)
 | x::y::r=>(x,y)::ph r
 | _=>[]
theorem tS:∀ (n:Nat) (ns:List Int),ns.length=n*2→(ph ns).flatMap eE=ns.map (AV.int .i64)∧(ph ns).length=n
 | 0,[],_=>⟨rfl,rfl⟩
 | n+1,x::y::r,h=>by
   have ih:=tS n r (by simp only[bf] at h; omega);refine⟨?_,?_⟩
   ·simp only[ph,fo,eE,cM,bU,cH];rw[← ih.1]
   ·simp only[ph,bf,ih.2]
 | 0,_::_,h=>by simp at h
 | n+1,[],h=>by simp at h
 | n+1,[x],h=>by simp only[bf,bt] at h; omega
theorem rowE1 {K:Bs}{σ:Sg}{h:AH}{w:World} (r:Rep K σ h w) (hB:K.B=w.heap.size) {k:IntKind}{e:Nat} (he:0<e) {a:Option Addr}{len cap:Nat}{zs:List Int} (hr:IsRowE k e w a len cap zs) (hspot:∀ x,a=some x→x.spot=none) :
 ∃ σ' o v,σ.le σ'∧Rep K σ' (h.new o) w∧VR σ' v (.slice a len cap)∧((v=.nils∧len=0)∨(v=.sl h.next 0 len len∧o=.cells ((zs.take (len*e)).map (AV.int k)) e true∧(zs.take (len*e)).length=len*e)):=by
 rcases hr with ⟨rfl,rfl,rfl,rfl⟩|⟨x,rfl,h1,h2,h3,h4,h5⟩
 ·obtain⟨σ',q1,q2⟩:=r.dummy;exact⟨σ',_,.nils,q1,q2,by simp [VR],.inl ⟨rfl,rfl⟩⟩
 ·have hsp:=hspot x rfl;have hadd:∀ j,x.add j=⟨x.block,x.off+j,none⟩:=by
   intro j;obtain⟨xb,xo,xs⟩:=x;simp only at hsp;subst hsp;exact Addr.add_lit _ _ _
  have hle:len*e≤cap*e:=gM e h1;have hl:(zs.take (len*e)).length=len*e:=by rw[aS]; omega
  cases zs with
  | nil =>
    simp only[bt] at h3;have e2:cap=0:=by
     rcases Nat.eq_zero_or_pos cap with q|q
     ·exact q
     ·have:=Nat.mul_pos q he; omega
    have e1:len=0:=om;subst e1;subst e2;refine⟨σ.add h.next ⟨x.block,x.off,e,0,0⟩,.cells [] e true,.sl h.next 0 0 0,Sg.le_add r.fresh,r.came [] e _ rfl (.inl rfl),?_,.inr ⟨rfl,by rw[oO]; rfl,hl⟩⟩;simp only[VR];exact⟨_,x.off,0,Sg.add_at _ _ _,by obtain⟨xb,xo,xs⟩:=x; simp only at hsp; subst hsp; rfl,.inl trivial,ab _,ab _,.inl rfl⟩
  | cons z zs =>
    have h40:=h4 0 (by simp);rw[hadd] at h40;unfold World.cell? at h40;simp only at h40;split at h40
    ·rename_i C t fr hC
     have hall:∀ i,i<(z::zs).length→C[x.off+i]?=some (.int k ((z::zs).getD i 0)):=by
      intro i hi;have:=h4 i hi;rw[hadd] at this;simpa [World.cell?,hC] using this
     have hN:x.off+cap*e≤C.size:=by
      have:=hall (cap*e-1) (by simp at h3 ⊢; omega);have hlt:=(cx.1 this).1;simp at h3;omega
     have hblk:x.block<w.heap.size:=(cx.1 hC).1;refine⟨σ.add h.next ⟨x.block,x.off,e,C.size,t⟩,.cells (((z::zs).take (len*e)).map (AV.int k)) e true,.sl h.next 0 len len,Sg.le_add r.fresh,r.came _ e _ rfl (.inr ⟨by rw[hB]; exact hblk,fun τ _=>?_⟩),?_,.inr ⟨rfl,rfl,hl⟩⟩
     ·refine⟨C,t,fr,hC,rfl,rfl,?_,λj y hy=>?_,λq=>by (cases q),rfl⟩
      ·show x.off+_≤C.size;rw[ai,hl]; omega
      ·have hj:j<len*e:=by
        rcases eJ j (len*e) with q|q
        ·exact q
        ·rw[bG (by rw[ai,hl]; exact q)] at hy; cases hy
       rw[aX,cQ,if_pos hj] at hy;refine⟨.int k ((z::zs).getD j 0),hall j om,?_⟩;rw[aL];cases hq:(z::zs)[j]? with
       | none=>rw[hq] at hy; cases hy
       | some u=>rw[hq] at hy; simp only[aQ,aa] at hy; subst hy; simp [VR]
     ·simp only[VR];refine⟨_,x.off,cap,Sg.add_at _ _ _,by obtain⟨xb,xo,xs⟩:=x; simp only at hsp; subst hsp; rfl,.inr (by simp),h1,ab _,.inr ⟨ab _,?_⟩⟩;show x.off+cap*e≤C.size;omega
    ·cases h40
theorem Lr {K:Bs}{σ:Sg}{h:AH}{w:World} (r:Rep K σ h w) (hB:K.B=w.heap.size) {a:Option Addr}{len cap:Nat}{zs:List Int} (hr:IsRowE .i64 1 w a len cap zs) :
 ∃ σ' o v,σ.le σ'∧Rep K σ' (h.new o) w∧VR σ' v (.slice a len cap)∧gD v=some (.int .i64 (len:Nat))∧SlI (h.new o) v (zs.take len):=by
 have hrow:len≤cap∧zs.length=cap∧(a=none→cap=0)∧∀ x,a=some x→∀ i,i<cap→w.cell? (x.add i)=some (.int .i64 (zs.getD i 0)):=by
  rcases hr with ⟨rfl,rfl,rfl,rfl⟩|⟨x,rfl,h1,h2,h3,h4,h5⟩
  ·exact⟨ab _,rfl,λ_=>rfl,(λx hx=>by cases hx)⟩
  ·rw[aO] at h3;exact⟨h1,h3,(λh=>by cases h),(λy hy i hi=>by cases hy; exact h4 i om)⟩
 obtain⟨q1,q2,q3,q4⟩:=hrow;obtain⟨σ',o,v,b1,b2,b3,b4⟩:=r.rowB hB q1 q2 q3 q4;refine⟨σ',o,v,b1,b2,b3,?_⟩;rcases b4 with ⟨h1|h1,h2⟩|⟨h1,h2⟩
 ·subst h1 h2;exact⟨rfl,.inl ⟨by simp,.inl rfl⟩⟩
 ·subst h1 h2;exact⟨rfl,.inl ⟨by simp,.inr rfl⟩⟩
 ·subst h1 h2;refine⟨rfl,wM (f:=eI) (ro:=true) (λ_=>rfl) ?_ (by rw[aS]; omega)⟩;rw[AH.get_new,if_pos rfl,CE]
theorem lP {h:AH}{o:AO}:∀ b x,h.get b=some x→(h.new o).get b=some x:=λb x hb=>by
 rw[AH.get_new,if_neg (by have:=AH.lt_of_get hb; omega)];exact hb
open Go.Am
theorem lh {α:Type} (p:List Bool) (x:α):(T.nil:T α).set p x=(T.node .nil none .nil).set p x:=by
 cases p with
 | nil=>rfl
 | cons b p=>cases b<;>rfl
theorem set_same {α:Type} (x y:α):∀ (p:List Bool) (t:T α),(t.set p x).set p y=t.set p y:=by
 intro p;induction p with
 | nil =>
   intro t;cases t<;>rfl
 | cons b p ih =>
   intro t;cases t with
   | nil =>
     rw[lh,lh (b::p) y];have i0:=ih .nil;simp only[T.set] at i0;cases b<;>simp only[T.set,i0]
   | node l v r=>cases b<;>simp only[T.set,ih]
theorem set_comm {α:Type} (x y:α):∀ (p q:List Bool) (t:T α),p≠q→(t.set p x).set q y=(t.set q y).set p x:=by
 intro p;induction p with
 | nil =>
   intro q t h;cases q with
   | nil=>exact absurd rfl h
   | cons b q =>
     cases t with
     | nil =>
       rw[lh,lh (b::q) y];cases b<;>rfl
     | node l v r=>cases b<;>rfl
 | cons a p ih =>
   intro q t h;cases q with
   | nil =>
     cases t with
     | nil =>
       rw[lh,lh [] y];cases a<;>rfl
     | node l v r=>cases a<;>rfl
   | cons b q =>
     have key:∀ (l r:T α) (v:Option α),((T.node l v r).set (a::p) x).set (b::q) y=((T.node l v r).set (b::q) y).set (a::p) x:=by
      intro l r v;cases a<;>cases b
      ·simp only[T.set];rw[ih q r (λe=>h (by rw[e]))]
      ·simp only[T.set]
      ·simp only[T.set]
      ·simp only[T.set];rw[ih q l (λe=>h (by rw[e]))]
     cases t with
     | nil =>
       rw[lh,lh (b::q) y];exact key _ _ _
     | node l v r=>exact key _ _ _
theorem Cm {m n:Nat} (h:m≠n):fP m≠fP n:=λe=>h (gV.1 e)
theorem JM {h:AH}{m:Nat}{o a:AO} (hm:m≠h.next):(h.new a).put m o=(h.put m o).new a:=by
 unfold AH.put AH.new;simp only;rw[set_comm _ _ _ _ _ (Cm (Ne.symm hm))]
theorem JT {h:AH}{o a:AO}:(h.new a).put h.next o=h.new o:=by
 unfold AH.put AH.new;simp only;rw[set_same]
theorem zz:∀ (k:Nat) (h:AH) (m:Nat) (o:AO),m<h.next→(h.keep k).put m o=(h.put m o).keep k
 | 0,_,_,_,_=>rfl
 | k+1,h,m,o,hm=>by
   show ((h.new .resv).keep k).put m o=((h.put m o).new .resv).keep k;rw[zz k (h.new .resv) m o (by simp; omega),JM om]
theorem JL {h:AH}{m n:Nat}{a b:AO} (hmn:m≠n):(h.put m a).put n b=(h.put n b).put m a:=by
 unfold AH.put;simp only;rw[set_comm _ _ _ _ _ (Cm hmn)]
def qv:List AO→Nat→List (Nat×AO×Option Nat)
 | [],_=>[]
 | o::r,n=>(n,o,none)::qv r (n+1)
theorem yq:∀ (os:List AO) (n:Nat),(qv os n).map (·.1)=List.range' n os.length
 | [],n=>rfl
 | o::r,n=>by rw[qv,cM,yq r,bf,List.range'_succ]
theorem yW:∀ (Z:List AO) (n:Nat) (h:AH) (m:Nat) (o:AO),m<n→jc (qv Z n) (h.put m o)=(jc (qv Z n) h).put m o
 | [],_,_,_,_,_=>rfl
 | a::r,n,h,m,o,hm=>by
   show ((jc (qv r (n+1)) (h.put m o))).put n a=(((jc (qv r (n+1)) h)).put n a).put m o;rw[yW r (n+1) h m o om,JL om]
theorem vB:∀ (os:List AO) (h:AH),news os h=jc (qv os h.next) (h.keep os.length)
 | [],h=>rfl
 | o::r,h=>by
   show news r (h.new o)=(jc (qv r (h.next+1)) ((h.new .resv).keep r.length)).put h.next o;rw[vB r (h.new o),← yW _ _ _ _ _ om,zz _ _ _ _ (by simp),JT];rfl
theorem Sl.stay {h h':AH}{e:Nat}{v:AV}{xs:List (List AV)} (hk:∀ b o,h.get b=some o→h'.get b=some o) (hs:Sl h e v xs):Sl h' e v xs:=by
 rcases hs with hs|⟨b,o,c,cs,ro,h1,h2,h3⟩
 ·exact .inl hs
 ·exact .inr ⟨b,o,c,cs,ro,h1,hk _ _ h2,h3⟩
theorem tv {os:List AO}{h:AH}{a b:AO}:((news os h).new a).new b=news (os++[a,b]) h:=by
 induction os generalizing h with
 | nil=>rfl
 | cons o r ih=>exact ih
theorem De {f:FuncId}{S0:AH}{m:Nat} (hg:GoodS prg ⟨.call f [] S0,[]⟩) (hS:S0=AH.zero.keep m) {os:List AO} (hl:os.length=m) (hm:0<m) :
 C prg f [] (news os AH.zero) λv h'=>v=.bool true∧8+m≤h'.next∧∀ b o,(news os AH.zero).get b=some o→h'.get b=some o:=by
 have he:news os AH.zero=jc (qv os 8) S0:=by
  rw[vB,hl,hS];rfl
 have hfst:(qv os 8).map (·.1)=List.range' 8 m:=by rw[yq,hl]
 have hmem:∀ b,b∈(qv os 8).map (·.1)↔8≤b∧b<8+m:=λb=>by
  rw[hfst,List.mem_range'_1]
 have h8:AH.zero.next=8:=rfl;rw[he];refine (C.of_goodS hg (qv os 8) (by rw[hfst]; exact List.nodup_range') (λx hx=>?_)).mono λv h' ⟨e1,e2⟩=>⟨e1,?_,λb o hb=>?_⟩
 ·have:=(hmem x.1).1 (bB.2 ⟨x,hx,rfl⟩);rw[hS,AH.keep_get,if_pos ⟨om,om⟩]
 ·have:=(e2 (8+m-1) ((hmem _).2 om)).1;omega
 ·have hbl:b<8+m:=by
   have:=AH.lt_of_get hb;rw[jY,hS,AH.keep_next] at this;omega
  by_cases h8:8≤b
  ·rw[(e2 b ((hmem b).2 ⟨h8,hbl⟩)).2];exact hb
  ·exfalso;rw[← he,tx _ _ _ (show b<AH.zero.next from by show b<8; omega),AH.get_zero] at hb;cases hb
def Mx:=@Sl.stay
end Go.Proofs.YtahepnbflofndaaGreatDoor
