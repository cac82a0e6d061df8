/- The functions in the clean machine's form -/
import Derived.Test.YtmibmlioidpogaaGreatDoorVTAB
import Derived.Test.YtmibmlioidpogaaGreatDoorVAmF
set_option linter.all false
namespace Go.Proofs.YtmibmlioidpogaaGreatDoor
open Go.Am
set_option maxRecDepth 100000
variable {K:Bs}{P:Int×Int×Int->Bool}{a:Option Addr}{b o:AO}{cap e m n:Nat}{caps:List AV}{h:AH}{k:FuncId}{os:List AO}{v:AV}{w:World}{xs:List (Int×Int)}{y:Int×Int}{zs:List Int}{σ:Sg}
def mks:List (Nat×RF):=[(51,rL),(62,qr 63)]
def tab:List (Nat×RF):=[(3,rf3),(4,rf4),(5,rf5),(6,rf6),(7,rf7),(8,rf8),(9,rf9),(10,rf10),(11,rf11),(12,rf12),(13,rf13),(14,rf14),(15,rf15),(16,rf16),(17,rf17),(18,rf18),(19,rf19),(20,rf20),(21,rf21),(22,rf22),(23,rf23),(24,rf24),(25,rf25),(26,rf26),(27,rf27),(28,rf28),(29,rf29),(30,rf30),(31,rf31),(32,rf32),(33,rf33),(34,rf34),(35,rf35),(36,rf36),(37,rf37),(38,rf38),(39,rf39),(40,rf40),(41,rf41),(42,rf42),(43,rf43),(44,rf44),(45,rf45),(46,rf46),(47,rf47),(48,rf48),(49,rf49),(50,rf50),(51,rf51),(52,rf52),(53,rf53),(54,rf54),(55,rf55),(56,rf56),(57,rf57),(58,rf58),(59,rf59),(60,rf60),(61,rf61),(62,rf62),(64,rf64),(65,rf65),(66,rf66),(67,rf67),(68,rf68),(69,rf69),(70,rf70),(71,rf71),(72,rf72),(73,rf73),(74,rf74),(75,rf75),(76,rf76),(77,rf77),(78,rf78),(79,rf79),(80,rf80),(81,rf81),(82,rf82),(83,rf83),(84,rf84),(85,rf85),(86,rf86),(87,rf87),(88,rf88),(89,rf89),(90,rf90),(91,rf91),(92,rf92),(93,rf93),(94,rf94),(95,rf95),(96,rf96),(97,rf97),(98,rf98),(99,rf99),(100,rf100),(101,rf101),(102,rf102),(103,rf103),(104,rf104),(110,rf110),(114,rf114),(115,rf115),(116,rf116),(124,rf124),(125,rf125),(126,rf126),(127,rf127),(128,rf128),(129,rf129),(131,rf131),(137,rf137),(141,rf141)]
noncomputable def prg:RP:=λf=>lkp tab f (zR Tryz.prog mks f)
theorem pf3:prg 3=some rf3:=rfl
theorem pf5:prg 5=some rf5:=rfl
theorem pf6:prg 6=some rf6:=rfl
theorem pf7:prg 7=some rf7:=rfl
theorem pf10:prg 10=some rf10:=rfl
theorem pf11:prg 11=some rf11:=rfl
theorem pf12:prg 12=some rf12:=rfl
theorem pf13:prg 13=some rf13:=rfl
theorem pf14:prg 14=some rf14:=rfl
theorem pf15:prg 15=some rf15:=rfl
theorem pf18:prg 18=some rf18:=rfl
theorem pf19:prg 19=some rf19:=rfl
theorem pf20:prg 20=some rf20:=rfl
theorem pf21:prg 21=some rf21:=rfl
theorem pf22:prg 22=some rf22:=rfl
theorem pf23:prg 23=some rf23:=rfl
theorem pf24:prg 24=some rf24:=rfl
theorem pf25:prg 25=some rf25:=rfl
theorem pf26:prg 26=some rf26:=rfl
theorem pf27:prg 27=some rf27:=rfl
theorem pf28:prg 28=some rf28:=rfl
theorem pf29:prg 29=some rf29:=rfl
theorem pf30:prg 30=some rf30:=rfl
theorem pf31:prg 31=some rf31:=rfl
theorem pf32:prg 32=some rf32:=rfl
theorem pf33:prg 33=some rf33:=rfl
theorem pf34:prg 34=some rf34:=rfl
theorem pf35:prg 35=some rf35:=rfl
theorem pf36:prg 36=some rf36:=rfl
theorem pf44:prg 44=some rf44:=rfl
theorem pf45:prg 45=some rf45:=rfl
theorem pf46:prg 46=some rf46:=rfl
theorem pf47:prg 47=some rf47:=rfl
theorem pf48:prg 48=some rf48:=rfl
theorem pf49:prg 49=some rf49:=rfl
theorem pf50:prg 50=some rf50:=rfl
theorem pf51:prg 51=some rf51:=rfl
theorem pf52:prg 52=some rf52:=rfl
theorem pf53:prg 53=some rf53:=rfl
theorem pf54:prg 54=some rf54:=rfl
theorem pf55:prg 55=some rf55:=rfl
theorem pf56:prg 56=some rf56:=rfl
theorem pf57:prg 57=some rf57:=rfl
theorem pf58:prg 58=some rf58:=rfl
theorem pf59:prg 59=some rf59:=rfl
theorem pf60:prg 60=some rf60:=rfl
theorem pf61:prg 61=some rf61:=rfl
theorem pf62:prg 62=some rf62:=rfl
theorem pf64:prg 64=some rf64:=rfl
theorem pf65:prg 65=some rf65:=rfl
theorem pf66:prg 66=some rf66:=rfl
theorem pf67:prg 67=some rf67:=rfl
theorem pf68:prg 68=some rf68:=rfl
theorem pf69:prg 69=some rf69:=rfl
theorem pf76:prg 76=some rf76:=rfl
theorem pf77:prg 77=some rf77:=rfl
theorem pf78:prg 78=some rf78:=rfl
theorem pf79:prg 79=some rf79:=rfl
theorem pf80:prg 80=some rf80:=rfl
theorem pf81:prg 81=some rf81:=rfl
theorem pf82:prg 82=some rf82:=rfl
theorem pf83:prg 83=some rf83:=rfl
theorem pf84:prg 84=some rf84:=rfl
theorem pf85:prg 85=some rf85:=rfl
theorem pf86:prg 86=some rf86:=rfl
theorem pf87:prg 87=some rf87:=rfl
theorem pf88:prg 88=some rf88:=rfl
theorem pf89:prg 89=some rf89:=rfl
theorem pf90:prg 90=some rf90:=rfl
theorem pf91:prg 91=some rf91:=rfl
theorem pf92:prg 92=some rf92:=rfl
theorem pf93:prg 93=some rf93:=rfl
theorem pf94:prg 94=some rf94:=rfl
theorem pf95:prg 95=some rf95:=rfl
theorem pf96:prg 96=some rf96:=rfl
theorem pf97:prg 97=some rf97:=rfl
theorem pf98:prg 98=some rf98:=rfl
theorem pf99:prg 99=some rf99:=rfl
theorem pf100:prg 100=some rf100:=rfl
theorem pf101:prg 101=some rf101:=rfl
theorem pf104:prg 104=some rf104:=rfl
theorem pf114:prg 114=some rf114:=rfl
theorem pf115:prg 115=some rf115:=rfl
theorem pf116:prg 116=some rf116:=rfl
theorem pf124:prg 124=some rf124:=rfl
theorem pf125:prg 125=some rf125:=rfl
theorem pf126:prg 126=some rf126:=rfl
theorem pf127:prg 127=some rf127:=rfl
theorem pf128:prg 128=some rf128:=rfl
theorem pf129:prg 129=some rf129:=rfl
theorem ps51:prg (51+mF)=some rL:=rfl
theorem ps62:prg (62+mF)=some (qr 63):=rfl
theorem det:Det (vL Tryz.prog mks) prg:=JU (by simp only[mks,xl];exact⟨rfl,rfl,λ_ h=>by cases h⟩) rfl ⟨cf3,cf4,cf5,cf6,cf7,cf8,cf9,cf10,cf11,cf12,cf13,cf14,cf15,cf16,cf17,cf18,cf19,cf20,cf21,cf22,cf23,cf24,cf25,cf26,cf27,cf28,cf29,cf30,cf31,cf32,cf33,cf34,cf35,cf36,cf37,cf38,cf39,cf40,cf41,cf42,cf43,cf44,cf45,cf46,cf47,cf48,cf49,cf50,cf51,cf52,cf53,cf54,cf55,cf56,cf57,cf58,cf59,cf60,cf61,cf62,cf64,cf65,cf66,cf67,cf68,cf69,cf70,cf71,cf72,cf73,cf74,cf75,cf76,cf77,cf78,cf79,cf80,cf81,cf82,cf83,cf84,cf85,cf86,cf87,cf88,cf89,cf90,cf91,cf92,cf93,cf94,cf95,cf96,cf97,cf98,cf99,cf100,cf101,cf102,cf103,cf104,cf110,cf114,cf115,cf116,cf124,cf125,cf126,cf127,cf128,cf129,cf131,cf137,cf141,trivial⟩
open Go.Am
open Go.RowKit
theorem BO(xs:List Int):xs.flatMap eI=xs.map (AV.int .i64):=by
 induction xs with
 |nil=>rfl
 |cons x r ih=>rw[fT,ih];rfl
theorem vA{α:Type}{f:α->List AV}{b:Nat}{xs:List α}{ro:Bool}(hf:∀x,(f x).length=e)(hg:h.get b=some (.cells (xs.flatMap f) e ro))(hn:n=xs.length):Sl h e (.sl b 0 n n) (xs.map f):=by
 subst hn;have hl:=fQ hf xs;refine .inr ⟨b,0,xs.length,_,ro,by rw[ah],hg,by rw[ah];exact ab _,by rw[ah,hl];omega,λi x hx=>?_⟩;rw[aE]at hx;obtain⟨y,hy,rfl⟩:=aA.1 hx;rw[bL];exact wz hf xs i y hy
def oA:List Int->List (Int×Int)
 |x::y::r=>(x,y)::oA r
 |_=>[]
theorem sM:∀(n:Nat) (ns:List Int),ns.length=n*2->(oA ns).flatMap eE=ns.map (AV.int .i64)/\(oA ns).length=n
 |0,[],_=>⟨rfl,rfl⟩
 |n+1,x::y::r,h=>by
   have ih:=sM n r (by simp only[aq]at h;omega);refine⟨?_,?_⟩
   .simp only[oA,fT,eE,bI,aB,aW];rw[<-ih.1]
   .simp only[oA,aq,ih.2]
 |0,_::_,h=>by simp at h
 |n+1,[],h=>by simp at h
 |n+1,[x],h=>by simp only[aq,aK]at h;omega
theorem rowE1(r:Rep K σ h w)(hB:K.B=w.heap.size){k:IntKind}(he:0<e){len:Nat}(hr:IsRowE k e w a len cap zs)(hspot:∀x,a=some x->x.spot=none) :
 ∃σ' o v,σ.le σ'/\Rep K σ' (h.new o) w/\VR σ' v (.slice a len cap)/\((v=.nils/\len=0)\/(v=.sl h.next 0 len len/\o=.cells ((zs.take (len*e)).map (AV.int k)) e true/\(zs.take (len*e)).length=len*e)):=by
 rcases hr with⟨rfl,rfl,rfl,rfl⟩|⟨x,rfl,h1,h2,h3,h4,h5⟩
 .obtain⟨σ',q1,q2⟩:=r.dummy;exact⟨σ',_,.nils,q1,q2,by simp[VR],.inl ⟨rfl,rfl⟩⟩
 .have hsp:=hspot x rfl;have hadd:∀j,x.add j=⟨x.block,x.off+j,none⟩:=by
   intro j;obtain⟨xb,xo,xs⟩:=x;simp only at hsp;subst hsp;exact Addr.add_lit _ _ _
  have hle:len*e<=cap*e:=gI e h1;have hl:(zs.take (len*e)).length=len*e:=by rw[bB];omega
  cases zs with
  |nil =>
    simp only[aK]at h3;have e2:cap=0:=by
     rcases Nat.eq_zero_or_pos cap with q|q
     .exact q
     .have:=Nat.mul_pos q he;omega
    have e1:len=0:=om;subst e1;subst e2;refine⟨σ.add h.next ⟨x.block,x.off,e,0,0⟩,.cells [] e true,.sl h.next 0 0 0,Sg.le_add r.fresh,r.came [] e _ rfl (.inl rfl),?_,.inr ⟨rfl,by rw[nP];rfl,hl⟩⟩;simp only[VR];exact⟨_,x.off,0,Sg.add_at _ _ _,by obtain⟨xb,xo,xs⟩:=x;simp only at hsp;subst hsp;rfl,.inl trivial,ab _,ab _,.inl rfl⟩
  |cons z zs =>
    have h40:=h4 0 (by simp);rw[hadd]at h40;unfold World.cell? at h40;simp only at h40;split at h40
    .rename_i C t fr hC
     have hall:∀i,i<(z::zs).length->C[x.off+i]?=some (.int k ((z::zs).getD i 0)):=by
      intro i hi;have:=h4 i hi;rw[hadd]at this;simpa[World.cell?,hC]using this
     have hN:x.off+cap*e<=C.size:=by
      have:=hall (cap*e-1) (by simp at h3 |-;omega);have hlt:=(cx.1 this).1;simp at h3;omega
     have hblk:x.block<w.heap.size:=(cx.1 hC).1;refine⟨σ.add h.next ⟨x.block,x.off,e,C.size,t⟩,.cells (((z::zs).take (len*e)).map (AV.int k)) e true,.sl h.next 0 len len,Sg.le_add r.fresh,r.came _ e _ rfl (.inr ⟨by rw[hB];exact hblk,fun τ _=>?_⟩),?_,.inr ⟨rfl,rfl,hl⟩⟩
     .refine⟨C,t,fr,hC,rfl,rfl,?_,λj y hy=>?_,λq=>by (cases q),rfl⟩
      .show x.off+_<=C.size;rw[ah,hl];omega
      .have hj:j<len*e:=by
        rcases dV j (len*e)with q|q
        .exact q
        .rw[bO (by rw[ah,hl];exact q)]at hy;cases hy
       rw[aE,cF,if_pos hj]at hy;refine⟨.int k ((z::zs).getD j 0),hall j om,?_⟩;rw[aH];cases hq:(z::zs)[j]? with
       |none=>rw[hq]at hy;cases hy
       |some u=>rw[hq]at hy;simp only[aF,aa]at hy;subst hy;simp[VR]
     .simp only[VR];refine⟨_,x.off,cap,Sg.add_at _ _ _,by obtain⟨xb,xo,xs⟩:=x;simp only at hsp;subst hsp;rfl,.inr (by simp),h1,ab _,.inr ⟨ab _,?_⟩⟩;show x.off+cap*e<=C.size;omega
    .cases h40
theorem KN(r:Rep K σ h w)(hB:K.B=w.heap.size){len:Nat}(hr:IsRowE .i64 1 w a len cap zs) :
 ∃σ' o v,σ.le σ'/\Rep K σ' (h.new o) w/\VR σ' v (.slice a len cap)/\fY v=some (.int .i64 (len:Nat))/\SlI (h.new o) v (zs.take len):=by
 have hrow:len<=cap/\zs.length=cap/\(a=none->cap=0)/\∀x,a=some x->∀i,i<cap->w.cell? (x.add i)=some (.int .i64 (zs.getD i 0)):=by
  rcases hr with⟨rfl,rfl,rfl,rfl⟩|⟨x,rfl,h1,h2,h3,h4,h5⟩
  .exact⟨ab _,rfl,λ_=>rfl,(λx hx=>by cases hx)⟩
  .rw[aM]at h3;exact⟨h1,h3,(λh=>by cases h),(λy hy i hi=>by cases hy;exact h4 i om)⟩
 obtain⟨q1,q2,q3,q4⟩:=hrow;obtain⟨σ',o,v,b1,b2,b3,b4⟩:=r.rowB hB q1 q2 q3 q4;refine⟨σ',o,v,b1,b2,b3,?_⟩;rcases b4 with⟨h1|h1,h2⟩|⟨h1,h2⟩
 .subst h1 h2;exact⟨rfl,.inl ⟨by simp,.inl rfl⟩⟩
 .subst h1 h2;exact⟨rfl,.inl ⟨by simp,.inr rfl⟩⟩
 .subst h1 h2;refine⟨rfl,vA (f:=eI) (ro:=true) (λ_=>rfl) ?_ (by rw[bB];omega)⟩;rw[AH.get_new,if_pos rfl,BO]
theorem lH:∀b x,h.get b=some x->(h.new o).get b=some x:=λb x hb=>by
 rw[AH.get_new,if_neg (by have:=AH.lt_of_get hb;omega)];exact hb
open Go.Am
theorem kN{α:Type}(p:List Bool)(x:α):(T.nil:T α).set p x=(T.node .nil none .nil).set p x:=by
 cases p with
 |nil=>rfl
 |cons b p=>cases b<;>rfl
theorem set_same{α:Type}(x y:α):∀(p:List Bool) (t:T α),(t.set p x).set p y=t.set p y:=by
 intro p;induction p with
 |nil =>
   intro t;cases t<;>rfl
 |cons b p ih =>
   intro t;cases t with
   |nil =>
     rw[kN,kN (b::p) y];have i0:=ih .nil;simp only[T.set]at i0;cases b<;>simp only[T.set,i0]
   |node l v r=>cases b<;>simp only[T.set,ih]
theorem set_comm{α:Type}(x y:α):∀(p q:List Bool) (t:T α),p≠q->(t.set p x).set q y=(t.set q y).set p x:=by
 intro p;induction p with
 |nil =>
   intro q t h;cases q with
   |nil=>exact absurd rfl h
   |cons b q =>
     cases t with
     |nil =>
       rw[kN,kN (b::q) y];cases b<;>rfl
     |node l v r=>cases b<;>rfl
 |cons a p ih =>
   intro q t h;cases q with
   |nil =>
     cases t with
     |nil =>
       rw[kN,kN [] y];cases a<;>rfl
     |node l v r=>cases a<;>rfl
   |cons b q =>
     have key:∀(l r:T α) (v:Option α),((T.node l v r).set (a::p) x).set (b::q) y=((T.node l v r).set (b::q) y).set (a::p) x:=by
      intro l r v;cases a<;>cases b
      .simp only[T.set];rw[ih q r (λe=>h (by rw[e]))]
      .simp only[T.set]
      .simp only[T.set]
      .simp only[T.set];rw[ih q l (λe=>h (by rw[e]))]
     cases t with
     |nil =>
       rw[kN,kN (b::q) y];exact key _ _ _
     |node l v r=>exact key _ _ _
theorem Br(h:m≠n):fX m≠fX n:=λe=>h (gQ.1 e)
theorem Jc{a:AO}(hm:m≠h.next):(h.new a).put m o=(h.put m o).new a:=by
 unfold AH.put AH.new;simp only;rw[set_comm _ _ _ _ _ (Br (Ne.symm hm))]
theorem Jr{a:AO}:(h.new a).put h.next o=h.new o:=by
 unfold AH.put AH.new;simp only;rw[set_same]
theorem yx:∀(k:Nat) (h:AH) (m:Nat) (o:AO),m<h.next->(h.keep k).put m o=(h.put m o).keep k
 |0,_,_,_,_=>rfl
 |k+1,h,m,o,hm=>by
   show((h.new .resv).keep k).put m o=((h.put m o).new .resv).keep k;rw[yx k (h.new .resv) m o (by simp;omega),Jc om]
theorem Jb{a:AO}(hmn:m≠n):(h.put m a).put n b=(h.put n b).put m a:=by
 unfold AH.put;simp only;rw[set_comm _ _ _ _ _ (Br hmn)]
def pG:List AO->Nat->List (Nat×AO×Option Nat)
 |[],_=>[]
 |o::r,n=>(n,o,none)::pG r (n+1)
theorem xq:∀(os:List AO) (n:Nat),(pG os n).map (·.1)=List.range' n os.length
 |[],n=>rfl
 |o::r,n=>by rw[pG,bI,xq r,aq,List.range'_succ]
theorem xV:∀(Z:List AO) (n:Nat) (h:AH) (m:Nat) (o:AO),m<n->lj (pG Z n) (h.put m o)=(lj (pG Z n) h).put m o
 |[],_,_,_,_,_=>rfl
 |a::r,n,h,m,o,hm=>by
   show((lj (pG r (n+1)) (h.put m o))).put n a=(((lj (pG r (n+1)) h)).put n a).put m o;rw[xV r (n+1) h m o om,Jb om]
theorem uq:∀(os:List AO) (h:AH),news os h=lj (pG os h.next) (h.keep os.length)
 |[],h=>rfl
 |o::r,h=>by
   show news r (h.new o)=(lj (pG r (h.next+1)) ((h.new .resv).keep r.length)).put h.next o;rw[uq r (h.new o),<-xV _ _ _ _ _ om,yx _ _ _ _ (by simp),Jr];rfl
theorem Sl.stay{h h':AH}{e:Nat}{v:AV}{xs:List (List AV)}(hk:∀b o,h.get b=some o->h'.get b=some o)(hs:Sl h e v xs):Sl h' e v xs:=by
 rcases hs with hs|⟨b,o,c,cs,ro,h1,h2,h3⟩
 .exact .inl hs
 .exact .inr ⟨b,o,c,cs,ro,h1,hk _ _ h2,h3⟩
theorem sk{a:AO}:((news os h).new a).new b=news (os++[a,b]) h:=by
 induction os generalizing h with
 |nil=>rfl
 |cons o r ih=>exact ih
theorem Cs{f:FuncId}{S0:AH}(hg:jg prg ⟨.call f [] S0,[]⟩)(hS:S0=AH.zero.keep m)(hl:os.length=m)(hm:0<m) :
 C prg f [] (news os AH.zero) λv h'=>v=.bool true/\8+m<=h'.next/\∀b o,(news os AH.zero).get b=some o->h'.get b=some o:=by
 have he:news os AH.zero=lj (pG os 8) S0:=by
  rw[uq,hl,hS];rfl
 have hfst:(pG os 8).map (·.1)=List.range' 8 m:=by rw[xq,hl]
 have hmem:∀b,b∈(pG os 8).map (·.1)↔8<=b/\b<8+m:=λb=>by
  rw[hfst,List.mem_range'_1]
 have h8:AH.zero.next=8:=rfl;rw[he];refine(C.of_goodS hg (pG os 8) (by rw[hfst];exact List.nodup_range') (λx hx=>?_)).mono λv h' ⟨e1,e2⟩=>⟨e1,?_,λb o hb=>?_⟩
 .have:=(hmem x.1).1 (bA.2 ⟨x,hx,rfl⟩);rw[hS,AH.keep_get,if_pos ⟨om,om⟩]
 .have:=(e2 (8+m-1) ((hmem _).2 om)).1;omega
 .have hbl:b<8+m:=by
   have:=AH.lt_of_get hb;rw[jZ,hS,AH.keep_next]at this;omega
  by_cases h8:8<=b
  .rw[(e2 b ((hmem b).2 ⟨h8,hbl⟩)).2];exact hb
  .exfalso;rw[<-he,sm _ _ _ (show b<AH.zero.next from by show b<8;omega),AH.get_zero]at hb;cases hb
open Go.Am
theorem GP{a b:Int×Int}:fw .eql (.flat [.i64,.i64]) (.agg (eE a)) (.agg (eE b))=some (.bool (a==b)):=by
 obtain⟨a1,a2⟩:=a;obtain⟨b1,b2⟩:=b;show Option.map AV.bool (jd (.flat [.i64,.i64]) (.agg (eE (a1,a2))) (.agg (eE (b1,b2))))=_;simp only[jd,eqF,eE,fz,and_self,if_true];by_cases h1:a1=b1
 .subst h1;by_cases h2:a2=b2
  .subst h2;simp
  .simp[h2]
 .simp[h1]
theorem yD{P:Int×Int->Bool}(hv:SlE h v xs)(hl:xs.length<2^40)
 (hf:∀x∈xs,∀h',Ext h.next h h'->C prg k ([.agg (eE x)]++caps) h' λr h''=>r=.bool (P x)/\Ext h'.next h' h'') :
 C prg 45 [v,.fn k caps] h λr h'=>r=.int .i64 (eM P xs 0)/\Ext h.next h h':=by
 refine Me pf45 ?_;have hlen:=hv.len;rw[ah]at hlen;refine ae (ar (Mi0) ?_);refine ae (ae (ar (Mi1 hlen) ?_));refine ae (pA (λts h1=>eM P xs 0=-1/\Ext h.next h h1) (cE (fI (λn ts h1=>∃i,n=xs.length-i/\i<=xs.length/\Ext h.next h h1/\eM P (xs.drop i) i=eM P xs 0/\bz ts 0=v/\bz ts 1=.fn k caps/\bz ts 7=.int .i64 (xs.length:Nat)/\bz ts 8=.int .i64 (i:Nat)) ?_ (n:=xs.length) ⟨0,rfl,dA _,Mc,by rw[bQ],Ii0,Ii0,Ii0,by simp only[am,aD,↓reduceIte,Nat.reduceEqDiff,Int.reduceEq,Nat.reduceAdd,Nat.reduceLeDiff,reduceCtorEq,bE];rfl⟩)) ?_)
 .rintro n ts h1 ⟨i,rfl,hi,ex,hF,e0,e1,e7,e8⟩;refine ae (ar (M2 e7 e8) ?_);refine ae (dY (t:=decide (i<xs.length)) (Z1 @jJ) (λq=>?_) λq=>?_)
  .have q:i<xs.length:=bN q;obtain⟨b,p,a1,r1,_,_⟩:=(hv.ext ex (ab _)).at (eJ (f:=eE) q);refine bK (ae (cE (ae (ar (M1 e8) ?_))));have hc:=hf _ (aZ q) h1 ex;refine ae (bM (jK 5 (M6 e0 e1 e7 e8 a1 r1) rfl (Z6 e0 e1 e7 e8 a1 r1) (M6 e0 e1 e7 e8 a1 r1) (M6 e0 e1 e7 e8 a1 r1) (hc) λr h2 hq=>?_));obtain⟨rfl,ex2⟩:=hq;have ex3:=ex.trans (ex2.mono ex.nx);refine bF (M0) ?_;refine dY (t:=P xs[i]) (Z0) (λq2=>?_) λq2=>?_
   .refine ae (ar (M0) ?_);refine bG ⟨.int .i64 (i:Nat),(by simp only[rs,rf45,am,aD,simprocAttr]<;>rfl),?_,ex3⟩;rw[<-hF,fN P q,if_pos q2]
   .have w1:IntKind.i64.wrap (((i:Nat):Int)+1)=((i+1:Nat):Int):=fW om om;refine bK (ar (M2 e8 w1) ?_);refine⟨xs.length-(i+1),om,i+1,rfl,om,ex3,?_,Z1 e0,Z1 e1,Z1 e7,Z2 e8 w1⟩;rw[<-hF,fN P q,if_neg (by simp[q2])]
  .have q:¬i<xs.length:=cM q;refine fh ⟨λ_=>⟨?_,ex⟩,λe=>absurd rfl e⟩;rw[<-hF,cW om];rfl
 .rintro ts h1 ⟨hF,ex⟩;refine ae (ar (M0) ?_);exact bG ⟨.int .i64 (-1),(by simp only[rs,rf45,am,aD,simprocAttr]<;>rfl),by rw[hF],ex⟩
theorem Gy{xs:List (Int)}{P:Int->Bool}(hv:SlI h v xs)(hl:xs.length<2^40)
 (hf:∀x∈xs,∀h',Ext h.next h h'->C prg k ([.int .i64 x]++caps) h' λr h''=>r=.bool (P x)/\Ext h'.next h' h'') :
 C prg 79 [v,.fn k caps] h λr h'=>r=.int .i64 (eM P xs 0)/\Ext h.next h h':=by
 refine Me pf79 ?_;have hlen:=hv.len;rw[ah]at hlen;refine ae (ar (Mi0) ?_);refine ae (ae (ar (Mi1 hlen) ?_));refine ae (pA (λts h1=>eM P xs 0=-1/\Ext h.next h h1) (cE (fI (λn ts h1=>∃i,n=xs.length-i/\i<=xs.length/\Ext h.next h h1/\eM P (xs.drop i) i=eM P xs 0/\bz ts 0=v/\bz ts 1=.fn k caps/\bz ts 7=.int .i64 (xs.length:Nat)/\bz ts 8=.int .i64 (i:Nat)) ?_ (n:=xs.length) ⟨0,rfl,dA _,Mc,by rw[bQ],Ii0,Ii0,Ii0,by simp only[am,aD,↓reduceIte,Nat.reduceEqDiff,Int.reduceEq,Nat.reduceAdd,Nat.reduceLeDiff,reduceCtorEq,bE];rfl⟩)) ?_)
 .rintro n ts h1 ⟨i,rfl,hi,ex,hF,e0,e1,e7,e8⟩;refine ae (ar (M2 e7 e8) ?_);refine ae (dY (t:=decide (i<xs.length)) (Z1 @jJ) (λq=>?_) λq=>?_)
  .have q:i<xs.length:=bN q;obtain⟨b,p,a1,r1,_,_⟩:=(hv.ext ex (ab _)).at (eJ (f:=eI) q);refine bK (ae (cE (ae (ar (M1 e8) ?_))));have hc:=hf _ (aZ q) h1 ex;refine ae (bM (jK 5 (by simp only[am,aD,simprocAttr,e0,e1,e7,e8,a1,r1,gZ,eI]<;>rfl) rfl (by simp only[am,aD,simprocAttr,e0,e1,e7,e8,a1,r1,gZ,eI]) (by simp only[am,aD,simprocAttr,e0,e1,e7,e8,a1,r1,gZ,eI]<;>rfl) (by simp only[am,aD,simprocAttr,e0,e1,e7,e8,a1,r1,gZ,eI]<;>rfl) (hc) λr h2 hq=>?_));obtain⟨rfl,ex2⟩:=hq;have ex3:=ex.trans (ex2.mono ex.nx);refine bF (M0) ?_;refine dY (t:=P xs[i]) (Z0) (λq2=>?_) λq2=>?_
   .refine ae (ar (M0) ?_);refine bG ⟨.int .i64 (i:Nat),(by simp only[rs,rf79,am,aD,simprocAttr]<;>rfl),?_,ex3⟩;rw[<-hF,fN P q,if_pos q2]
   .have w1:IntKind.i64.wrap (((i:Nat):Int)+1)=((i+1:Nat):Int):=fW om om;refine bK (ar (M2 e8 w1) ?_);refine⟨xs.length-(i+1),om,i+1,rfl,om,ex3,?_,Z1 e0,Z1 e1,Z1 e7,Z2 e8 w1⟩;rw[<-hF,fN P q,if_neg (by simp[q2])]
  .have q:¬i<xs.length:=cM q;refine fh ⟨λ_=>⟨?_,ex⟩,λe=>absurd rfl e⟩;rw[<-hF,cW om];rfl
 .rintro ts h1 ⟨hF,ex⟩;refine ae (ar (M0) ?_);exact bG ⟨.int .i64 (-1),(by simp only[rs,rf79,am,aD,simprocAttr]<;>rfl),by rw[hF],ex⟩
theorem Gw{xs:List (Int×Int×Int)}(hv:SlT h v xs)(hl:xs.length<2^40)
 (hf:∀x∈xs,∀h',Ext h.next h h'->C prg k ([.agg (eT x)]++caps) h' λr h''=>r=.bool (P x)/\Ext h'.next h' h'') :
 C prg 115 [v,.fn k caps] h λr h'=>r=.int .i64 (eM P xs 0)/\Ext h.next h h':=by
 refine Me pf115 ?_;have hlen:=hv.len;rw[ah]at hlen;refine ae (ar (Mi0) ?_);refine ae (ae (ar (Mi1 hlen) ?_));refine ae (pA (λts h1=>eM P xs 0=-1/\Ext h.next h h1) (cE (fI (λn ts h1=>∃i,n=xs.length-i/\i<=xs.length/\Ext h.next h h1/\eM P (xs.drop i) i=eM P xs 0/\bz ts 0=v/\bz ts 1=.fn k caps/\bz ts 7=.int .i64 (xs.length:Nat)/\bz ts 8=.int .i64 (i:Nat)) ?_ (n:=xs.length) ⟨0,rfl,dA _,Mc,by rw[bQ],Ii0,Ii0,Ii0,by simp only[am,aD,↓reduceIte,Nat.reduceEqDiff,Int.reduceEq,Nat.reduceAdd,Nat.reduceLeDiff,reduceCtorEq,bE];rfl⟩)) ?_)
 .rintro n ts h1 ⟨i,rfl,hi,ex,hF,e0,e1,e7,e8⟩;refine ae (ar (M2 e7 e8) ?_);refine ae (dY (t:=decide (i<xs.length)) (Z1 @jJ) (λq=>?_) λq=>?_)
  .have q:i<xs.length:=bN q;obtain⟨b,p,a1,r1,_,_⟩:=(hv.ext ex (ab _)).at (eJ (f:=eT) q);refine bK (ae (cE (ae (ar (M1 e8) ?_))));have hc:=hf _ (aZ q) h1 ex;refine ae (bM (jK 5 (M6 e0 e1 e7 e8 a1 r1) rfl (Z6 e0 e1 e7 e8 a1 r1) (M6 e0 e1 e7 e8 a1 r1) (M6 e0 e1 e7 e8 a1 r1) (hc) λr h2 hq=>?_));obtain⟨rfl,ex2⟩:=hq;have ex3:=ex.trans (ex2.mono ex.nx);refine bF (M0) ?_;refine dY (t:=P xs[i]) (Z0) (λq2=>?_) λq2=>?_
   .refine ae (ar (M0) ?_);refine bG ⟨.int .i64 (i:Nat),(by simp only[rs,rf115,am,aD,simprocAttr]<;>rfl),?_,ex3⟩;rw[<-hF,fN P q,if_pos q2]
   .have w1:IntKind.i64.wrap (((i:Nat):Int)+1)=((i+1:Nat):Int):=fW om om;refine bK (ar (M2 e8 w1) ?_);refine⟨xs.length-(i+1),om,i+1,rfl,om,ex3,?_,Z1 e0,Z1 e1,Z1 e7,Z2 e8 w1⟩;rw[<-hF,fN P q,if_neg (by simp[q2])]
  .have q:¬i<xs.length:=cM q;refine fh ⟨λ_=>⟨?_,ex⟩,λe=>absurd rfl e⟩;rw[<-hF,cW om];rfl
 .rintro ts h1 ⟨hF,ex⟩;refine ae (ar (M0) ?_);exact bG ⟨.int .i64 (-1),(by simp only[rs,rf115,am,aD,simprocAttr]<;>rfl),by rw[hF],ex⟩
theorem uV{P:Int×Int->Bool}(hv:SlE h v xs)(hl:xs.length<2^40)
 (hf:∀x∈xs,∀h',Ext h.next h h'->C prg k ([.agg (eE x)]++caps) h' λr h''=>r=.bool (P x)/\Ext h'.next h' h'') :
 C prg 55 [v,.fn k caps] h λr h'=>r=.bool (xs.any P)/\Ext h.next h h':=by
 refine Me pf55 ?_;refine ae (ar (Mi0) ?_);refine ae (bM (aV 2 (Mi0) rfl (Zi0) (Mi0) (yD hv hl hf) λr h2 hq=>?_));obtain⟨rfl,ex⟩:=hq;have hb:decide ((0:Int)<=eM P xs 0)=xs.any P:=by
  have:=(jB P xs 0).2;cases hq:xs.any P with
  |true=>rw[aI];rw[hq]at this;simp at this;omega
  |false=>rw[aO];have:=this.2 hq;omega
 refine bF (M1 hb) ?_;exact bG ⟨_,(by simp only[rs,rf55,am,aD,simprocAttr]<;>rfl),rfl,ex⟩
theorem DJ{xs:List (Int×Int×Int)}(hv:SlT h v xs)(hl:xs.length<2^40)
 (hf:∀x∈xs,∀h',Ext h.next h h'->C prg k ([.agg (eT x)]++caps) h' λr h''=>r=.bool (P x)/\Ext h'.next h' h'') :
 C prg 87 [v,.fn k caps] h λr h'=>r=.bool (xs.any P)/\Ext h.next h h':=by
 refine Me pf87 ?_;refine ae (ar (Mi0) ?_);refine ae (bM (aV 2 (Mi0) rfl (Zi0) (Mi0) (Gw hv hl hf) λr h2 hq=>?_));obtain⟨rfl,ex⟩:=hq;have hb:decide ((0:Int)<=eM P xs 0)=xs.any P:=by
  have:=(jB P xs 0).2;cases hq:xs.any P with
  |true=>rw[aI];rw[hq]at this;simp at this;omega
  |false=>rw[aO];have:=this.2 hq;omega
 refine bF (M1 hb) ?_;exact bG ⟨_,(by simp only[rs,rf87,am,aD,simprocAttr]<;>rfl),rfl,ex⟩
theorem lY{xs:List (Int)}{y:Int}(hv:SlI h v xs)(hl:xs.length<2^40) :
 C prg 68 [v,.int .i64 y] h λr h'=>r=.int .i64 (eM (y==·) xs 0)/\Ext h.next h h':=by
 refine Me pf68 ?_;have hlen:=hv.len;rw[ah]at hlen;have ex0:Ext h.next h h:=Mc;refine ae (ar (Mi0) ?_);refine ae (ae (ar (Mi1 hlen) ?_));refine ae (pA (λts h1=>eM (y==·) xs 0=-1/\h1=h) (cE (fI (λn ts h1=>∃i,n=xs.length-i/\i<=xs.length/\h1=h/\eM (y==·) (xs.drop i) i=eM (y==·) xs 0/\bz ts 0=v/\bz ts 1=.int .i64 y/\bz ts 7=.int .i64 (xs.length:Nat)/\bz ts 8=.int .i64 (i:Nat)) ?_ (n:=xs.length) ⟨0,rfl,dA _,rfl,by rw[bQ],Ii0,Ii0,Ii0,by simp only[am,aD,↓reduceIte,Nat.reduceEqDiff,Int.reduceEq,Nat.reduceAdd,Nat.reduceLeDiff,reduceCtorEq,bE];rfl⟩)) ?_)
 .rintro n ts h1 ⟨i,rfl,hi,rfl,hF,e0,ek,e7,e8⟩;refine ae (ar (M2 e7 e8) ?_);refine ae (dY (t:=decide (i<xs.length)) (Z1 @jJ) (λq=>?_) λq=>?_)
  .have q:i<xs.length:=bN q;obtain⟨b,p,a1,r1,_,_⟩:=(hv.ext ex0 (ab _)).at (eJ (f:=eI) q);refine bK (ae (cE (ae (ar (M1 e8) ?_))));have ceq:decide (y=xs[i])=(y==xs[i]):=rfl;refine ae (ar (by simp only[am,aD,simprocAttr,e0,ek,e7,e8,a1,r1,ceq,eI]<;>rfl) ?_);refine dY (t:=y==xs[i]) (Z0) (λq2=>?_) λq2=>?_
   .refine ae (ar (M0) ?_);refine bG ⟨.int .i64 (i:Nat),(by simp only[rs,rf68,am,aD,simprocAttr]<;>rfl),?_,ex0⟩;rw[<-hF,fN _ q,if_pos q2]
   .have w1:IntKind.i64.wrap (((i:Nat):Int)+1)=((i+1:Nat):Int):=fW om om;refine bK (ar (M2 e8 w1) ?_);refine⟨xs.length-(i+1),om,i+1,rfl,om,rfl,?_,Z1 e0,Z1 ek,Z1 e7,Z2 e8 w1⟩;rw[<-hF,fN _ q,if_neg (by simp[q2])]
  .have q:¬i<xs.length:=cM q;refine fh ⟨λ_=>⟨?_,rfl⟩,λe=>absurd rfl e⟩;rw[<-hF,cW om];rfl
 .rintro ts h1 ⟨hF,rfl⟩;refine ae (ar (M0) ?_);exact bG ⟨.int .i64 (-1),(by simp only[rs,rf68,am,aD,simprocAttr]<;>rfl),by rw[hF],ex0⟩
theorem JK(hv:SlE h v xs)(hl:xs.length<2^40) :
 C prg 77 [v,.agg (eE y)] h λr h'=>r=.int .i64 (eM (y==·) xs 0)/\Ext h.next h h':=by
 refine Me pf77 ?_;have hlen:=hv.len;rw[ah]at hlen;have hlen':[AV.int .i64 y.1,.int .i64 y.2].length=2:=rfl;refine ae (ar (by simp only[am,aD,simprocAttr,bE,eE]<;>rfl) ?_);have ex0:Ext h.next h (h.new (.cells [.int .i64 y.1,.int .i64 y.2] 2 false)):=Mb (ab _);have rb:ak (h.new (.cells [.int .i64 y.1,.int .i64 y.2] 2 false)) h.next 0 2=some [.int .i64 y.1,.int .i64 y.2]:=by rw[aU (by rw[AH.get_new,if_pos rfl])];rfl
 have hlt:h.next<(h.new (.cells [.int .i64 y.1,.int .i64 y.2] 2 false)).next:=by simp
 generalize h.new (.cells [.int .i64 y.1,.int .i64 y.2] 2 false)=h0 at *
 refine ae (ae (ar (Mi1 hlen) ?_));refine ae (pA (λts h1=>eM (y==·) xs 0=-1/\h1=h0) (cE (fI (λn ts h1=>∃i,n=xs.length-i/\i<=xs.length/\h1=h0/\eM (y==·) (xs.drop i) i=eM (y==·) xs 0/\bz ts 0=v/\bz ts 3=.ptr h.next 0/\bz ts 7=.int .i64 (xs.length:Nat)/\bz ts 8=.int .i64 (i:Nat)) ?_ (n:=xs.length) ⟨0,rfl,dA _,rfl,by rw[bQ],Ii0,Ii0,Ii0,by simp only[am,aD,↓reduceIte,Nat.reduceEqDiff,Int.reduceEq,Nat.reduceAdd,Nat.reduceLeDiff,reduceCtorEq,bE];rfl⟩)) ?_)
 .rintro n ts h1 ⟨i,rfl,hi,rfl,hF,e0,ek,e7,e8⟩;refine ae (ar (M2 e7 e8) ?_);refine ae (dY (t:=decide (i<xs.length)) (Z1 @jJ) (λq=>?_) λq=>?_)
  .have q:i<xs.length:=bN q;obtain⟨b,p,a1,r1,_,_⟩:=(hv.ext ex0 (ab _)).at (eJ (f:=eE) q);refine bK (ae (cE (ae (ar (M1 e8) ?_))));have ceq:fw .eql (.flat [.i64,.i64]) (.agg [.int .i64 y.1,.int .i64 y.2]) (.agg [.int .i64 xs[i].1,.int .i64 xs[i].2])=some (.bool (y==xs[i])):=GP;refine ae (ar (by simp only[am,aD,simprocAttr,e0,ek,e7,e8,a1,r1,rb,ceq,eE]<;>rfl) ?_);refine dY (t:=y==xs[i]) (Z0) (λq2=>?_) λq2=>?_
   .refine ae (ar (M0) ?_);refine bG ⟨.int .i64 (i:Nat),(by simp only[rs,rf77,am,aD,simprocAttr]<;>rfl),?_,ex0⟩;rw[<-hF,fN _ q,if_pos q2]
   .have w1:IntKind.i64.wrap (((i:Nat):Int)+1)=((i+1:Nat):Int):=fW om om;refine bK (ar (M2 e8 w1) ?_);refine⟨xs.length-(i+1),om,i+1,rfl,om,rfl,?_,Z1 e0,Z1 ek,Z1 e7,Z2 e8 w1⟩;rw[<-hF,fN _ q,if_neg (by simp[q2])]
  .have q:¬i<xs.length:=cM q;refine fh ⟨λ_=>⟨?_,rfl⟩,λe=>absurd rfl e⟩;rw[<-hF,cW om];rfl
 .rintro ts h1 ⟨hF,rfl⟩;refine ae (ar (M0) ?_);exact bG ⟨.int .i64 (-1),(by simp only[rs,rf77,am,aD,simprocAttr]<;>rfl),by rw[hF],ex0⟩
theorem nh{xs:List (Int)}{y:Int}(hv:SlI h v xs)(hl:xs.length<2^40) :
 C prg 34 [v,.int .i64 y] h λr h'=>r=.bool (xs.any (y==·))/\Ext h.next h h':=by
 refine Me pf34 ?_;refine ae (ar (Mi0) ?_);have ex0:Ext h.next h h:=Mc;have hc:=lY (y:=y) hv hl;refine ae (bM (aV 2 (Mi0) rfl (Zi0) (Mi0) (hc) λr h2 hq=>?_));obtain⟨rfl,ex⟩:=hq;have hb:decide ((0:Int)<=eM (y==·) xs 0)=xs.any (y==·):=by
  have:=(jB (y==·) xs 0).2;cases hq:xs.any (y==·)with
  |true=>rw[aI];rw[hq]at this;simp at this;omega
  |false=>rw[aO];have:=this.2 hq;omega
 refine bF (M1 hb) ?_;exact bG ⟨_,(by simp only[rs,rf34,am,aD,simprocAttr]<;>rfl),rfl,ex0.trans (ex.mono ex0.nx)⟩
theorem Ha(hv:SlE h v xs)(hl:xs.length<2^40) :
 C prg 47 [v,.agg (eE y)] h λr h'=>r=.bool (xs.any (y==·))/\Ext h.next h h':=by
 refine Me pf47 ?_;refine ae (ar (by simp only[am,aD,simprocAttr,bE,eE]<;>rfl) ?_);have ex0:Ext h.next h (h.new (.cells [.int .i64 y.1,.int .i64 y.2] 2 false)):=Mb (ab _);have rb:ak (h.new (.cells [.int .i64 y.1,.int .i64 y.2] 2 false)) h.next 0 2=some [.int .i64 y.1,.int .i64 y.2]:=by rw[aU (by rw[AH.get_new,if_pos rfl])];rfl
 generalize h.new (.cells [.int .i64 y.1,.int .i64 y.2] 2 false)=h0 at *
 have hv0:=hv.ext ex0 (ab _);have hc:=JK (y:=y) hv0 hl;rw[show eE y=[.int .i64 y.1,.int .i64 y.2] from rfl]at hc;refine ae (bM (aV 2 (Mi1 rb) rfl (Zi1 rb) (Mi1 rb) (hc) λr h2 hq=>?_));obtain⟨rfl,ex⟩:=hq;have hb:decide ((0:Int)<=eM (y==·) xs 0)=xs.any (y==·):=by
  have:=(jB (y==·) xs 0).2;cases hq:xs.any (y==·)with
  |true=>rw[aI];rw[hq]at this;simp at this;omega
  |false=>rw[aO];have:=this.2 hq;omega
 refine bF (M1 hb) ?_;exact bG ⟨_,(by simp only[rs,rf47,am,aD,simprocAttr]<;>rfl),rfl,ex0.trans (ex.mono ex0.nx)⟩
open Go.Am
theorem Fu{xs:List Int}:(xs.flatMap eI).all AV.one=true:=by
 rw[cD];intro x hx;obtain⟨y,_,hy⟩:=dR.1 hx;simp only[eI,au,aR,or_false]at hy;subst hy;rfl
theorem Lk:(xs.flatMap eE).all AV.one=true:=by
 rw[cD];intro x hx;obtain⟨y,_,hy⟩:=dR.1 hx;simp only[eE,au,aR,or_false]at hy;rcases hy with rfl|rfl<;>rfl
theorem Ft{xs:List (Int×Int×Int)}:(xs.flatMap eT).all AV.one=true:=by
 rw[cD];intro x hx;obtain⟨y,_,hy⟩:=dR.1 hx;simp only[eT,au,aR,or_false]at hy;rcases hy with rfl|rfl|rfl<;>rfl
theorem wF{xs:List (List AV)}(hv:Sl h e v xs):∃b,fw .eql .nls v .nils=some (.bool b)/\(b=true->v=.nils/\xs=[])/\(b=false->v≠.nils):=by
 rcases hv with⟨rfl,rfl|rfl⟩|⟨b,o,c,cs,ro,rfl,hg,hc,hle,hx⟩
 .exact⟨true,rfl,λ_=>⟨rfl,rfl⟩,λq=>by cases q⟩
 .exact⟨false,rfl,λq=>(by cases q),λ_=>(by simp)⟩
 .exact⟨false,rfl,λq=>(by cases q),λ_=>(by simp)⟩
theorem wX{bytes:Nat}{xs:List (List AV)}(hv:Sl h e v xs)(ho:xs.flatten.all AV.one=true)(hl:xs.length*bytes<bd)(hl2:xs.length<bd) :
 ∃r h',iJ (h.new (.cells [] e false)) e bytes (.sl h.next 0 0 0) v=some (r,h')/\IsSl h' e h.next r xs.flatten/\Ext h.next h h'/\r≠.nils:=by
 have hv':=hv.ext (Mb (o:=.cells [] e false) (ab _)) (ab _);obtain⟨s1,s2⟩:=hv'.src;have g0:(h.new (.cells [] e false)).get h.next=some (.cells [] e false):=by rw[AH.get_new,if_pos rfl]
 by_cases hz:xs.length=0
 .refine⟨.sl h.next 0 0 0,_,?_,.inr ⟨h.next,0,ab _,rfl,by rw[g0,aY.1 hz];rfl,by rw[s2,hz]⟩,Mb (ab _),by simp⟩;simp only[iJ,s1,ho,if_true,hz]
 .refine⟨.sl (h.next+1) 0 xs.length xs.length,((h.new (.cells [] e false)).put h.next .dead).new (.cells xs.flatten e false),?_,.inr ⟨h.next+1,xs.length,om,rfl,by rw[AH.get_new,if_pos (by simp)],s2⟩,(Mb (ab _)).trans ((Ext.put (ab _)).trans (Mb (by simp))),by simp⟩;simp only[iJ,s1,ho,if_true,if_neg hz,g0,aU g0];rw[bL,if_neg om,if_pos ⟨hl,hl2⟩];simp
theorem qe{xs:List (Int)}(hv:SlI h v xs)(hl:xs.length<2^34) :
 C prg 69 [v] h λr h'=>IsSl h' 1 h.next r (xs.flatMap eI)/\Ext h.next h h'/\(r=.nils↔v=.nils):=by
 refine Me pf69 ?_;refine ae (ar (Mi0) ?_);obtain⟨b,hb,k1,k2⟩:=wF hv;refine ae (ae (ar (Mi1 hb) ?_));refine dY (t:=b) (Z0) (λq=>?_) λq=>?_
 .obtain⟨rfl,hx⟩:=k1 q;rw[zl]at hx;subst hx;refine ae (ar (M0) ?_);exact bG ⟨.nils,(by simp only[rs,rf69,am,aD,simprocAttr]<;>rfl),.inl ⟨rfl,rfl⟩,Mc,by simp⟩
 .have hvv:=k2 q;refine bK ?_;obtain⟨r,h',a1,a2,a3,a4⟩:=wX (bytes:=8) hv Fu (by rw[ah];unfold bd;omega) (by rw[ah];unfold bd;omega);refine ae (ar (Mi1 a1) ?_);exact bG ⟨r,(by simp only[rs,rf69,am,aD,simprocAttr]<;>rfl),a2,a3,by simp[a4,hvv]⟩
theorem DL(hv:SlE h v xs)(hl:xs.length<2^34) :
 C prg 24 [v] h λr h'=>IsSl h' 2 h.next r (xs.flatMap eE)/\Ext h.next h h'/\(r=.nils↔v=.nils):=by
 refine Me pf24 ?_;refine ae (ar (Mi0) ?_);obtain⟨b,hb,k1,k2⟩:=wF hv;refine ae (ae (ar (Mi1 hb) ?_));refine dY (t:=b) (Z0) (λq=>?_) λq=>?_
 .obtain⟨rfl,hx⟩:=k1 q;rw[zl]at hx;subst hx;refine ae (ar (M0) ?_);exact bG ⟨.nils,(by simp only[rs,rf24,am,aD,simprocAttr]<;>rfl),.inl ⟨rfl,rfl⟩,Mc,by simp⟩
 .have hvv:=k2 q;refine bK ?_;obtain⟨r,h',a1,a2,a3,a4⟩:=wX (bytes:=16) hv Lk (by rw[ah];unfold bd;omega) (by rw[ah];unfold bd;omega);refine ae (ar (Mi1 a1) ?_);exact bG ⟨r,(by simp only[rs,rf24,am,aD,simprocAttr]<;>rfl),a2,a3,by simp[a4,hvv]⟩
theorem uX{xs:List (Int×Int×Int)}(hv:SlT h v xs)(hl:xs.length<2^34) :
 C prg 29 [v] h λr h'=>IsSl h' 3 h.next r (xs.flatMap eT)/\Ext h.next h h'/\(r=.nils↔v=.nils):=by
 refine Me pf29 ?_;refine ae (ar (Mi0) ?_);obtain⟨b,hb,k1,k2⟩:=wF hv;refine ae (ae (ar (Mi1 hb) ?_));refine dY (t:=b) (Z0) (λq=>?_) λq=>?_
 .obtain⟨rfl,hx⟩:=k1 q;rw[zl]at hx;subst hx;refine ae (ar (M0) ?_);exact bG ⟨.nils,(by simp only[rs,rf29,am,aD,simprocAttr]<;>rfl),.inl ⟨rfl,rfl⟩,Mc,by simp⟩
 .have hvv:=k2 q;refine bK ?_;obtain⟨r,h',a1,a2,a3,a4⟩:=wX (bytes:=24) hv Ft (by rw[ah];unfold bd;omega) (by rw[ah];unfold bd;omega);refine ae (ar (Mi1 a1) ?_);exact bG ⟨r,(by simp only[rs,rf29,am,aD,simprocAttr]<;>rfl),a2,a3,by simp[a4,hvv]⟩
theorem eqto(xs ys:List Int)(hl:xs.length=ys.length):∀k,k<=xs.length->(xs.take k=ys.take k)->(∀(hk:k<xs.length),xs[k]=ys[k]'om->xs.take (k+1)=ys.take (k+1)):=by
 intro k _ h hk e;rw[be hk,be om,h,e]
theorem uK{w:AV}{xs ys:List Int}(hv:SlI h v xs)(hw:SlI h w ys)(hl:xs.length<2^40)(hl2:ys.length<2^40) :
 C prg 21 [v,w] h λr h'=>r=.bool (xs==ys)/\h'=h:=by
 refine Me pf21 ?_;have e1:=hv.len;have e2:=hw.len;rw[ah]at e1 e2;refine ae (ar (Mi0) ?_);refine ae (ae (ar (Mi2 e1 e2) ?_));refine dY (t:=!decide (((xs.length:Nat):Int)=((ys.length:Nat):Int))) (Z0) (λq=>?_) λq=>?_
 .have q:xs.length≠ys.length:=by simp at q;omega
  refine ae (ar (M0) ?_);exact bG ⟨.bool false,(by simp only[rs,rf21,am,aD,simprocAttr]<;>rfl),by rw[show(xs==ys)=false from by rw[beq_eq_false_iff_ne];intro hh;exact q (congrArg _ hh)],rfl⟩
 .have q:xs.length=ys.length:=by simp at q;omega
  refine bK (ae (ae (ar (Mi1 e1) ?_)));refine fj (α:=Unit) (N:=xs.length) (λ_ _=>[(0,v),(1,w)]) (λk _ h1=>h1=h/\xs.take k=ys.take k) () (λ_ _=>rfl) om (Oi0) ⟨rfl,rfl⟩ ?_ ?_
  .rintro k _ ts h1 hk ⟨rfl,hp⟩ ⟨ei,en,e0,e1',-⟩;simp only at ei en e0 e1';obtain⟨b1,p1,a1,r1,_⟩:=hv.at1 (eJ (f:=eI) hk);obtain⟨b2,p2,a2,r2,_⟩:=hw.at1 (eJ (f:=eI) (show k<ys.length by omega));refine ae (ar (M1 ei) ?_);refine ae (ar (M6 e0 e1' a1 r1 a2 r2) ?_);refine dY (t:=!decide (xs[k]=ys[k])) (Z0) (λq2=>?_) λq2=>?_
   .have q2:xs[k]≠ys[k]:=by simpa using q2
    refine ae (ar (M0) ?_);refine bG ⟨.bool false,(by simp only[rs,rf21,am,aD,simprocAttr]<;>rfl),?_,rfl⟩;have:(xs==ys)=false:=by
     rw[beq_eq_false_iff_ne];intro hh;subst hh;exact q2 rfl
    rw[this]
   .have q2:xs[k]=ys[k]:=by simpa using q2
    refine bK ⟨(),⟨rfl,eqto xs ys q k om hp hk q2⟩,O4 ei en e0 e1'⟩
  .rintro _ ts h1 ⟨rfl,hp⟩ ⟨e0,e1',-⟩;refine ae (ar (M0) ?_);refine bG ⟨.bool true,(by simp only[rs,rf21,am,aD,simprocAttr]<;>rfl),?_,rfl⟩;rw[da,q,da]at hp;subst hp;simp
def Mf:=@Sl.stay
end Go.Proofs.YtmibmlioidpogaaGreatDoor
