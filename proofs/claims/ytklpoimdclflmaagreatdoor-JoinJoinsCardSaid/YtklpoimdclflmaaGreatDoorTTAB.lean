/- The functions in the clean machine's form -/
import Derived.Test.YtklpoimdclflmaaGreatDoorTTAA
import Derived.Test.YtklpoimdclflmaaGreatDoorTAmK
import Derived.Test.YtklpoimdclflmaaGreatDoorTAmR
import Derived.Test.YtklpoimdclflmaaGreatDoorRows
import Derived.WalkKit
import Derived.ProofKit
import Derived.OpenShut
import Derived.Deep.SlicePairs
import Derived.Deep.Matrix
set_option linter.all false
namespace Go.Proofs.YtklpoimdclflmaaGreatDoor
open Go.Am
set_option maxRecDepth 100000
variable {K:Bs}{a:Option Addr}{base cap e fuel len:Nat}{c v:Value}{h:AH}{k:IntKind}{p:List MemPlace}{w:World}{x:Addr}{zs:List Int}{σ:Sg}
def rf148:RF:=⟨[(.t 8)],(kS [o1 4 (.box 2 2 (.t 0)),mn 8] (kS [fa 13 0 4,ld 14 13,o1 15 (.mks [(.bool false)] 1 1 (.t 14) (.t 14)),mv 9 15] (kS [mv 16 9,mv 17 1,ia 18 1 16 17,o0 (.store 1 (.t 18) (.c (.bool true)))] (.seq (kS [mi 10 0] (kW 0 22 1 [mv 19 10,fa 20 0 4,ld 21 20,bn 22 .lss 19 21] [mv 23 10,bc 24 .add 23 1,mv 10 24] (kS [mi 11 0] (kW 2 29 3 [mv 25 11,fa 26 1 4,ld 27 26,le 28 27,bn 29 .lss 25 28] [mv 30 11,bc 31 .add 30 1,mv 11 31] (kS [fa 32 1 4,ld 33 32,mv 34 11,ia 35 2 33 34,la 36 2 35,o1 12 (.new [(.int .i64 0),(.int .i64 0)] 2),o0 (.store 2 (.t 12) (.t 36))] (kS [mv 37 3,mv 38 11,ia 39 1 37 38,ld 40 39,mv 41 40,og 42 (.mov (.t 9)) 41 true,og 43 (.fadr 0 (.t 12)) 41 true,og 44 (.load false 1 (.t 43)) 41 true,og 45 (.iadr 1 (.t 42) (.t 44)) 41 true,og 46 (.load false 1 (.t 45)) 41 true,og 47 (.mov (.t 46)) 41 true,og 48 (.mov (.t 2)) 47 false,og 49 (.mov (.t 48)) 47 false,og 50 (.mov (.t 9)) 49 true,og 51 (.fadr 1 (.t 12)) 49 true,og 52 (.load false 1 (.t 51)) 49 true,og 53 (.iadr 1 (.t 50) (.t 52)) 49 true,og 54 (.load false 1 (.t 53)) 49 true,og 55 (.pick (.t 49) (.t 54) (.c (.bool false))) 47 false,og 56 (.pick (.t 47) (.c (.bool true)) (.t 55)) 41 true,o1 57 (.pick (.t 41) (.t 56) (.c (.bool false)))] (kT 57 (kS [mv 58 9,fa 59 1 12,ld 60 59,ia 61 1 58 60,o0 (.store 1 (.t 61) (.c (.bool true)))] (.reg [mv 62 9,fa 63 0 12,ld 64 63,mv 65 9,fa 66 0 12,ld 67 66,ia 68 1 65 67,ld 69 68,mv 70 69,og 71 (.mov (.t 2)) 70 false,o1 72 (.pick (.t 70) (.c (.bool true)) (.t 71)),ia 73 1 62 64,so 73 72])) .skip))))))) (kS [mv 74 9,mv 8 74] .ret)))))⟩
def rf163:RF:=⟨[(.t 4)],(kS [mi 4 0] (.seq (kS [mv 6 0,le 7 6,mi 8 0] (kF 0 8 7 9 18 1 (kS [mv 10 8,mv 5 10] (kS [mv 11 1,mv 12 0,mv 13 5,ia 14 3 12 13,la 15 3 14,o1 16 (.callv (.t 11) [(.t 15)])] (kT 16 (kS [mv 17 5,mv 4 17] .ret) .skip))))) (kS [mi 4 (-1)] .ret)))⟩
open Go.Am
set_option maxRecDepth 100000
def mks:List (Nat×RF):=[(58,uq),(56,tj 57)]
def tab:List (Nat×RF):=[(3,rf3),(5,rf5),(6,rf6),(7,rf7),(8,rf8),(9,rf9),(10,rf10),(11,rf11),(12,rf12),(15,rf15),(16,rf16),(17,rf17),(18,rf18),(19,rf19),(20,rf20),(21,rf21),(22,rf22),(23,rf23),(24,rf24),(25,rf25),(26,rf26),(27,rf27),(28,rf28),(29,rf29),(30,rf30),(32,rf32),(33,rf33),(34,rf34),(35,rf35),(36,rf36),(37,rf37),(38,rf38),(39,rf39),(40,rf40),(41,rf41),(42,rf42),(43,rf43),(44,rf44),(45,rf45),(46,rf46),(47,rf47),(48,rf48),(49,rf49),(50,rf50),(51,rf51),(52,rf52),(53,rf53),(54,rf54),(55,rf55),(56,rf56),(58,rf58),(59,rf59),(63,rf63),(64,rf64),(65,rf65),(66,rf66),(67,rf67),(68,rf68),(69,rf69),(70,rf70),(71,rf71),(72,rf72),(73,rf73),(74,rf74),(75,rf75),(76,rf76),(77,rf77),(78,rf78),(79,rf79),(80,rf80),(81,rf81),(82,rf82),(83,rf83),(84,rf84),(85,rf85),(86,rf86),(87,rf87),(88,rf88),(89,rf89),(90,rf90),(91,rf91),(92,rf92),(93,rf93),(94,rf94),(95,rf95),(104,rf104),(105,rf105),(106,rf106),(107,rf107),(108,rf108),(109,rf109),(110,rf110),(111,rf111),(112,rf112),(113,rf113),(114,rf114),(123,rf123),(124,rf124),(136,rf136),(143,rf143),(144,rf144),(145,rf145),(146,rf146),(147,rf147),(148,rf148),(163,rf163)]
noncomputable def prg:RP:=λf=>lkp tab f (Cj Tryz.prog mks f)
def cfs:AllD Tryz.prog tab:=allD_of (by kernel_rfl)
def ps58:prg (58+oC)=some uq:=rfl
def ps56:prg (56+oC)=some (tj 57):=rfl
def det:Det (yw Tryz.prog mks) prg:=Mm (by simp only[mks,zC];exact⟨rfl,rfl,λ_ h=>by cases h⟩) rfl cfs
open Go.Am
open Go.RowKit
def Eg(xs:List Int):xs.flatMap eI=xs.map (AV.int .i64):=by
 induction xs with
 |nil=>rfl
 |cons x r ih=>rw[bH,ih];rfl
def tZ{α:Type}{f:α->List AV}{b n:Nat}{xs:List α}{ro:Bool}(hf:∀x,(f x).length=e)(hg:h.get b=some (.cells (xs.flatMap f) e ro))(hn:n=xs.length):Sl h e (.sl b 0 n n) (xs.map f):=by
 subst hn;have hl:=dE hf xs;refine .inr ⟨b,0,xs.length,_,ro,by rw[ah],hg,by rw[ah];exact ab _,by rw[ah,hl];omega,λi x hx=>?_⟩;rw[aV]at hx;obtain⟨y,hy,rfl⟩:=aG.1 hx;rw[bN];exact yT hf xs i y hy
def qx:List Int->List (Int×Int)
 |x::y::r=>(x,y)::qx r
 |_=>[]
def vl:∀(n:Nat) (ns:List Int),ns.length=n*2->(qx ns).flatMap eE=ns.map (AV.int .i64)/\(qx ns).length=n
 |0,[],_=>⟨rfl,rfl⟩
 |n+1,x::y::r,h=>by
   have ih:=vl n r (by simp only[bd]at h;omega);refine⟨?_,?_⟩
   .simp only[qx,bH,eE,bO,bX,cr];rw[<-ih.1]
   .simp only[qx,bd,ih.2]
 |0,_::_,h=>by simp at h
 |n+1,[],h=>by simp at h
 |n+1,[x],h=>by simp only[bd,bm]at h;omega
def MX(r:Rep K σ h w)(hB:K.B=w.heap.size)(he:0<e)(hr:IsRowE k e w a len cap zs)(hspot:∀x,a=some x->x.spot=none) :
 ∃σ' o v,σ.le σ'/\Rep K σ' (h.new o) w/\VR σ' v (.slice a len cap)/\((v=.nils/\len=0)\/(v=.sl h.next 0 len len/\o=.cells ((zs.take (len*e)).map (AV.int k)) e true/\(zs.take (len*e)).length=len*e)):=by
 rcases hr with⟨rfl,rfl,rfl,rfl⟩|⟨x,rfl,h1,h2,h3,h4,h5⟩
 .obtain⟨σ',q1,q2⟩:=r.dummy;exact⟨σ',_,.nils,q1,q2,by simp[VR],.inl ⟨rfl,rfl⟩⟩
 .have hsp:=hspot x rfl;have hadd:∀j,x.add j=⟨x.block,x.off+j,none⟩:=by
   intro j;obtain⟨xb,xo,xs⟩:=x;simp only at hsp;subst hsp;exact Addr.add_lit _ _ _
  have hle:len*e<=cap*e:=fW e h1;have hl:(zs.take (len*e)).length=len*e:=by rw[aS];omega
  cases zs with
  |nil =>
    simp only[bm]at h3;have e2:cap=0:=by
     rcases Nat.eq_zero_or_pos cap with q|q
     .exact q
     .have:=Nat.mul_pos q he;omega
    have e1:len=0:=om;subst e1;subst e2;refine⟨σ.add h.next ⟨x.block,x.off,e,0,0⟩,.cells [] e true,.sl h.next 0 0 0,Sg.le_add r.fresh,r.came [] e _ rfl (.inl rfl),?_,.inr ⟨rfl,by rw[pV];rfl,hl⟩⟩;simp only[VR];exact⟨_,x.off,0,Sg.add_at _ _ _,by obtain⟨xb,xo,xs⟩:=x;simp only at hsp;subst hsp;rfl,.inl trivial,ab _,ab _,.inl rfl⟩
  |cons z zs =>
    have h40:=h4 0 (by simp);rw[hadd]at h40;unfold World.cell? at h40;simp only at h40;split at h40
    .rename_i C t fr hC
     have hall:∀i,i<(z::zs).length->C[x.off+i]?=some (.int k ((z::zs).getD i 0)):=by
      intro i hi;have:=h4 i hi;rw[hadd]at this;simpa[World.cell?,hC]using this
     have hN:x.off+cap*e<=C.size:=by
      have:=hall (cap*e-1) (by simp at h3 |-;omega);have hlt:=(ct.1 this).1;simp at h3;omega
     have hblk:x.block<w.heap.size:=(ct.1 hC).1;refine⟨σ.add h.next ⟨x.block,x.off,e,C.size,t⟩,.cells (((z::zs).take (len*e)).map (AV.int k)) e true,.sl h.next 0 len len,Sg.le_add r.fresh,r.came _ e _ rfl (.inr ⟨by rw[hB];exact hblk,fun τ _=>?_⟩),?_,.inr ⟨rfl,rfl,hl⟩⟩
     .refine⟨C,t,fr,hC,rfl,rfl,?_,λj y hy=>?_,λq=>by (cases q),rfl⟩
      .show x.off+_<=C.size;rw[ah,hl];omega
      .have hj:j<len*e:=by
        rcases eW j (len*e)with q|q
        .exact q
        .rw[bJ (by rw[ah,hl];exact q)]at hy;cases hy
       rw[aV,cS,if_pos hj]at hy;refine⟨.int k ((z::zs).getD j 0),hall j om,?_⟩;rw[aA];cases hq:(z::zs)[j]? with
       |none=>rw[hq]at hy;cases hy
       |some u=>rw[hq]at hy;simp only[aQ,aa]at hy;subst hy;simp[VR]
     .simp only[VR];refine⟨_,x.off,cap,Sg.add_at _ _ _,by obtain⟨xb,xo,xs⟩:=x;simp only at hsp;subst hsp;rfl,.inr (by simp),h1,ab _,.inr ⟨ab _,?_⟩⟩;show x.off+cap*e<=C.size;omega
    .cases h40
def ints1(r:Rep K σ h w)(hB:K.B=w.heap.size){len:Nat}(hr:IsRowE .i64 1 w a len cap zs) :
 ∃σ' o v,σ.le σ'/\Rep K σ' (h.new o) w/\VR σ' v (.slice a len cap)/\fP v=some (.int .i64 (len:Nat))/\SlI (h.new o) v (zs.take len):=by
 have hrow:len<=cap/\zs.length=cap/\(a=none->cap=0)/\∀x,a=some x->∀i,i<cap->w.cell? (x.add i)=some (.int .i64 (zs.getD i 0)):=by
  rcases hr with⟨rfl,rfl,rfl,rfl⟩|⟨x,rfl,h1,h2,h3,h4,h5⟩
  .exact⟨ab _,rfl,λ_=>rfl,(λx hx=>by cases hx)⟩
  .rw[aP]at h3;exact⟨h1,h3,(λh=>by cases h),(λy hy i hi=>by cases hy;exact h4 i om)⟩
 obtain⟨q1,q2,q3,q4⟩:=hrow;obtain⟨σ',o,v,b1,b2,b3,b4⟩:=r.rowB hB q1 q2 q3 q4;refine⟨σ',o,v,b1,b2,b3,?_⟩;rcases b4 with⟨h1|h1,h2⟩|⟨h1,h2⟩
 .subst h1 h2;exact⟨rfl,.inl ⟨by simp,.inl rfl⟩⟩
 .subst h1 h2;exact⟨rfl,.inl ⟨by simp,.inr rfl⟩⟩
 .subst h1 h2;refine⟨rfl,tZ (f:=eI) (ro:=true) (λ_=>rfl) ?_ (by rw[aS];omega)⟩;rw[AH.get_new,if_pos rfl,Eg]
open Go.Am
open Go.RowKit
def Nx(r:Rep K σ h w)(hB:K.B=w.heap.size)(he:0<e){vs:List AV}{Y:Nat->Value}(hsp:x.spot=none)(h1:len<=cap)(hl:vs.length=len*e)
 (hc:∀i,i<cap*e->w.cell? (x.add i)=some (Y i)) (hv:∀i v,vs[i]?=some v->VR σ v (Y i)) :
 ∃σ',σ.le σ'/\Rep K σ' (h.new (.cells vs e true)) w/\VR σ' (.sl h.next 0 len len) (.slice (some x) len cap):=by
 have hadd:∀j,x.add j=⟨x.block,x.off+j,none⟩:=by
  intro j;obtain⟨xb,xo,xs⟩:=x;simp only at hsp;subst hsp;exact Addr.add_lit _ _ _
 have hx:x=⟨x.block,x.off,none⟩:=by
  obtain⟨xb,xo,xs⟩:=x;simp only at hsp;subst hsp;rfl
 have hle:len*e<=cap*e:=fW e h1;by_cases hz:cap=0
 .have hl0:len=0:=om;subst hz;subst hl0;have hvs:vs=[]:=aW.1 om;subst hvs;refine⟨σ.add h.next ⟨x.block,x.off,e,0,0⟩,Sg.le_add r.fresh,r.came [] e _ rfl (.inl rfl),?_⟩;simp only[VR];exact⟨_,x.off,0,Sg.add_at _ _ _,by rw[<-hx],.inl trivial,ab _,ab _,.inl rfl⟩
 .have hpos:0<cap*e:=Nat.mul_pos om he;have h40:=hc 0 hpos;rw[hadd]at h40;unfold World.cell? at h40;simp only at h40;split at h40
  .rename_i C t fr hC
   have hall:∀i,i<cap*e->C[x.off+i]?=some (Y i):=by
    intro i hi;have:=hc i hi;rw[hadd]at this;simpa[World.cell?,hC]using this
   have hN:x.off+cap*e<=C.size:=by
    have hlt:=(ct.1 (hall (cap*e-1) om)).1;omega
   have hblk:x.block<w.heap.size:=(ct.1 hC).1;refine⟨σ.add h.next ⟨x.block,x.off,e,C.size,t⟩,Sg.le_add r.fresh,r.came vs e _ rfl (.inr ⟨by rw[hB];exact hblk,fun τ hτ=>?_⟩),?_⟩
   .refine⟨C,t,fr,hC,rfl,rfl,?_,λj y hy=>?_,λq=>(by cases q),rfl⟩
    .show x.off+_<=C.size;omega
    .have hj:=(au.1 hy).1;exact⟨Y j,hall j om,VR.mono hτ _ _ (hv j y hy)⟩
   .simp only[VR];refine⟨_,x.off,cap,Sg.add_at _ _ _,by rw[<-hx],.inr (by simp),h1,ab _,.inr ⟨ab _,?_⟩⟩;show x.off+cap*e<=C.size;omega
  .cases h40
def Ly(r:Rep K σ h w)(hsp:x.spot=none)(h1:len<=cap) :
 ∃σ',σ.le σ'/\Rep K σ' (h.new (.cells [] e true)) w/\VR σ' (.sl h.next 0 len len) (.slice (some x) len cap):=by
 have hx:x=⟨x.block,x.off,none⟩:=by
  obtain⟨xb,xo,xs⟩:=x;simp only at hsp;subst hsp;rfl
 refine⟨σ.add h.next ⟨x.block,x.off,e,x.off+cap*e,0⟩,Sg.le_add r.fresh,r.came [] e _ rfl (.inl rfl),?_⟩;simp only[VR];refine⟨_,x.off,cap,Sg.add_at _ _ _,by rw[<-hx],.inr (by simp),h1,ab _,.inr ⟨ab _,?_⟩⟩;show x.off+cap*e<=x.off+cap*e;omega
def rowEB(r:Rep K σ h w)(hB:K.B=w.heap.size)(he:0<e)(hr:IsRowE k e w a len cap zs) :
 ∃σ' o v,σ.le σ'/\Rep K σ' (h.new o) w/\VR σ' v (.slice a len cap)/\(((v=.nils\/v=.emp)/\len=0)\/(v=.sl h.next 0 len len/\o=.cells ((zs.take (len*e)).map (AV.int k)) e true/\(zs.take (len*e)).length=len*e)):=by
 by_cases hz:cap=0
 .have hl0:len=0:=by
   rcases hr with⟨_,q,_⟩|⟨x,_,q,_⟩<;>omega
  subst hz;subst hl0;obtain⟨σ',q1,q2⟩:=r.dummy;cases a with
  |none=>exact⟨σ',_,.nils,q1,q2,by simp[VR],.inl ⟨.inl rfl,rfl⟩⟩
  |some x=>exact⟨σ',_,.emp,q1,q2,by simp[VR],.inl ⟨.inr rfl,rfl⟩⟩
 .have hsp:∀x,a=some x->x.spot=none:=λx hx=>by
   rcases hr with⟨q,_⟩|⟨y,q,h1,h2,h3,h4,h5⟩
   .rw[q]at hx;cases hx
   .rw[q]at hx;obtain rfl:=Option.some.inj hx;have hpos:0<cap*e:=Nat.mul_pos om he;have:=h4 0 om;have e0:y.add 0=y:=rfl;rw[e0]at this;unfold World.cell? at this;split at this
    .split at this
     .cases this
     .rename_i hs
      cases hq:y.spot with
      |none=>rfl
      |some s=>rw[hq]at hs;simp at hs
    .cases this
  obtain⟨σ',o,v,q1,q2,q3,q4⟩:=MX r hB he hr hsp;refine⟨σ',o,v,q1,q2,q3,?_⟩;rcases q4 with⟨q,q'⟩|q
  .exact .inl ⟨.inl q,q'⟩
  .exact .inr q
structure ERow where
 a:Option Addr
 len:Nat
 cap:Nat
 zs:List Int
def ERow.ok(r:ERow)(w:World)(e:Nat):Prop:=IsRowE .i64 e w r.a r.len r.cap r.zs
def ERow.at(r:ERow)(h:AH)(e:Nat)(v:AV):Prop:=((v=.nils\/v=.emp)/\r.len=0)\/∃b,v=.sl b 0 r.len r.len/\h.get b=some (.cells ((r.zs.take (r.len*e)).map (AV.int .i64)) e true)/\(r.zs.take (r.len*e)).length=r.len*e
def wK{K:Bs}{w:World}{e:Nat}(he:0<e)(hB:K.B=w.heap.size):∀(n:Nat) (rows:List ERow) {σ:Sg}{h:AH},Rep K σ h w->rows.length<=n->(∀r∈rows,r.ok w e) ->
 ∃(σ':Sg) (os:List AO) (vs:List AV),os.length=n/\vs.length=rows.length/\σ.le σ'/\Rep K σ' (news os h) w/\∀(i:Nat) (v:AV) (r:ERow),vs[i]?=some v->rows[i]?=some r->VR σ' v (.slice r.a r.len r.cap)/\r.at (news os h) e v
 |0,[],σ,h,r,_,_=>⟨σ,[],[],rfl,rfl,Sg.le_refl σ,r,λi v r hv=>by simp at hv⟩
 |0,_::_,_,_,_,hl,_=>by simp at hl
 |n+1,[],σ,h,r,_,_=>by
   obtain⟨σ1,q1,q2⟩:=r.dummy;obtain⟨σ2,os,vs,a1,a2,a3,a4,a5⟩:=wK he hB n [] q2 (dv _) (λr hr=>by cases hr);exact⟨σ2,.cells [] 1 true::os,vs,by simp[a1],a2,Sg.le_trans q1 a3,a4,λi v r hv hr=>by simp at hr⟩
 |n+1,row::rows,σ,h,r,hl,hok=>by
   have k1:=hok row (by simp);obtain⟨σ1,o,v,q1,q2,q3,q4⟩:=rowEB r hB he k1;obtain⟨σ2,os,vs,a1,a2,a3,a4,a5⟩:=wK he hB n rows q2 (by simp at hl;omega) (λr hr=>hok r (by simp[hr]));refine⟨σ2,o::os,v::vs,by simp[a1],by simp[a2],Sg.le_trans q1 a3,a4,λi x row' hx hr=>?_⟩;cases i with
   |zero =>
     simp only[bD,aa]at hx hr;subst hx hr;refine⟨VR.mono a3 _ _ q3,?_⟩;rcases q4 with q4|⟨q4,q5,q6⟩
     .exact .inl q4
     .refine .inr ⟨_,q4,?_,q6⟩;rw[news,oV os _ _ (by simp),AH.get_new,if_pos rfl,q5]
   |succ i =>
     simp only[cJ]at hx hr;exact a5 i x row' hx hr
open Go.ChangeShapes Go.WideShapes Go.ChangeAt Go.RowKit
open Go.Am (IsRowE NRow)
set_option maxRecDepth 100000
def Ms:Tryz.prog.cellsOf 24=2:=by kernel_rfl
def vL:Tryz.prog.cellsOf 3=1:=by kernel_rfl
def Mt:Tryz.prog.cellsOf 22=1:=by kernel_rfl
def Mp:Tryz.prog.cellsOf 43=2:=by kernel_rfl
def Ej:Tryz.prog.cellsOf 28=1:=by kernel_rfl
def Mr:Tryz.prog.cellsOf 29=1:=by kernel_rfl
def Mq:Tryz.prog.cellsOf 31=2:=by kernel_rfl
def Kt:Tryz.prog.cellTypes Tryz.prog.depth 24=some [3,22]:=by kernel_rfl
def xr:Value->Int
 |.int _ n=>n
 |_=>0
def NS(a:Addr)(i j:Nat):(a.add i).add j=a.add (i+j):=Deep.add_add a i j
def Nt{H:Type}{enc:TypeId×Value->H}{W:World}{x:DataW H×List MemPlace}(h:DataW.trod enc Tryz.prog W 0 (λ_=>true) true fuel 28 [c]=some x) :
 ∃a len cap zs,c=.slice a len cap/\IsRowE .i64 1 W a len cap zs:=by
 rcases open_ints Tryz.underlying28 Tryz.underlying3 vL h with⟨hcs,_⟩|⟨x,l,c,zs,hcs,_,hl,hm,hz,_,hcell,hwz⟩
 .simp only[cy,and_true]at hcs;exact⟨none,0,0,[],hcs,.inl ⟨rfl,rfl,rfl,rfl⟩⟩
 .simp only[cy,and_true]at hcs;exact⟨some x,l,c,zs,hcs,.inr ⟨_,rfl,hl,hm,by simpa using hz,hcell,hwz⟩⟩
structure RowsB(w:World)(a:Option Addr)(len cap:Nat)(rows:List NRow):Prop where
 none_:a=none->len=0/\cap=0
 le:len<=cap
 length:rows.length=cap
 cells:∀x,a=some x->∀(i:Nat) (r:NRow),rows[i]?=some r->w.cell? (x.add i)=some (.slice r.a r.len r.cap)
 ok:∀r∈rows,r.ok w .i64
def Lo{H:Type}{enc:TypeId×Value->H}{W:World}{x:DataW H×List MemPlace}(h:DataW.trod enc Tryz.prog W 0 (λ_=>true) true fuel 29 [c]=some x) :
 ∃a len cap rows,c=.slice a len cap/\RowsB W a len cap rows:=by
 rcases Deep.open_int_rows Tryz.underlying29 Tryz.underlying28 Tryz.underlying3 Ej vL h with⟨hcs,_⟩|⟨x,l,cp,A,Ln,Cp,Z,hcs,_,hl,hm,_,hcell⟩
 .simp only[cy,and_true]at hcs;exact⟨none,0,0,[],hcs,λ_=>⟨rfl,rfl⟩,ab _,rfl,λx hx=>(by cases hx),λr hr=>(by cases hr)⟩
 .simp only[cy,and_true]at hcs;subst hcs;refine⟨some x,l,cp,(List.range cp).map λr=>⟨A r,Ln r,Cp r,Z r⟩,rfl,λh=>(by cases h),hl,by simp,λy hy i r hr=>?_,λr hr=>?_⟩
  .cases hy;rw[aV]at hr;cases hq:(List.range cp)[i]? with
   |none=>rw[hq]at hr;cases hr
   |some j =>
     rw[hq]at hr;have hi:=(au.1 hq).1;have hj:j=i:=by
      have:=(au.1 hq).2;simpa using this.symm
     subst hj;simp only[aQ,aa]at hr;subst hr;exact(hcell j (by simpa using hi)).1
  .obtain⟨j,hj,rfl⟩:=bp.1 hr;obtain⟨e1,e2,e3,e4,e5,e6,e7⟩:=hcell j (aX.1 hj);exact⟨e2,e4,e6,λy hy i hi=>(e7 y hy).2 i hi⟩
structure PRow where
 a:Option Addr
 len:Nat
 cap:Nat
 zs:List Int
 b:Option Addr
 lb:Nat
 cb:Nat
 rows:List NRow
instance :Inhabited PRow:=⟨⟨none,0,0,[],none,0,0,[]⟩⟩
def PRow.ok(p:PRow)(w:World):Prop:=IsRowE .i64 1 w p.a p.len p.cap p.zs/\RowsB w p.b p.lb p.cb p.rows
structure PlIn(w:World)(a:Option Addr)(len cap:Nat)(ks:List PRow):Prop where
 spot:∀x,a=some x->x.spot=none
 none_:a=none->len=0/\cap=0
 le:len<=cap
 length:ks.length=cap
 cells:∀x,a=some x->∀(i:Nat) (p:PRow),ks[i]?=some p->w.cell? (x.add (i*2))=some (.slice p.a p.len p.cap)/\w.cell? (x.add (i*2+1))=some (.slice p.b p.lb p.cb)
 ok:∀p∈ks,p.ok w
def HH{H:Type}{enc:TypeId×Value->H}{W:World}{d:DataW H}(hval:Value.okWide Tryz.prog W .any base 25 v)(h:DataW.Trod enc Tryz.prog W 0 (λ_=>true) true 25 v d p) :
 ∃a len cap ks,v=.slice a len cap/\PlIn W a len cap ks:=by
 obtain⟨a0,l0,c0,rfl⟩:=okWide_slice Tryz.underlying25 hval;obtain⟨fuel,hf⟩:=h;have hcs:(Value.slice a0 l0 c0).cells=#[.slice a0 l0 c0]:=rfl;rw[hcs]at hf;rcases Deep.open_slice Tryz.underlying25 hf with⟨e1,_⟩|⟨a,len,cap,m,n,D,Pl,e1,_,hle,hcap,hm,_,hx⟩
 .simp only[cy,and_true]at e1;cases e1;exact⟨none,0,0,[],rfl,λx hx=>(by cases hx),λ_=>⟨rfl,rfl⟩,ab _,rfl,λx hx=>(by cases hx),λr hr=>(by cases hr)⟩
 .simp only[cy,and_true]at e1;cases e1;simp only[if_true]at hm;subst hm;rw[Mq]at hx;have hsp:a.spot=none:=by
   simp only[Value.okWide,Tryz.underlying25,Cell.okWide,Cell.ok]at hval;exact hval.2.2.2.1
  have each:∀i,i<m->∃q:PRow,W.cell? (a.add (i*2))=some (.slice q.a q.len q.cap)/\W.cell? (a.add (i*2+1))=some (.slice q.b q.lb q.cb)/\q.ok W:=by
   intro i hi;obtain⟨cs',h1,h2⟩:=hx i hi;obtain⟨_,hlen,hcell⟩:=World.cells?_some h1;obtain⟨xs,k,hk,hxy,_,hxl,hf⟩:=DataW.trod_struct Tryz.underlying31 h2
   match xs,hxl,cs',hlen with
   |[y0,y1],_,[v0,v1],_ =>
     have g0:=hf 0 _ rfl;have g1:=hf 1 _ rfl;simp[Ej,Mr]at g0 g1;have e0:=hcell 0 om;have e1:=hcell 1 om;rw[NS]at e0 e1;obtain⟨b,lb,cb,zs,rfl,r1⟩:=Nt g0;obtain⟨b',lb',cb',rows,rfl,r2⟩:=Lo g1;exact⟨⟨b,lb,cb,zs,b',lb',cb',rows⟩,by simpa using e0,by simpa using e1,r1,r2⟩
  obtain⟨q,hq⟩:=Deep.choose_lt each;refine⟨some a,l0,m,(List.range m).map q,rfl,λy hy=>(by cases hy;exact hsp),λh=>(by cases h),hle,by simp,λy hy i r hr=>?_,λr hr=>?_⟩
  .cases hy;rw[aV]at hr;cases hq':(List.range m)[i]? with
   |none=>rw[hq']at hr;cases hr
   |some j =>
     rw[hq']at hr;have hi:=(au.1 hq').1;have hj:j=i:=by
      have:=(au.1 hq').2;simpa using this.symm
     subst hj;simp only[aQ,aa]at hr;subst hr;have:=hq j (by simpa using hi);exact⟨this.1,this.2.1⟩
  .obtain⟨j,hj,rfl⟩:=bp.1 hr;exact(hq j (aX.1 hj)).2.2
def Cq{H:Type}{enc:TypeId×Value->H}{W:World}{d:DataW H}(hval:Value.okWide Tryz.prog W .any base 24 v)(h:DataW.Trod enc Tryz.prog W 0 (λ_=>true) true 24 v d p) :
 ∃n a len cap zs,v=.agg #[.int .i64 n,.slice a len cap]/\IsRowE .i64 2 W a len cap zs/\∀x,a=some x->x.spot=none:=by
 have hu:=Tryz.underlying24;simp only[Value.okWide,hu]at hval;obtain⟨cs,rfl,hsz,ts,hts,_,hok⟩:=hval;rw[Kt]at hts;simp only[aa]at hts;subst hts;rw[Ms]at hsz;obtain⟨fuel,hf⟩:=h;obtain⟨xs,m,_,_,hl,hxl,hfs⟩:=DataW.trod_struct hu hf;have hcs:(Value.agg cs).cells=cs:=rfl;rw[hcs]at hf hfs hl;obtain⟨l⟩:=cs;simp only at hsz hf hfs hl
 match l,hsz with
 |[c0,c1],_ =>
   simp only[dg,bd,bm]at hxl
   match xs,hxl with
   |[x0,x1],_ =>
     have g0:=hfs 0 _ rfl;have g1:=hfs 1 _ rfl;simp[vL,Mt]at g0 g1;obtain⟨n,e0,_,_⟩:=DataW.trod_int Tryz.underlying3 g0;simp only[cy,and_true]at e0;subst e0;have hk:=hok 1 c1 rfl;obtain⟨u,hu1,hk⟩:=hk;simp at hu1;subst hu1;rcases Deep.open_slice_pairs Tryz.underlying22 Tryz.underlying43 Mp rfl rfl vL vL g1 with⟨e1,_⟩|⟨a,len,cap,m',n',V0,V1,D0,D1,P0,P1,e1,_,hle,hcap,hm,_,hcell⟩
     .simp only[cy,and_true]at e1;subst e1;exact⟨n,none,0,0,[],rfl,.inl ⟨rfl,rfl,rfl,rfl⟩,λx hx=>by cases hx⟩
     .simp only[cy,and_true]at e1;subst e1;simp only[if_true]at hm;subst hm;have hsp:a.spot=none:=by
       simp only[Cell.okWide,Tryz.underlying22,Cell.ok]at hk;exact hk.2.2.2.1
      have hV:∀i,i<m'->(∃x,V0 i=.int .i64 x/\(Lit.int .i64 x).wf=true)/\∃x,V1 i=.int .i64 x/\(Lit.int .i64 x).wf=true:=by
       intro i hi;obtain⟨_,_,q0,q1⟩:=hcell i hi;obtain⟨x,e,_,hx⟩:=DataW.trod_int Tryz.underlying3 q0;obtain⟨y,f,_,hy⟩:=DataW.trod_int Tryz.underlying3 q1;simp only[cy,and_true]at e f;exact⟨⟨x,e,hx⟩,⟨y,f,hy⟩⟩
      have hZ:∀j,j<m'*2->W.cell? (a.add j)=some (.int .i64 (if j%2=0 then xr (V0 (j/2))else xr (V1 (j/2))))/\(Lit.int .i64 (if j%2=0 then xr (V0 (j/2))else xr (V1 (j/2)))).wf=true:=by
       intro j hj;have hi:j/2<m':=om;obtain⟨⟨x,ex,hx⟩,⟨y,ey,hy⟩⟩:=hV _ hi;obtain⟨q0,q1,_,_⟩:=hcell _ hi;rw[ex]at q0;rw[ey]at q1;rcases Nat.mod_two_eq_zero_or_one j with hz|hz
       .have ej:j/2*2=j:=om;rw[ej]at q0;rw[if_pos hz,ex];exact⟨q0,hx⟩
       .have ej:j/2*2+1=j:=om;rw[ej]at q1;rw[if_neg om,ey];exact⟨q1,hy⟩
      refine⟨n,some a,len,m',(List.range (m'*2)).map λj=>if j%2=0 then xr (V0 (j/2))else xr (V1 (j/2)),rfl,.inr ⟨a,rfl,hle,hcap,by simp,λi hi=>?_,λz hz=>?_⟩,λx hx=>by cases hx;exact hsp⟩
      .have hi':i<m'*2:=by simpa using hi
       rw[(hZ i hi').1,aA,aV,da hi'];rfl
      .obtain⟨j,hj,rfl⟩:=bp.1 hz;exact(hZ j (aX.1 hj)).2
end Go.Proofs.YtklpoimdclflmaaGreatDoor
