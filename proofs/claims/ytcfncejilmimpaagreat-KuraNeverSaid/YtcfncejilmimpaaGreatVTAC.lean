/- The functions in the clean machine's form -/
import Derived.Test.YtcfncejilmimpaaGreatVTAB
import Derived.Test.YtcfncejilmimpaaGreatVAmK
import Derived.Test.YtcfncejilmimpaaGreatVAmR
set_option linter.all false
namespace Go.Proofs.YtcfncejilmimpaaGreat
open Go.Am
set_option maxRecDepth 100000
variable {K:Bs}{a:Option Addr}{cap e:Nat}{h:AH}{w:World}{zs:List Int}{σ:Sg}
def mks:List (Nat×RF):=[(29,sU),(42,rB 43)]
def tab:List (Nat×RF):=[(3,rf3),(4,rf4),(5,rf5),(6,rf6),(7,rf7),(8,rf8),(9,rf9),(10,rf10),(11,rf11),(12,rf12),(13,rf13),(14,rf14),(15,rf15),(17,rf17),(18,rf18),(19,rf19),(21,rf21),(22,rf22),(23,rf23),(24,rf24),(25,rf25),(26,rf26),(27,rf27),(28,rf28),(29,rf29),(30,rf30),(31,rf31),(32,rf32),(33,rf33),(34,rf34),(35,rf35),(36,rf36),(38,rf38),(39,rf39),(40,rf40),(41,rf41),(42,rf42),(44,rf44),(45,rf45),(46,rf46),(47,rf47),(48,rf48),(49,rf49),(50,rf50),(51,rf51),(52,rf52),(53,rf53),(54,rf54),(55,rf55),(56,rf56),(57,rf57),(58,rf58),(59,rf59),(60,rf60),(61,rf61),(62,rf62),(63,rf63),(64,rf64),(65,rf65),(66,rf66),(67,rf67),(68,rf68),(69,rf69),(75,rf75),(79,rf79),(80,rf80),(81,rf81),(82,rf82),(90,rf90),(91,rf91),(92,rf92),(93,rf93),(94,rf94),(95,rf95),(101,rf101),(102,rf102),(103,rf103),(107,rf107),(109,rf109)]
noncomputable def prg:RP:=λf=>lkp tab f (Be Tryz.prog mks f)
theorem pf3:prg 3=some rf3:=rfl
theorem pf5:prg 5=some rf5:=rfl
theorem pf6:prg 6=some rf6:=rfl
theorem pf7:prg 7=some rf7:=rfl
theorem pf8:prg 8=some rf8:=rfl
theorem pf12:prg 12=some rf12:=rfl
theorem pf13:prg 13=some rf13:=rfl
theorem pf14:prg 14=some rf14:=rfl
theorem pf21:prg 21=some rf21:=rfl
theorem pf22:prg 22=some rf22:=rfl
theorem pf23:prg 23=some rf23:=rfl
theorem pf24:prg 24=some rf24:=rfl
theorem pf25:prg 25=some rf25:=rfl
theorem pf26:prg 26=some rf26:=rfl
theorem pf29:prg 29=some rf29:=rfl
theorem pf30:prg 30=some rf30:=rfl
theorem pf33:prg 33=some rf33:=rfl
theorem pf38:prg 38=some rf38:=rfl
theorem pf39:prg 39=some rf39:=rfl
theorem pf40:prg 40=some rf40:=rfl
theorem pf41:prg 41=some rf41:=rfl
theorem pf42:prg 42=some rf42:=rfl
theorem pf44:prg 44=some rf44:=rfl
theorem pf45:prg 45=some rf45:=rfl
theorem pf46:prg 46=some rf46:=rfl
theorem pf47:prg 47=some rf47:=rfl
theorem pf48:prg 48=some rf48:=rfl
theorem pf49:prg 49=some rf49:=rfl
theorem pf50:prg 50=some rf50:=rfl
theorem pf51:prg 51=some rf51:=rfl
theorem pf52:prg 52=some rf52:=rfl
theorem pf53:prg 53=some rf53:=rfl
theorem pf55:prg 55=some rf55:=rfl
theorem pf56:prg 56=some rf56:=rfl
theorem pf57:prg 57=some rf57:=rfl
theorem pf58:prg 58=some rf58:=rfl
theorem pf59:prg 59=some rf59:=rfl
theorem pf60:prg 60=some rf60:=rfl
theorem pf61:prg 61=some rf61:=rfl
theorem pf62:prg 62=some rf62:=rfl
theorem pf63:prg 63=some rf63:=rfl
theorem pf64:prg 64=some rf64:=rfl
theorem pf65:prg 65=some rf65:=rfl
theorem pf66:prg 66=some rf66:=rfl
theorem pf67:prg 67=some rf67:=rfl
theorem pf68:prg 68=some rf68:=rfl
theorem pf69:prg 69=some rf69:=rfl
theorem pf79:prg 79=some rf79:=rfl
theorem pf80:prg 80=some rf80:=rfl
theorem pf81:prg 81=some rf81:=rfl
theorem pf82:prg 82=some rf82:=rfl
theorem pf90:prg 90=some rf90:=rfl
theorem pf91:prg 91=some rf91:=rfl
theorem pf92:prg 92=some rf92:=rfl
theorem pf93:prg 93=some rf93:=rfl
theorem pf94:prg 94=some rf94:=rfl
theorem pf95:prg 95=some rf95:=rfl
theorem pf102:prg 102=some rf102:=rfl
theorem pf103:prg 103=some rf103:=rfl
theorem pf107:prg 107=some rf107:=rfl
theorem pf109:prg 109=some rf109:=rfl
theorem ps29:prg (29+nq)=some sU:=rfl
theorem ps42:prg (42+nq)=some (rB 43):=rfl
theorem det:Det (xB Tryz.prog mks) prg:=LF (by simp only[mks,yC];exact⟨rfl,rfl,λ_ h=>by cases h⟩) rfl ⟨cf3,cf4,cf5,cf6,cf7,cf8,cf9,cf10,cf11,cf12,cf13,cf14,cf15,cf17,cf18,cf19,cf21,cf22,cf23,cf24,cf25,cf26,cf27,cf28,cf29,cf30,cf31,cf32,cf33,cf34,cf35,cf36,cf38,cf39,cf40,cf41,cf42,cf44,cf45,cf46,cf47,cf48,cf49,cf50,cf51,cf52,cf53,cf54,cf55,cf56,cf57,cf58,cf59,cf60,cf61,cf62,cf63,cf64,cf65,cf66,cf67,cf68,cf69,cf75,cf79,cf80,cf81,cf82,cf90,cf91,cf92,cf93,cf94,cf95,cf101,cf102,cf103,cf107,cf109,trivial⟩
open Go.Am
open Go.RowKit
theorem Lv(xs:List Int):xs.flatMap eI=xs.map (AV.int .i64):=by
 induction xs with
 |nil=>rfl
 |cons x r ih=>rw[cm,ih];rfl
theorem CA{α:Type}{f:α->List AV}{b n:Nat}{xs:List α}{ro:Bool}(hf:∀x,(f x).length=e)(hg:h.get b=some (.cells (xs.flatMap f) e ro))(hn:n=xs.length):Sl h e (.sl b 0 n n) (xs.map f):=by
 subst hn;have hl:=fJ hf xs;refine .inr ⟨b,0,xs.length,_,ro,by rw[ah],hg,by rw[ah];exact ab _,by rw[ah,hl];omega,λi x hx=>?_⟩;rw[aF]at hx;obtain⟨y,hy,rfl⟩:=aD.1 hx;rw[bX];exact xZ hf xs i y hy
def ph:List Int->List (Int×Int)
 |x::y::r=>(x,y)::ph r
 |_=>[]
theorem tU:∀(n:Nat) (ns:List Int),ns.length=n*2->(ph ns).flatMap eE=ns.map (AV.int .i64)/\(ph ns).length=n
 |0,[],_=>⟨rfl,rfl⟩
 |n+1,x::y::r,h=>by
   have ih:=tU n r (by simp only[aA]at h;omega);refine⟨?_,?_⟩
   .simp only[ph,cm,eE,bm,aH,bz];rw[<-ih.1]
   .simp only[ph,aA,ih.2]
 |0,_::_,h=>by simp at h
 |n+1,[],h=>by simp at h
 |n+1,[x],h=>by simp only[aA,aQ]at h;omega
theorem rowE1(r:Rep K σ h w)(hB:K.B=w.heap.size){k:IntKind}(he:0<e){len:Nat}(hr:IsRowE k e w a len cap zs)(hspot:∀x,a=some x->x.spot=none) :
 ∃σ' o v,σ.le σ'/\Rep K σ' (h.new o) w/\VR σ' v (.slice a len cap)/\((v=.nils/\len=0)\/(v=.sl h.next 0 len len/\o=.cells ((zs.take (len*e)).map (AV.int k)) e true/\(zs.take (len*e)).length=len*e)):=by
 rcases hr with⟨rfl,rfl,rfl,rfl⟩|⟨x,rfl,h1,h2,h3,h4,h5⟩
 .obtain⟨σ',q1,q2⟩:=r.dummy;exact⟨σ',_,.nils,q1,q2,by simp[VR],.inl ⟨rfl,rfl⟩⟩
 .have hsp:=hspot x rfl;have hadd:∀j,x.add j=⟨x.block,x.off+j,none⟩:=by
   intro j;obtain⟨xb,xo,xs⟩:=x;simp only at hsp;subst hsp;exact Addr.add_lit _ _ _
  have hle:len*e<=cap*e:=fP e h1;have hl:(zs.take (len*e)).length=len*e:=by rw[bG];omega
  cases zs with
  |nil =>
    simp only[aQ]at h3;have e2:cap=0:=by
     rcases Nat.eq_zero_or_pos cap with q|q
     .exact q
     .have:=Nat.mul_pos q he;omega
    have e1:len=0:=om;subst e1;subst e2;refine⟨σ.add h.next ⟨x.block,x.off,e,0,0⟩,.cells [] e true,.sl h.next 0 0 0,Sg.le_add r.fresh,r.came [] e _ rfl (.inl rfl),?_,.inr ⟨rfl,by rw[oM];rfl,hl⟩⟩;simp only[VR];exact⟨_,x.off,0,Sg.add_at _ _ _,by obtain⟨xb,xo,xs⟩:=x;simp only at hsp;subst hsp;rfl,.inl trivial,ab _,ab _,.inl rfl⟩
  |cons z zs =>
    have h40:=h4 0 (by simp);rw[hadd]at h40;unfold World.cell? at h40;simp only at h40;split at h40
    .rename_i C t fr hC
     have hall:∀i,i<(z::zs).length->C[x.off+i]?=some (.int k ((z::zs).getD i 0)):=by
      intro i hi;have:=h4 i hi;rw[hadd]at this;simpa[World.cell?,hC]using this
     have hN:x.off+cap*e<=C.size:=by
      have:=hall (cap*e-1) (by simp at h3 |-;omega);have hlt:=(cz.1 this).1;simp at h3;omega
     have hblk:x.block<w.heap.size:=(cz.1 hC).1;refine⟨σ.add h.next ⟨x.block,x.off,e,C.size,t⟩,.cells (((z::zs).take (len*e)).map (AV.int k)) e true,.sl h.next 0 len len,Sg.le_add r.fresh,r.came _ e _ rfl (.inr ⟨by rw[hB];exact hblk,fun τ _=>?_⟩),?_,.inr ⟨rfl,rfl,hl⟩⟩
     .refine⟨C,t,fr,hC,rfl,rfl,?_,λj y hy=>?_,λq=>by (cases q),rfl⟩
      .show x.off+_<=C.size;rw[ah,hl];omega
      .have hj:j<len*e:=by
        rcases dZ j (len*e)with q|q
        .exact q
        .rw[bA (by rw[ah,hl];exact q)]at hy;cases hy
       rw[aF,cK,if_pos hj]at hy;refine⟨.int k ((z::zs).getD j 0),hall j om,?_⟩;rw[aj];cases hq:(z::zs)[j]? with
       |none=>rw[hq]at hy;cases hy
       |some u=>rw[hq]at hy;simp only[aI,aa]at hy;subst hy;simp[VR]
     .simp only[VR];refine⟨_,x.off,cap,Sg.add_at _ _ _,by obtain⟨xb,xo,xs⟩:=x;simp only at hsp;subst hsp;rfl,.inr (by simp),h1,ab _,.inr ⟨ab _,?_⟩⟩;show x.off+cap*e<=C.size;omega
    .cases h40
theorem ints1(r:Rep K σ h w)(hB:K.B=w.heap.size){len:Nat}(hr:IsRowE .i64 1 w a len cap zs) :
 ∃σ' o v,σ.le σ'/\Rep K σ' (h.new o) w/\VR σ' v (.slice a len cap)/\jb v=some (.int .i64 (len:Nat))/\SlI (h.new o) v (zs.take len):=by
 have hrow:len<=cap/\zs.length=cap/\(a=none->cap=0)/\∀x,a=some x->∀i,i<cap->w.cell? (x.add i)=some (.int .i64 (zs.getD i 0)):=by
  rcases hr with⟨rfl,rfl,rfl,rfl⟩|⟨x,rfl,h1,h2,h3,h4,h5⟩
  .exact⟨ab _,rfl,λ_=>rfl,(λx hx=>by cases hx)⟩
  .rw[aU]at h3;exact⟨h1,h3,(λh=>by cases h),(λy hy i hi=>by cases hy;exact h4 i om)⟩
 obtain⟨q1,q2,q3,q4⟩:=hrow;obtain⟨σ',o,v,b1,b2,b3,b4⟩:=r.rowB hB q1 q2 q3 q4;refine⟨σ',o,v,b1,b2,b3,?_⟩;rcases b4 with⟨h1|h1,h2⟩|⟨h1,h2⟩
 .subst h1 h2;exact⟨rfl,.inl ⟨by simp,.inl rfl⟩⟩
 .subst h1 h2;exact⟨rfl,.inl ⟨by simp,.inr rfl⟩⟩
 .subst h1 h2;refine⟨rfl,CA (f:=eI) (ro:=true) (λ_=>rfl) ?_ (by rw[bG];omega)⟩;rw[AH.get_new,if_pos rfl,Lv]
theorem LK{P:Program}{a0 a1:Option Addr}{l0 c0 l1 c1:Nat}{z0 z1:List Int}(w0:IsRowE .i64 2 w a0 l0 c0 z0)(s0:∀x,a0=some x->x.spot=none)(w1:IsRowE .i64 1 w a1 l1 c1 z1) :
 ∃(σ:Sg) (os:List AO) (v0 v1:AV),os.length=2/\GL σ/\Rep ⟨w.heap.size,w,P,[]⟩ σ (news os AH.zero) w/\VR σ v0 (.slice a0 l0 c0)/\VR σ v1 (.slice a1 l1 c1) /\
   SlE (news os AH.zero) v0 (ph (z0.take (l0*2)))/\SlI (news os AH.zero) v1 (z1.take l1):=by
 have st:=St0.zero P w;obtain⟨σ1,o0,v0,r1,r2,r3,r4⟩:=rowE1 st.rep rfl (by decide) w0 s0;obtain⟨σ2,o1,v1,t1,t2,t3,t4,t5⟩:=ints1 r2 rfl w1;refine⟨σ2,[o0,o1],v0,v1,rfl,(st.gl.mono r1).mono t1,t2,VR.mono t1 _ _ r3,t3,?_,t5⟩;rcases r4 with⟨h1,h2⟩|⟨h1,h2,h3⟩
 .subst h1 h2;exact .inl ⟨by simp[ph],.inl rfl⟩
 .subst h1;obtain⟨f1,f2⟩:=tU l0 (z0.take (l0*2)) h3;refine CA (f:=eE) (ro:=true) (λ_=>rfl) ?_ (by rw[f2]);show((AH.zero.new o0).new o1).get AH.zero.next=_;rw[AH.get_new,if_neg (by simp),AH.get_new,if_pos rfl,h2,f1]
end Go.Proofs.YtcfncejilmimpaaGreat
namespace Go.Kur
variable {k:Nat}{l:List (Nat×Nat)}
structure Gr where
 tl:Nat->Nat
 hd:Nat->Nat
 E:List Nat
 nd:E.Nodup
variable (g:Gr)
def Gr.at1(x i:Nat):List Nat:=(if g.tl i=x then [i]else [])++(if g.hd i=x then [i]else [])
def Gr.ends(x:Nat):List Nat:=g.E.flatMap (g.at1 x)
def Gr.nxt(z e:Nat):Nat:=(g.ends z).getD 0 0+(g.ends z).getD 1 0-e
def Gr.deg(x:Nat):Nat:=(g.ends x).length
def Gr.joins(e x y:Nat):Prop:=e∈g.E/\(g.tl e=x/\g.hd e=y\/g.tl e=y/\g.hd e=x)
variable {g}
theorem Fi(x:Nat):g.deg x=(g.E.flatMap λi=>[g.tl i,g.hd i]).count x:=by
 unfold Gr.deg Gr.ends;generalize g.E=l;induction l with
 |nil=>rfl
 |cons i r ih =>
   rw[cm,cm,aG,fD,ih];congr 1;unfold Gr.at1;by_cases h1:g.tl i=x<;>by_cases h2:g.hd i=x<;>simp[h1,h2,uL]
theorem zA{x i:Nat}:i∈g.ends x↔i∈g.E/\(g.tl i=x\/g.hd i=x):=by
 unfold Gr.ends Gr.at1;rw[dM];constructor
 .rintro⟨j,h1,h2⟩;rw[aC]at h2;rcases h2 with h2|h2
  .split at h2
   .rw[bI]at h2;subst h2;exact⟨h1,.inl ‹_›⟩
   .cases h2
  .split at h2
   .rw[bI]at h2;subst h2;exact⟨h1,.inr ‹_›⟩
   .cases h2
 .rintro⟨h1,h2⟩;refine⟨i,h1,?_⟩;rw[aC];rcases h2 with h2|h2
  .left;rw[if_pos h2];simp
  .right;rw[if_pos h2];simp
theorem Gr.joins.symm{e x y:Nat}(h:g.joins e x y):g.joins e y x:=⟨h.1,h.2.symm⟩
theorem Gr.joins.left{e x y:Nat}(h:g.joins e x y):e∈g.ends x:=zA.2 ⟨h.1,by
 rcases h.2 with⟨a,b⟩|⟨a,b⟩
 .exact .inl a
 .exact .inr b⟩
theorem FV{z:Nat}(h:g.deg z=2):∃a b,g.ends z=[a,b]:=by
 unfold Gr.deg at h
 match hq:g.ends z,h with
 |[a,b],_=>exact⟨a,b,rfl⟩
theorem No{z e e':Nat}(h:g.deg z=2)(h1:e∈g.ends z)(h2:e'∈g.ends z)(hn:e≠e'):g.nxt z e=e':=by
 obtain⟨a,b,q⟩:=FV h;unfold Gr.nxt;rw[q]at h1 h2 |-;simp only[aw,aZ,or_false,List.getD_cons_zero,AC]at *
 omega
theorem KU{z e:Nat}(h:g.deg z=2)(h1:e∈g.ends z):g.nxt z e∈g.ends z/\g.nxt z (g.nxt z e)=e:=by
 obtain⟨a,b,q⟩:=FV h;unfold Gr.nxt;rw[q]at h1 |-;simp only[aw,aZ,or_false,List.getD_cons_zero,AC]at *
 omega
inductive Wk(g:Gr):Nat->List Nat->Nat->Prop
 |one {e x y}:g.joins e x y->Wk g x [e] y
 |cons {e x z es y}:g.joins e x z->g.deg z=2->Wk g z (g.nxt z e::es) y->Wk g x (e::g.nxt z e::es) y
theorem Wk.ne{x y:Nat}{es:List Nat}(h:Wk g x es y):es≠[]:=by cases h<;>simp
theorem Wk.head{x y e:Nat}{es:List Nat}(h:Wk g x (e::es) y):e∈g.ends x:=by
 cases h with
 |one h=>exact h.left
 |cons h _ _=>exact h.left
theorem Wk.snoc{x y:Nat}{es:List Nat}(h:Wk g x es y):∀{e z:Nat},es.getLast?=some e->g.deg y=2->g.joins (g.nxt y e) y z->Wk g x (es++[g.nxt y e]) z:=by
 induction h with
 |one h =>
   intro e z he hd hj;simp only[List.getLast?_singleton,aa]at he;subst he;exact .cons h hd (.one hj)
 |@cons e x z es y h hd w ih =>
   intro e' z' he hd' hj;refine .cons h hd ?_;exact ih (by rw[<-he];simp) hd' hj
theorem Wk.last{x y:Nat}{es:List Nat}(h:Wk g x es y):∃e,es.getLast?=some e/\e∈g.ends y:=by
 induction h with
 |@one e x y h=>exact⟨e,rfl,h.symm.left⟩
 |cons h _ _ ih=>obtain⟨e,h1,h2⟩:=ih;exact⟨e,by rw[<-h1];simp,h2⟩
theorem Wk.rev{x y:Nat}{es:List Nat}(h:Wk g x es y):Wk g y es.reverse x:=by
 induction h with
 |one h=>exact .one h.symm
 |@cons e x z es y h hd w ih =>
   have he:=h.symm.left;have q:=(KU hd he).2;have:=ih.snoc (e:=g.nxt z e) (z:=x) (by simp) hd (by rw[q];exact h.symm);rw[q]at this;rw[gO];exact this
theorem Wk.app{x z:Nat}{az:List Nat}(h:Wk g x az z):∀{e y:Nat}{bs:List Nat},az.getLast?=some e->g.deg z=2->Wk g z (g.nxt z e::bs) y->Wk g x (az++g.nxt z e::bs) y:=by
 induction h with
 |one h =>
   intro e y bs he hd w;simp only[List.getLast?_singleton,aa]at he;subst he;exact .cons h hd w
 |@cons e x z es y h hd w ih =>
   intro e' y' bs he hd' w';refine .cons h hd ?_;exact ih (by rw[<-he];simp) hd' w'
variable {g:Gr}
abbrev Way:=Nat×Nat×List Nat
def prW(w:Way):Nat×Nat:=(w.1,w.2.1)
def pY(w:Way):List Nat:=[w.1,w.2.1]
def ec(ws:List Way)(v:Nat):Nat:=(ws.flatMap pY).count v
def atW(x:Nat)(w:Way):Bool:=decide (w.1=x\/w.2.1=x)
def fK(w:Way):Prop:=w.1=w.2.1
def toW(x:Nat)(w:Way):Nat×List Nat:=if w.2.1=x then(w.1,w.2.2)else(w.2.1,w.2.2.reverse)
def mkW(a b:Nat)(es:List Nat):Way:=if a<=b then(a,b,es)else(b,a,es.reverse)
def nN(x:Nat)(u w:Way):Way:=mkW (toW x u).1 (toW x w).1 ((toW x u).2++(toW x w).2.reverse)
instance (w:Way):Decidable (fK w):=by unfold fK;infer_instance
def smW(x:Nat)(ws:List Way):List Way :=
 match ws.filter (atW x)with
 |[u,w]=>if fK u\/fK w then ws else ws.filter (λw=>!atW x w)++[nN x u w]
 |_=>ws
def sh(g:Gr):List Way:=g.E.map λi=>(min (g.tl i) (g.hd i),max (g.tl i) (g.hd i),[i])
structure Inv(g:Gr)(k:Nat)(ws:List Way):Prop where
 wk:∀w∈ws,Wk g w.1 w.2.2 w.2.1/\w.1<=w.2.1
 pm:(ws.flatMap λw=>w.2.2).Perm g.E
 ct:∀v,k<=v\/g.deg v≠2->ec ws v=g.deg v
 cl:∀v,v<k->g.deg v=2->∀w∈ws,atW v w=true->fK w
theorem Inv.ini:Inv g 0 (sh g) where
 wk:=λw hw=>by
  obtain⟨i,hi,rfl⟩:=bh.1 hw;refine⟨.one ⟨hi,?_⟩,by simp only[];omega⟩;simp only[];omega
 pm:=by
  unfold sh;rw[sz];simp
 ct:=λv _=>by
  rw[Fi];unfold ec sh;rw[sz];generalize g.E=l;induction l with
  |nil=>rfl
  |cons i r ih =>
    rw[cm,cm,fD,fD,ih];congr 1;unfold pY;simp only[];by_cases h:g.tl i<=g.hd i
    .rw[dK h,su h]
    .rw[jV om,uJ om];simp only[uL,pL];omega
 cl:=λv hv=>absurd hv (eX _)
theorem NN(a b:List Way)(v:Nat):ec (a++b) v=ec a v+ec b v:=by
 unfold ec;rw[da,fD]
theorem km(w:Way)(b:List Way)(v:Nat):ec (w::b) v=(pY w).count v+ec b v:=by
 unfold ec;rw[cm,fD]
theorem fY(w:Way)(v:Nat):(pY w).count v=(if w.1=v then 1 else 0)+(if w.2.1=v then 1 else 0):=by
 unfold pY;by_cases h1:w.1=v<;>by_cases h2:w.2.1=v<;>simp[h1,h2]
theorem ug(x v:Nat)(ws:List Way):ec ws v=ec (ws.filter (atW x)) v+ec (ws.filter λw=>!atW x w) v:=by
 unfold ec;rw[<-fD,<-da];exact(((iC (atW x) ws).flatMap_right pY).count_eq v).symm
theorem IE(x:Nat)(ws:List Way):ec (ws.filter λw=>!atW x w) x=0:=by
 unfold ec;rw[List.count_eq_zero];intro h;obtain⟨w,h1,h2⟩:=dM.1 h;obtain⟨_,h3⟩:=aO.1 h1;unfold atW at h3;unfold pY at h2;simp at h3 h2;omega
variable {ws:List Way}
theorem NM{x:Nat}(h:∀w∈ws,atW x w=true):ws.length<=ec ws x:=by
 induction ws with
 |nil=>exact fG _
 |cons w r ih =>
   rw[km,fY];have h1:=h w (bD ..);have h2:=ih λu hu=>h u (aV _ hu);unfold atW at h1;simp at h1;simp only[aA];split<;>split<;>omega
variable {w:Way}
theorem qu{x:Nat}(h:Wk g w.1 w.2.2 w.2.1)(ha:atW x w=true):Wk g (toW x w).1 (toW x w).2 x/\((toW x w).1=w.1/\w.2.1=x\/(toW x w).1=w.2.1/\w.1=x)/\(toW x w).2.Perm w.2.2:=by
 unfold toW;unfold atW at ha;simp at ha;split
 .rename_i e
  exact⟨e▸h,.inl ⟨rfl,e⟩,.refl _⟩
 .rename_i e
  have e2:w.1=x:=om;exact⟨by rw[<-e2];exact h.rev,.inr ⟨rfl,e2⟩,gM _⟩
theorem HG{a b:Nat}{es:List Nat}(h:Wk g a es b):Wk g (mkW a b es).1 (mkW a b es).2.2 (mkW a b es).2.1/\(mkW a b es).1<=(mkW a b es).2.1/\(mkW a b es).2.2.Perm es/\(∀v,(pY (mkW a b es)).count v=(if a=v then 1 else 0)+(if b=v then 1 else 0))/\prW (mkW a b es)=(min a b,max a b):=by
 unfold mkW;split
 .rename_i q
  refine⟨h,q,.refl _,λv=>fY _ v,?_⟩;unfold prW;simp only[];rw[dK q,su q]
 .rename_i q
  refine⟨h.rev,by simp only[];omega,gM _,λv=>?_,?_⟩
  .rw[fY];simp only[];omega
  .unfold prW;simp only[];rw[jV om,uJ om]
theorem Inv.two{x:Nat}(v:Inv g k ws)(hx:k<=x\/g.deg x≠2){u:Way}(hf:ws.filter (atW x)=[u,w])(hu:¬fK u)(hw:¬fK w) :
 g.deg x=2/\Wk g (toW x u).1 ((toW x u).2++(toW x w).2.reverse) (toW x w).1/\(toW x u).1≠x/\(toW x w).1≠x:=by
 have mu:u∈ws.filter (atW x):=by rw[hf];simp
 have mw:w∈ws.filter (atW x):=by rw[hf];simp
 obtain⟨mu1,mu2⟩:=aO.1 mu;obtain⟨mw1,mw2⟩:=aO.1 mw;obtain⟨a1,a2,a3⟩:=qu (v.wk u mu1).1 mu2;obtain⟨b1,b2,b3⟩:=qu (v.wk w mw1).1 mw2;have hd:g.deg x=2:=by
  rw[<-v.ct x hx,ug x x,IE,hf,km,km,fY,fY];unfold fK at hu hw;simp only[ec,gf,pL];rcases a2 with⟨_,q⟩|⟨_,q⟩<;>rcases b2 with⟨_,p⟩|⟨_,p⟩<;>(repeat' split)<;>omega
 refine⟨hd,?_,?_,?_⟩
 .obtain⟨e,e1,e2⟩:=a1.last;have b1':=b1.rev;cases hq:(toW x w).2.reverse with
  |nil=>exact absurd hq b1'.ne
  |cons e' bs =>
    rw[hq]at b1';have e2':=b1'.head;have hne:e≠e':=by
     have hp:(ws.flatMap λw=>w.2.2).Nodup:=(v.pm.nodup_iff).2 g.nd;have hp2:((ws.filter (atW x)).flatMap λw=>w.2.2).Nodup:=by
      have hq:=((((iC (atW x) ws).flatMap_right λw:Way=>w.2.2).nodup_iff).2 hp)
      rw[da]at hq;exact(aS.1 hq).1
     rw[hf]at hp2;simp only[cm,gf,cH]at hp2;have dj:=(aS.1 hp2).2.2;refine dj e (a3.mem_iff.1 (List.mem_of_getLast? e1)) e' (b3.mem_iff.1 ?_);rw[<-Jx,hq];exact bD ..
    have hn:=No hd e2 e2' hne;rw[<-hn]at b1' |-;exact a1.app e1 hd b1'
 .unfold fK at hu;rcases a2 with⟨p,q⟩|⟨p,q⟩<;>omega
 .unfold fK at hw;rcases b2 with⟨p,q⟩|⟨p,q⟩<;>omega
theorem Inv.step(v:Inv g k ws):Inv g (k+1) (smW k ws):=by
 have same:(∀u w,ws.filter (atW k)=[u,w]->fK u\/fK w)->Inv g (k+1) ws:=λhno=>{
  wk:=v.wk
  pm:=v.pm
  ct:=λx hx=>v.ct x (by rcases hx with h|h;· left;omega
                        .exact .inr h)
  cl:=λx hx hd w hw ha=>by
   by_cases e:x=k
   .subst e;have h2:=v.ct x (.inl (ab _));rw[hd,ug x x,IE,ep]at h2;have hlen:=NM (x:=x) (ws:=ws.filter (atW x)) λw hw=>(aO.1 hw).2;rw[h2]at hlen;have hm:w∈ws.filter (atW x):=aO.2 ⟨hw,ha⟩
    match hq:ws.filter (atW x),hlen with
    |[],_=>rw[hq]at hm;cases hm
    |[u],_ =>
      rw[hq]at hm h2;rw[bI]at hm;subst hm;rw[km,fY]at h2;simp only[ec,gf,pL]at h2;unfold fK;split at h2<;>split at h2<;>omega
    |[u,y],_ =>
      have hh:=hno u y hq;rw[hq]at hm h2;rw[km,km,fY,fY]at h2;simp only[ec,gf,pL]at h2;have mu:u∈ws.filter (atW x):=by rw[hq];simp
      have my:y∈ws.filter (atW x):=by rw[hq];simp
      have au:=(aO.1 mu).2;have ay:=(aO.1 my).2;unfold atW at au ay;simp at au ay;unfold fK at hh;exfalso;split at h2<;>split at h2<;>split at h2<;>split at h2<;>omega
    |_::_::_::_,hl=>simp at hl
   .exact v.cl x om hd w hw ha}
 unfold smW;split
 .rename_i u w hf
  split
  .rename_i hc
   exact same λu' w' e=>by rw[hf]at e;cases e;exact hc
  .rename_i hc
   have hu:¬fK u:=λh=>hc (.inl h);have hw:¬fK w:=λh=>hc (.inr h);have mu:u∈ws.filter (atW k):=by rw[hf];simp
   have mw:w∈ws.filter (atW k):=by rw[hf];simp
   obtain⟨mu1,mu2⟩:=aO.1 mu;obtain⟨mw1,mw2⟩:=aO.1 mw;obtain⟨a1,a2,a3⟩:=qu (v.wk u mu1).1 mu2;obtain⟨b1,b2,b3⟩:=qu (v.wk w mw1).1 mw2;obtain⟨hd,hwk,hax,hbx⟩:=v.two (.inl (ab _)) hf hu hw;obtain⟨m1,m2,m3,m4,_⟩:=HG hwk;refine⟨λz hz=>?_,?_,λx hx=>?_,λx hx hdx z hz ha=>?_⟩
   .rcases aC.1 hz with hz|hz
    .exact v.wk z (aO.1 hz).1
    .rw[bI]at hz;subst hz;exact⟨m1,m2⟩
   .rw[da];simp only[cm,gf,cH];refine List.Perm.trans ?_ v.pm;have hsp:=(iC (atW k) ws).flatMap_right λw:Way=>w.2.2;refine List.Perm.trans ?_ hsp;rw[da,hf];simp only[cm,gf,cH];refine(jt).trans ?_;refine List.Perm.append_right _ ?_;exact m3.trans (a3.append ((gM _).trans b3))
   .have hxk:x≠k:=by
     rintro rfl;rcases hx with h|h
     .omega
     .exact h hd
    have h1:=v.ct x (by rcases hx with h|h;· left;omega
                        .exact .inr h)
    rw[<-h1,ug k x ws,hf,NN,Nat.add_comm];congr 1;unfold nN;rw[km,km,km,m4,fY,fY];simp only[ec,gf,pL,ep];have h0:¬k=x:=λe=>hxk e.symm;rcases a2 with⟨p1,q1⟩|⟨p1,q1⟩<;>rcases b2 with⟨p2,q2⟩|⟨p2,q2⟩<;>rw[p1,p2,q1,q2]<;>simp only[if_neg h0]<;>omega
   .rcases aC.1 hz with hz|hz
    .obtain⟨z1,z2⟩:=aO.1 hz;have hxk:x≠k:=by
      rintro rfl;rw[ha]at z2;cases z2
     exact v.cl x om hdx z z1 ha
    .rw[bI]at hz;subst hz;exfalso;have hp:=m4 x;have ha':0<(pY (nN k u w)).count x:=by
      rw[fY];unfold atW at ha;simp at ha;split<;>split<;>omega
     unfold nN at ha';rw[hp]at ha';have hor:(toW k u).1=x\/(toW k w).1=x:=by
      split at ha'<;>split at ha'<;>first|exact .inl ‹_›|exact .inr ‹_›|omega
     rcases hor with rfl|rfl
     .have:(toW k u).1<k:=om;refine hu (v.cl _ this hdx u mu1 ?_);unfold atW;rcases a2 with⟨p,q⟩|⟨p,q⟩<;>simp[p]
     .have:(toW k w).1<k:=om;refine hw (v.cl _ this hdx w mw1 ?_);unfold atW;rcases b2 with⟨p,q⟩|⟨p,q⟩<;>simp[p]
 .rename_i hno
  exact same λu w e=>absurd e (hno u w)
def ya(g:Gr)(k:Nat):List Way:=(List.range k).foldl (λws x=>smW x ws) (sh g)
theorem wG(k:Nat):ya g (k+1)=smW k (ya g k):=by
 unfold ya;rw[dl,fC];rfl
theorem zW(k:Nat):Inv g k (ya g k):=by
 induction k with
 |zero=>exact Inv.ini
 |succ k ih=>rw[wG];exact ih.step
def atP(x:Nat)(p:Nat×Nat):Bool:=decide (p.1=x\/p.2=x)
def smP(x:Nat)(l:List (Nat×Nat)):Option (List (Nat×Nat)) :=
 match l.filter (atP x)with
 |[p,q]=>if p.1+p.2-x=q.1+q.2-x then none else some (l.filter (λp=>!atP x p)++[(min (p.1+p.2-x) (q.1+q.2-x),max (p.1+p.2-x) (q.1+q.2-x))])
 |_=>some l
def NC(ws:List Way):Prop:=∀w∈ws,¬fK w
theorem Lt(x:Nat)(ws:List Way):(ws.map prW).filter (atP x)=(ws.filter (atW x)).map prW/\(ws.map prW).filter (λp=>!atP x p)=(ws.filter λw=>!atW x w).map prW:=by
 rw[uK,uK];exact⟨rfl,rfl⟩
theorem MN(v:Inv g k ws)(hn:NC ws):(smP k (ws.map prW)=some ((smW k ws).map prW)/\NC (smW k ws))\/(smP k (ws.map prW)=none/\¬NC (smW k ws)):=by
 obtain⟨f1,f2⟩:=Lt k ws;unfold smP smW;rw[f1,f2];cases hf:ws.filter (atW k)with
 |nil=>exact .inl ⟨rfl,hn⟩
 |cons u r =>
   cases r with
   |nil=>exact .inl ⟨rfl,hn⟩
   |cons w r2 =>
     cases r2 with
     |cons y r3=>exact .inl ⟨rfl,hn⟩
     |nil =>
       have mu:u∈ws.filter (atW k):=by rw[hf];simp
       have mw:w∈ws.filter (atW k):=by rw[hf];simp
       obtain⟨mu1,mu2⟩:=aO.1 mu;obtain⟨mw1,mw2⟩:=aO.1 mw;have hu:=hn u mu1;have hw:=hn w mw1;obtain⟨a1,a2,a3⟩:=qu (v.wk u mu1).1 mu2;obtain⟨b1,b2,b3⟩:=qu (v.wk w mw1).1 mw2;obtain⟨hd,hwk,hax,hbx⟩:=v.two (.inl (ab _)) hf hu hw;obtain⟨m1,m2,m3,m4,m5⟩:=HG hwk;have ea:(prW u).1+(prW u).2-k=(toW k u).1:=by
        unfold prW;simp only[];rcases a2 with⟨p,q⟩|⟨p,q⟩<;>omega
       have eb:(prW w).1+(prW w).2-k=(toW k w).1:=by
        unfold prW;simp only[];rcases b2 with⟨p,q⟩|⟨p,q⟩<;>omega
       simp only[bm,oN,ea,eb];rw[if_neg (show ¬(fK u\/fK w) from λh=>h.elim hu hw)];by_cases e:(toW k u).1=(toW k w).1
       .right;rw[if_pos e];refine⟨rfl,λh=>h (nN k u w) (by simp) ?_⟩;have:=m5;unfold prW at this;unfold fK nN;simp only[aq]at this;rw[this.1,this.2,e];omega
       .left;rw[if_neg e];refine⟨?_,λz hz=>?_⟩
        .rw[dm];simp only[bm,oN];rw[show prW (nN k u w)=_ from m5]
        .rcases aC.1 hz with hz|hz
         .exact hn z (aO.1 hz).1
         .rw[bI]at hz;subst hz;have:=m5;unfold prW at this;unfold fK nN;simp only[aq]at this;rw[this.1,this.2];omega
theorem Gg(h:¬NC ws):¬NC (smW k ws):=by
 intro hn;refine h λw hw hc=>?_;have:w∈smW k ws:=by
  unfold smW;split
  .rename_i u y hf
   split
   .exact hw
   .rename_i hcc
    refine aW _ (aO.2 ⟨hw,?_⟩);cases ha:atW k w with
    |false=>rfl
    |true =>
      have:w∈ws.filter (atW k):=aO.2 ⟨hw,ha⟩;rw[hf]at this;simp only[aw,aZ,or_false]at this;rcases this with rfl|rfl
      .exact absurd (.inl hc) hcc
      .exact absurd (.inr hc) hcc
  .exact hw
 exact hn w this hc
def finP(l:List (Nat×Nat))(k:Nat):Option (List (Nat×Nat)):=(List.range k).foldl (λo x=>o.bind (smP x)) (some l)
theorem finP_succ(l:List (Nat×Nat))(k:Nat):finP l (k+1)=(finP l k).bind (smP k):=by
 unfold finP;rw[dl,fC];rfl
theorem Ly(h0:NC (sh g))(k:Nat):(finP ((sh g).map prW) k=some ((ya g k).map prW)/\NC (ya g k))\/(finP ((sh g).map prW) k=none/\¬NC (ya g k)):=by
 induction k with
 |zero=>exact .inl ⟨rfl,h0⟩
 |succ k ih =>
   rw[finP_succ,wG];rcases ih with⟨h1,h2⟩|⟨h1,h2⟩
   .rw[h1];exact MN (zW k) h2
   .rw[h1];exact .inr ⟨rfl,Gg h2⟩
variable {g:Gr}
def nb(l:List (Nat×Nat))(x:Nat):List Nat:=l.flatMap λp=>(if p.1=x then [p.2]else [])++(if p.2=x then [p.1]else [])
theorem mem_nb{x y:Nat}:y∈nb l x↔(x,y)∈l\/(y,x)∈l:=by
 unfold nb;rw[dM];constructor
 .rintro⟨⟨a,b⟩,h1,h2⟩;simp only[aC]at h2;rcases h2 with h2|h2
  .split at h2
   .rename_i e
    rw[bI]at h2;subst e h2;exact .inl h1
   .cases h2
  .split at h2
   .rename_i e
    rw[bI]at h2;subst e h2;exact .inr h1
   .cases h2
 .rintro (h|h)
  .exact⟨_,h,by simp⟩
  .exact⟨_,h,by simp⟩
theorem HA(l:List (Nat×Nat))(x:Nat):(nb l x).length=(l.flatMap λp=>[p.1,p.2]).count x:=by
 unfold nb;induction l with
 |nil=>rfl
 |cons p r ih =>
   rw[cm,cm,aG,fD,ih];congr 1;by_cases h1:p.1=x<;>by_cases h2:p.2=x<;>simp[h1,h2]
def Srt(l:List (Nat×Nat)):Prop:=∀p∈l,p.1<p.2
def hds(n:Nat)(l:List (Nat×Nat)):List Nat:=(List.range n).filter λv=>decide (0<(nb l v).length)
def Bel(n:Nat)(l:List (Nat×Nat)):Prop:=∀p∈l,p.1<n/\p.2<n
theorem hds_nodup(n:Nat)(l:List (Nat×Nat)):(hds n l).Nodup:=List.nodup_range.filter _
theorem mem_hds{n:Nat}(hb:Bel n l){v:Nat}:v∈hds n l↔∃y,y∈nb l v:=by
 unfold hds;rw[aO,aB,aN];constructor
 .rintro⟨_,h⟩;exact List.exists_mem_of_length_pos h
 .rintro⟨y,hy⟩;refine⟨?_,List.length_pos_of_mem hy⟩;rcases mem_nb.1 hy with h|h
  .exact(hb _ h).1
  .exact(hb _ h).2
def doc5(n:Nat)(l:List (Nat×Nat)):Prop:=l.Nodup/\l.length=10/\(hds n l).length=5
def sideB(l:List (Nat×Nat))(h0 v:Nat):Bool:=decide (v∈nb l h0)
def doc33(n:Nat)(l:List (Nat×Nat)):Prop:=l.Nodup/\l.length=9/\∃h0 r,hds n l=h0::r/\r.length=5/\(∀p∈l,sideB l h0 p.1≠sideB l h0 p.2)/\(nb l h0).length=3
theorem zU{α:Type}(h:List α)(p:α->Bool):(h.filter p).length+(h.filter λy=>!p y).length=h.length:=by
 have:=(iC p h).length_eq;rw[aG]at this;exact this
end Go.Kur
namespace Go.Proofs.YtcfncejilmimpaaGreat
open Go.Am
variable {P:Int×Int->Bool}{bytes e:Nat}{caps:List AV}{h:AH}{k:FuncId}{v:AV}{xs:List (List AV)}{y:Int}
theorem Ae{a b:Int×Int}:fj .eql (.flat [.i64,.i64]) (.agg (eE a)) (.agg (eE b))=some (.bool (a==b)):=by
 obtain⟨a1,a2⟩:=a;obtain⟨b1,b2⟩:=b;show Option.map AV.bool (jf (.flat [.i64,.i64]) (.agg (eE (a1,a2))) (.agg (eE (b1,b2))))=_;simp only[jf,eqF,eE,eK,and_self,if_true];by_cases h1:a1=b1
 .subst h1;by_cases h2:a2=b2
  .subst h2;simp
  .simp[h2]
 .simp[h1]
theorem Ip{xs:List (Int×Int)}(hv:SlE h v xs)(hl:xs.length<2^40)
 (hf:∀x∈xs,∀h',Ext h.next h h'->C prg k ([.agg (eE x)]++caps) h' λr h''=>r=.bool (P x)/\Ext h'.next h' h'') :
 C prg 55 [v,.fn k caps] h λr h'=>r=.int .i64 (jH P xs 0)/\Ext h.next h h':=by
 refine Oj pf55 ?_;have hlen:=hv.len;rw[ah]at hlen;refine ai (aE (Mi0) ?_);refine ai (ai (aE (Mi1 hlen) ?_));refine ai (xg (λts h1=>jH P xs 0=-1/\Ext h.next h h1) (cZ (gY (λn ts h1=>∃i,n=xs.length-i/\i<=xs.length/\Ext h.next h h1/\jH P (xs.drop i) i=jH P xs 0/\bt ts 0=v/\bt ts 1=.fn k caps/\bt ts 7=.int .i64 (xs.length:Nat)/\bt ts 8=.int .i64 (i:Nat)) ?_ (n:=xs.length) ⟨0,rfl,fG _,Oh,by rw[bN],Ii0,Ii0,Ii0,by simp only[am,aJ,↓reduceIte,Nat.reduceEqDiff,Int.reduceEq,Nat.reduceAdd,Nat.reduceLeDiff,reduceCtorEq,bL];rfl⟩)) ?_)
 .rintro n ts h1 ⟨i,rfl,hi,ex,hF,e0,e1,e7,e8⟩;refine ai (aE (M2 e7 e8) ?_);refine ai (lV (t:=decide (i<xs.length)) (Z1 @eq) (λq=>?_) λq=>?_)
  .have q:i<xs.length:=dg q;obtain⟨b,p,a1,r1,_,_⟩:=(hv.ext ex (ab _)).at (fX (f:=eE) q);refine bM (ai (cZ (ai (aE (M1 e8) ?_))));have hc:=hf _ (aR q) h1 ex;refine ai (cJ (mD 5 (M6 e0 e1 e7 e8 a1 r1) rfl (Z6 e0 e1 e7 e8 a1 r1) (M6 e0 e1 e7 e8 a1 r1) (M6 e0 e1 e7 e8 a1 r1) (hc) λr h2 hq=>?_));obtain⟨rfl,ex2⟩:=hq;have ex3:=ex.trans (ex2.mono ex.nx);refine bU (M0) ?_;refine lV (t:=P xs[i]) (Z0) (λq2=>?_) λq2=>?_
   .refine ai (aE (M0) ?_);refine bP ⟨.int .i64 (i:Nat),(by simp only[rs,rf55,am,aJ,simprocAttr]<;>rfl),?_,ex3⟩;rw[<-hF,kK P q,if_pos q2]
   .have w1:IntKind.i64.wrap (((i:Nat):Int)+1)=((i+1:Nat):Int):=ft om om;refine bM (aE (M2 e8 w1) ?_);refine⟨xs.length-(i+1),om,i+1,rfl,om,ex3,?_,Z1 e0,Z1 e1,Z1 e7,Z2 e8 w1⟩;rw[<-hF,kK P q,if_neg (by simp[q2])]
  .have q:¬i<xs.length:=of_decide_eq_false q;refine fO ⟨λ_=>⟨?_,ex⟩,λe=>absurd rfl e⟩;rw[<-hF,dS om];rfl
 .rintro ts h1 ⟨hF,ex⟩;refine ai (aE (M0) ?_);exact bP ⟨.int .i64 (-1),(by simp only[rs,rf55,am,aJ,simprocAttr]<;>rfl),by rw[hF],ex⟩
theorem wS{xs:List (Int×Int)}(hv:SlE h v xs)(hl:xs.length<2^40)
 (hf:∀x∈xs,∀h',Ext h.next h h'->C prg k ([.agg (eE x)]++caps) h' λr h''=>r=.bool (P x)/\Ext h'.next h' h'') :
 C prg 38 [v,.fn k caps] h λr h'=>r=.bool (xs.any P)/\Ext h.next h h':=by
 refine Oj pf38 ?_;refine ai (aE (Mi0) ?_);refine ai (cJ (bK 2 (Mi0) rfl (Zi0) (Mi0) (Ip hv hl hf) λr h2 hq=>?_));obtain⟨rfl,ex⟩:=hq;have hb:decide ((0:Int)<=jH P xs 0)=xs.any P:=by
  have:=(oC P xs 0).2;cases hq:xs.any P with
  |true=>rw[aN];rw[hq]at this;simp at this;omega
  |false=>rw[be];have:=this.2 hq;omega
 refine bU (M1 hb) ?_;exact bP ⟨_,(by simp only[rs,rf38,am,aJ,simprocAttr]<;>rfl),rfl,ex⟩
theorem sI{xs:List (Int)}(hv:SlI h v xs)(hl:xs.length<2^40) :
 C prg 48 [v,.int .i64 y] h λr h'=>r=.int .i64 (jH (y==·) xs 0)/\Ext h.next h h':=by
 refine Oj pf48 ?_;have hlen:=hv.len;rw[ah]at hlen;have ex0:Ext h.next h h:=Oh;refine ai (aE (Mi0) ?_);refine ai (ai (aE (Mi1 hlen) ?_));refine ai (xg (λts h1=>jH (y==·) xs 0=-1/\h1=h) (cZ (gY (λn ts h1=>∃i,n=xs.length-i/\i<=xs.length/\h1=h/\jH (y==·) (xs.drop i) i=jH (y==·) xs 0/\bt ts 0=v/\bt ts 1=.int .i64 y/\bt ts 7=.int .i64 (xs.length:Nat)/\bt ts 8=.int .i64 (i:Nat)) ?_ (n:=xs.length) ⟨0,rfl,fG _,rfl,by rw[bN],Ii0,Ii0,Ii0,by simp only[am,aJ,↓reduceIte,Nat.reduceEqDiff,Int.reduceEq,Nat.reduceAdd,Nat.reduceLeDiff,reduceCtorEq,bL];rfl⟩)) ?_)
 .rintro n ts h1 ⟨i,rfl,hi,rfl,hF,e0,ek,e7,e8⟩;refine ai (aE (M2 e7 e8) ?_);refine ai (lV (t:=decide (i<xs.length)) (Z1 @eq) (λq=>?_) λq=>?_)
  .have q:i<xs.length:=dg q;obtain⟨b,p,a1,r1,_,_⟩:=(hv.ext ex0 (ab _)).at (fX (f:=eI) q);refine bM (ai (cZ (ai (aE (M1 e8) ?_))));have ceq:decide (y=xs[i])=(y==xs[i]):=rfl;refine ai (aE (by simp only[am,aJ,simprocAttr,e0,ek,e7,e8,a1,r1,ceq,eI]<;>rfl) ?_);refine lV (t:=y==xs[i]) (Z0) (λq2=>?_) λq2=>?_
   .refine ai (aE (M0) ?_);refine bP ⟨.int .i64 (i:Nat),(by simp only[rs,rf48,am,aJ,simprocAttr]<;>rfl),?_,ex0⟩;rw[<-hF,kK _ q,if_pos q2]
   .have w1:IntKind.i64.wrap (((i:Nat):Int)+1)=((i+1:Nat):Int):=ft om om;refine bM (aE (M2 e8 w1) ?_);refine⟨xs.length-(i+1),om,i+1,rfl,om,rfl,?_,Z1 e0,Z1 ek,Z1 e7,Z2 e8 w1⟩;rw[<-hF,kK _ q,if_neg (by simp[q2])]
  .have q:¬i<xs.length:=of_decide_eq_false q;refine fO ⟨λ_=>⟨?_,rfl⟩,λe=>absurd rfl e⟩;rw[<-hF,dS om];rfl
 .rintro ts h1 ⟨hF,rfl⟩;refine ai (aE (M0) ?_);exact bP ⟨.int .i64 (-1),(by simp only[rs,rf48,am,aJ,simprocAttr]<;>rfl),by rw[hF],ex0⟩
theorem uo{xs:List (Int)}(hv:SlI h v xs)(hl:xs.length<2^40) :
 C prg 24 [v,.int .i64 y] h λr h'=>r=.bool (xs.any (y==·))/\Ext h.next h h':=by
 refine Oj pf24 ?_;refine ai (aE (Mi0) ?_);have ex0:Ext h.next h h:=Oh;have hc:=sI (y:=y) hv hl;refine ai (cJ (bK 2 (Mi0) rfl (Zi0) (Mi0) (hc) λr h2 hq=>?_));obtain⟨rfl,ex⟩:=hq;have hb:decide ((0:Int)<=jH (y==·) xs 0)=xs.any (y==·):=by
  have:=(oC (y==·) xs 0).2;cases hq:xs.any (y==·)with
  |true=>rw[aN];rw[hq]at this;simp at this;omega
  |false=>rw[be];have:=this.2 hq;omega
 refine bU (M1 hb) ?_;exact bP ⟨_,(by simp only[rs,rf24,am,aJ,simprocAttr]<;>rfl),rfl,ex0.trans (ex.mono ex0.nx)⟩
open Go.Am
theorem Hj{xs:List Int}:(xs.flatMap eI).all AV.one=true:=by
 rw[cF];intro x hx;obtain⟨y,_,hy⟩:=dM.1 hx;simp only[eI,aw,aZ,or_false]at hy;subst hy;rfl
theorem LB(hv:Sl h e v xs):∃b,fj .eql .nls v .nils=some (.bool b)/\(b=true->v=.nils/\xs=[])/\(b=false->v≠.nils):=by
 rcases hv with⟨rfl,rfl|rfl⟩|⟨b,o,c,cs,ro,rfl,hg,hc,hle,hx⟩
 .exact⟨true,rfl,λ_=>⟨rfl,rfl⟩,λq=>by cases q⟩
 .exact⟨false,rfl,λq=>(by cases q),λ_=>(by simp)⟩
 .exact⟨false,rfl,λq=>(by cases q),λ_=>(by simp)⟩
theorem Mj(hv:Sl h e v xs)(ho:xs.flatten.all AV.one=true)(hl:xs.length*bytes<bd)(hl2:xs.length<bd) :
 ∃r h',gI (h.new (.cells [] e false)) e bytes (.sl h.next 0 0 0) v=some (r,h')/\IsSl h' e h.next r xs.flatten/\Ext h.next h h'/\r≠.nils:=by
 have hv':=hv.ext (Og (o:=.cells [] e false) (ab _)) (ab _);obtain⟨s1,s2⟩:=hv'.src;have g0:(h.new (.cells [] e false)).get h.next=some (.cells [] e false):=by rw[AH.get_new,if_pos rfl]
 by_cases hz:xs.length=0
 .refine⟨.sl h.next 0 0 0,_,?_,.inr ⟨h.next,0,ab _,rfl,by rw[g0,bB.1 hz];rfl,by rw[s2,hz]⟩,Og (ab _),by simp⟩;simp only[gI,s1,ho,if_true,hz]
 .refine⟨.sl (h.next+1) 0 xs.length xs.length,((h.new (.cells [] e false)).put h.next .dead).new (.cells xs.flatten e false),?_,.inr ⟨h.next+1,xs.length,om,rfl,by rw[AH.get_new,if_pos (by simp)],s2⟩,(Og (ab _)).trans ((Ext.put (ab _)).trans (Og (by simp))),by simp⟩;simp only[gI,s1,ho,if_true,if_neg hz,g0,bC g0];rw[bX,if_neg om,if_pos ⟨hl,hl2⟩];simp
theorem wU{xs:List (Int)}(hv:SlI h v xs)(hl:xs.length<2^34) :
 C prg 33 [v] h λr h'=>IsSl h' 1 h.next r (xs.flatMap eI)/\Ext h.next h h'/\(r=.nils↔v=.nils):=by
 refine Oj pf33 ?_;refine ai (aE (Mi0) ?_);obtain⟨b,hb,k1,k2⟩:=LB hv;refine ai (ai (aE (Mi1 hb) ?_));refine lV (t:=b) (Z0) (λq=>?_) λq=>?_
 .obtain⟨rfl,hx⟩:=k1 q;rw[List.map_eq_nil_iff]at hx;subst hx;refine ai (aE (M0) ?_);exact bP ⟨.nils,(by simp only[rs,rf33,am,aJ,simprocAttr]<;>rfl),.inl ⟨rfl,rfl⟩,Oh,by simp⟩
 .have hvv:=k2 q;refine bM ?_;obtain⟨r,h',a1,a2,a3,a4⟩:=Mj (bytes:=8) hv Hj (by rw[ah];unfold bd;omega) (by rw[ah];unfold bd;omega);refine ai (aE (Mi1 a1) ?_);exact bP ⟨r,(by simp only[rs,rf33,am,aJ,simprocAttr]<;>rfl),a2,a3,by simp[a4,hvv]⟩
open Go.Am
theorem NW{gb len cap:Nat}{A Z:List AV}(hg:h.get gb=some (.cells (A++Z) e false))(hA:A.length=len*e)(hv:Sl h e v xs)(ho:xs.flatten.all AV.one=true)(hc:len+xs.length<=cap)(hz:xs.length*e<=Z.length) :
 ∃h',gI h e bytes (.sl gb 0 len cap) v=some (.sl gb 0 (len+xs.length) cap,h')/\Upd h h' gb (.cells (A++xs.flatten++Z.drop (xs.length*e)) e false):=by
 obtain⟨s1,s2⟩:=hv.src;by_cases hn:xs.length=0
 .refine⟨h,?_,?_⟩
  .simp only[gI,s1,ho,if_true,hn,ep]
  .have:xs=[]:=bB.1 hn;subst this;simp only[nh,cH,aQ,oM,bN];exact Upd.refl hg
 .have w:bV h gb (0+len*e) xs.flatten=some (h.put gb (.cells (A++xs.flatten++Z.drop (xs.length*e)) e false)):=by
   rw[fI hg,bX,if_pos (by rw[s2,aG];omega)];congr 3;unfold dQ;rw[<-hA,List.take_left',Jz,List.drop_of_length_le om,s2]
   .simp
   .rfl
  refine⟨_,?_,Oi hg⟩;simp only[gI,s1,ho,if_true,if_neg hn,if_pos hc,w,aI]
theorem fx{α:Type}{xss:List (List α)}{k:Nat}(hk:k<xss.length):(xss.take (k+1)).flatten=(xss.take k).flatten++xss[k]:=by
 rw[cj hk,kh];simp
theorem jZ{α:Type}(xss:List (List α))(k:Nat):(xss.take k).flatten.length<=xss.flatten.length:=by
 conv=>rhs;rw[<-cQ k xss]
 rw[kh,aG];omega
theorem Gi:slV h e .nils none (some (.int .i64 0)) none=some .nils:=rfl
theorem yY{z:List AV}:∀n,(df z n).length=n*z.length
 |0=>by simp[df]
 |n+1=>by simp only[df,aG,yY n,dr];omega
theorem vF{z:List AV}:∀k n,(df z (k+n)).drop (k*z.length)=df z n
 |0,n=>by simp
 |k+1,n=>by
   have e1:df z (k+1+n)=z++df z (k+n):=by rw[show k+1+n=(k+n)+1 by omega];rfl
   have e2:(k+1)*z.length=z.length+k*z.length:=by rw[dr];omega
   rw[e1,e2,<-NZ,pK,vF k n]
theorem Ir{N:Nat}(hN:N<2^34):C prg 107 [.nils,.int .i64 (N:Nat)] h λr h'=>(N=0/\r=.nils/\h'=h)\/(0<N/\r=.sl h.next 0 0 N/\h'=h.new (.cells (df [.int .i64 0] N) 1 false)):=by
 refine Oj pf107 ?_;have c1:decide (((N:Nat):Int)<0)=false:=aL om;have w1:IntKind.i64.wrap (0-0)=0:=by decide
 have w2:IntKind.i64.wrap (((N:Nat):Int)-0)=((N:Nat):Int):=by rw[ft om om];omega
 have cp:Jb .nils=some (.int .i64 0):=rfl;refine ai (aE (Mi0) ?_);refine ai (ai (aE (Mi0) ?_));refine dJ (I1 c1) (bM ?_);refine ai (ai (aE (Ji3 cp w1 w2) ?_));refine ai (ai (aE (J0) ?_));refine lV (t:=decide (0<N)) (by simp only[am,aJ,↓reduceIte,Nat.reduceEqDiff,Int.reduceEq,Nat.reduceAdd,Nat.reduceLeDiff,reduceCtorEq];exact congrArg AV.bool (by simp only[decide_eq_decide];omega)) (λq=>?_) λq=>?_
 .have q:0<N:=dg q;have q0:¬((N:Nat):Int)=0:=om;have az:Cn h [.int .i64 0] 8 .nils (.int .i64 (N:Nat))=some (.sl h.next 0 N N,h.new (.cells (df [.int .i64 0] N) 1 false)):=by
   simp only[Cn,if_neg q0];rw[if_pos ⟨om,by unfold bd;omega,by unfold bd;omega⟩];simp
  have g1:(h.new (.cells (df [.int .i64 0] N) 1 false)).get h.next=some (.cells (df [.int .i64 0] N) 1 false):=by rw[AH.get_new,if_pos rfl]
  have s1:slV (h.new (.cells (df [.int .i64 0] N) 1 false)) 1 (.sl h.next 0 N N) none (some (.int .i64 0)) none=some (.sl h.next 0 0 N):=by
   have:=ku (k:=.i64) (show 0<=N by omega);simp only[slV,g1,if_true,vf,this,aI];have h0:bnd (.int .i64 0) N=some 0:=this;rw[h0];simp only[aI];split<;>simp
  refine aE (by simp only[am,aJ,simprocAttr,bL,eB,bO,cp,Gi,az,s1]<;>rfl) ?_;refine ai (aE (M0) ?_);exact bP ⟨_,(by simp only[rs,rf107,am,aJ,simprocAttr]<;>rfl),.inr ⟨q,rfl,rfl⟩⟩
 .have q:¬0<N:=of_decide_eq_false q;refine bM (ai (aE (Mi0) ?_));exact bP ⟨_,(by simp only[rs,rf107,am,aJ,simprocAttr]<;>rfl),.inl ⟨om,rfl,rfl⟩⟩
theorem uq{vs:List AV}{xss:List (List (Int))}(hv:Sl h 1 v (vs.map λx=>[x]))(hl:vs.length=xss.length)(hx:∀(i:Nat) (w:AV) (xs:List (Int)),vs[i]?=some w->xss[i]?=some xs->SlI h w xs)(hn:xss.length<2^30)(hs:xss.flatten.length<2^34) :
 C prg 95 [v] h λr h'=>IsSl h' 1 h.next r (xss.flatten.flatMap eI)/\Ext h.next h h':=by
 have el:=hv.len;rw[ah,hl]at el;have hvk:∀(k:Nat) (hk:k<xss.length),∃b p,iQ 1 v (.int .i64 (k:Nat))=some (.ptr b p)/\ar h b p 1=some [vs[k]'om]/\b<h.next:=λk hk=>hv.at1 (by rw[aF,ae om];rfl);have hxk:∀(k:Nat) (hk:k<xss.length),SlI h (vs[k]'om) xss[k]:=λk hk=>hx k _ _ (ae _) (ae hk);refine Oj pf95 ?_;refine ai (aE (Mi0) ?_);refine ai (aE (M0) ?_);refine ai (ai (aE (Mi1 el) ?_));refine iI (α:=Unit) (N:=xss.length) (λk _=>[(0,v),(9,v),(3,.int .i64 ((xss.take k).flatten.length:Nat))]) (λ_ _ h'=>h'=h) () (λ_ _=>rfl) om (by simp only[cE,cX,am,aJ,↓reduceIte,Nat.reduceEqDiff,Int.reduceEq,Nat.reduceAdd,Nat.reduceLeDiff,reduceCtorEq,bL,eT,nh,bJ]) rfl ?_ ?_
 .rintro k _ ts h1 hk rfl ⟨ei,en,e0,e9,e3,-⟩;simp only at ei en e0 e9 e3;obtain⟨b1,p1,a1,r1,_⟩:=hvk k hk;have lk:=(hxk k hk).len;rw[ah]at lk;have hle:=jZ xss (k+1);rw[fx hk,aG]at hle;have w1:IntKind.i64.wrap ((((xss.take k).flatten.length:Nat):Int)+((xss[k].length:Nat):Int))=(((xss.take (k+1)).flatten.length:Nat):Int):=by
   rw[ft om om,fx hk,aG];omega
  have c1:decide ((((xss.take (k+1)).flatten.length:Nat):Int)<0)=false:=aL om;refine ai (aE (M4 e9 ei a1 r1) ?_);refine ai (aE (M3 e3 lk w1) ?_);refine ai (aE (M1 c1) ?_);refine dJ (I0) (bM ⟨(),rfl,O4 ei en e0 e9⟩)
 .rintro _ ts h1 rfl ⟨e0,e9,e3,-⟩;simp only at e0 e9 e3;rw[dL]at e3;refine ai (cJ (bK 1 (M1 e3) rfl (Z1 e3) (M1 e3) (Ir hs) λg h2 hq=>?_));refine bU (M0) ?_;refine ai (ai (aE (M2 e0 el) ?_));rcases hq with⟨hz,rfl,rfl⟩|⟨hz,rfl,rfl⟩
  .refine iI (α:=Unit) (N:=xss.length) (λ_ _=>[(25,v),(6,.nils)]) (λ_ _ h'=>h'=h2) () (λ_ _=>rfl) om (O1 e0) rfl ?_ ?_
   .rintro k _ ts h1 hk rfl ⟨ei,en,e25,e6,-⟩;simp only at ei en e25 e6;obtain⟨b1,p1,a1,r1,_⟩:=hvk k hk;have hle:=jZ xss (k+1);rw[fx hk,aG]at hle;have hk0:xss[k]=[]:=bB.1 om;have s1:=(hxk k hk).src.1;rw[hk0]at s1;have ap:gI h1 1 8 .nils (vs[k]'om)=some (.nils,h1):=by simp[gI,s1]
    refine ai (aE (M4 e25 ei a1 r1) ?_);refine aE (M2 e6 ap) ?_;exact⟨(),rfl,O3 ei en e25⟩
   .rintro _ ts h1 rfl ⟨e25,e6,-⟩;simp only at e25 e6;refine ai (aE (M1 e6) ?_);exact bP ⟨_,(by simp only[rs,rf95,am,aJ,simprocAttr]<;>rfl),.inl ⟨rfl,by rw[bB.1 hz];rfl⟩,Oh⟩
  .have g2:(h1.new (.cells (df [.int .i64 0] xss.flatten.length) 1 false)).get h1.next=some (.cells (df [.int .i64 0] xss.flatten.length) 1 false):=by rw[AH.get_new,if_pos rfl]
   have x2:Ext h1.next h1 (h1.new (.cells (df [.int .i64 0] xss.flatten.length) 1 false)):=Og (ab _);generalize h1.new (.cells (df [.int .i64 0] xss.flatten.length) 1 false)=h2 at *
   refine iI (α:=Unit) (N:=xss.length) (λk _=>[(25,v),(6,.sl h1.next 0 (xss.take k).flatten.length xss.flatten.length)])
    (λk _ h'=>h'.get h1.next=some (.cells ((xss.take k).flatten.flatMap eI++df [.int .i64 0] (xss.flatten.length-(xss.take k).flatten.length)) 1 false)/\Ext h1.next h1 h') () (λ_ _=>rfl) om (by simp only[cE,cX,am,aJ,↓reduceIte,Nat.reduceEqDiff,Int.reduceEq,Nat.reduceAdd,Nat.reduceLeDiff,reduceCtorEq,e0,eT,nh,aQ]) ⟨g2,x2⟩ ?_ ?_
   .rintro k _ ts h3 hk ⟨j1,j2⟩ ⟨ei,en,e25,e6,-⟩;simp only at ei en e25 e6;obtain⟨b1,p1,a1,r1,hb⟩:=hvk k hk;have hle:=jZ xss (k+1);rw[fx hk,aG]at hle;have fl:((xss.take k).flatten.flatMap eI).length=(xss.take k).flatten.length*1:=fJ (f:=eI) (e:=1) (λ_=>rfl) _;obtain⟨h4,p4,u4⟩:=NW (bytes:=8) (cap:=xss.flatten.length) j1 fl ((hxk k hk).ext j2 (ab _)) Hj (by rw[ah];omega) (by rw[ah,yY];simp only[aA,aQ];omega);have ef:(xss.take k).flatten.length+xss[k].length=(xss.take (k+1)).flatten.length:=by rw[fx hk,aG]
    rw[ah,ef]at p4;have e2:(xss.take k).flatten.flatMap eI++(xss[k].map eI).flatten++(df [.int .i64 0] (xss.flatten.length-(xss.take k).flatten.length)).drop ((xss[k].map eI).length*1)=(xss.take (k+1)).flatten.flatMap eI++df [.int .i64 0] (xss.flatten.length-(xss.take (k+1)).flatten.length):=by
     rw[fx hk,da,<-Jy,ah,aG];congr 1;rw[show xss.flatten.length-(xss.take k).flatten.length=xss[k].length+(xss.flatten.length-((xss.take k).flatten.length+xss[k].length)) by omega];exact vF (z:=[.int .i64 0]) _ _
    rw[e2]at u4;have r1':ar h3 b1 p1 1=some [vs[k]'om]:=by rw[cN (j2.gt _ hb)];exact r1
    refine ai (aE (M4 e25 ei a1 r1') ?_);refine aE (M2 e6 p4) ?_;exact⟨(),⟨u4.get,j2.trans (u4.ext (ab _))⟩,O3 ei en e25⟩
   .rintro _ ts h3 ⟨j1,j2⟩ ⟨e25,e6,-⟩;simp only at e25 e6;rw[dL]at j1 e6;refine ai (aE (M1 e6) ?_);refine bP ⟨_,(by simp only[rs,rf95,am,aJ,simprocAttr]<;>rfl),.inr ⟨h1.next,xss.flatten.length,ab _,rfl,?_,fJ (f:=eI) (e:=1) (λ_=>rfl) _⟩,j2⟩;rw[j1,eW];simp[df]
end Go.Proofs.YtcfncejilmimpaaGreat
