/- (*join.Part).cut. -/
import Derived.Test.YtahepnbflofndaaGreatDoorKLq
import Derived.Test.YtahepnbflofndaaGreatDoorKLf
import Derived.Test.YtahepnbflofndaaGreatDoorKNi
import Derived.Test.YtahepnbflofndaaGreatDoorKRbs
set_option linter.all false
namespace Go.Proofs.YtahepnbflofndaaGreatDoor
open Go.Am
theorem Bi {h:AH}{pb o:Nat}{nv:AV}{xs:List Int}{x:Int} (r2:ak h pb (o+2) 1=some [nv]) (hv:SlI h nv xs) (hs:xs.Pairwise (·≤·)) (hxl:xs.length<2 ^ 40) :
 C prg 101 [.ptr pb o,.int .i64 x] h λr h'=>r=.tup [.int .i64 ((xs.countP (λu=>decide (u<x)):Nat):Int),.bool (decide (x∈xs))]∧h'=h:=by
 refine Mw pf101 ?_;refine ae (aj (Mi0) ?_);refine ae (bN (bo 5 (Mi1 r2) rfl (Zi1 r2) (Mi1 r2) (pB (t:=x) hv hs hxl) λr h2 hq=>?_));obtain⟨rfl,rfl⟩:=hq;refine bH (M0) ?_;exact br ⟨_,(by simp only[rs,rf101,am,aK,simprocAttr]<;>rfl),rfl,rfl⟩
def PF (lo:Nat) (h:AH) (x:AV×AV) (p:List Int×List (List Int)):Prop:=∀ h'':AH,(∀ c,lo≤c→c<h.next→h''.get c=h.get c)→SlI h'' x.1 p.1∧SlL h'' x.2 p.2
theorem oC {b:List Nat}{l:List Int}{k:Nat} (hk:k<l.length):jH b (l.take (k+1))=jH b (l.take k)++if l[k]∈nI b then [AR b l[k]] else []:=by
 unfold jH;rw[aG hk,bI,cj];congr 1;by_cases q:l[k]∈nI b
 ·rw[if_pos q,eZ (by unfold inb; exact aH q)];rfl
 ·rw[if_neg q,fc (by unfold inb; simpa using q)];rfl
theorem oD {n:Nat}{E:List (Int×Int)}{b:List Nat}{l:List Int}{k:Nat} (hk:k<l.length):gj n E b (l.take (k+1))=gj n E b (l.take k)++if l[k]∈vsM n E (nI b) then [((cV n E (nI b) l[k]:Nat):Int)] else []:=by
 unfold gj;rw[aG hk,bI,cj];congr 1;by_cases q:l[k]∈vsM n E (nI b)
 ·rw[if_pos q,eZ (by simpa using q)];rfl
 ·rw[if_neg q,fc (by simpa using q)];rfl
theorem DL {b:List Nat} (hr:(nI b).Pairwise (·<·)) {i:Int} (h:i∈nI b):AR b i=(((nI b).countP λu=>decide (u<i):Nat):Int):=by
 have:=lZ (nI b) i 0 hr h;rw[bM] at this;exact this
theorem ur {b:List Nat}{l:List Int}:(jH b l).length≤l.length:=by
 unfold jH;rw[ai];exact dj _ _
theorem ut {n:Nat}{E:List (Int×Int)}{b:List Nat}{l:List Int}:(gj n E b l).length≤l.length:=by
 unfold gj;rw[ai];exact dj _ _
theorem xJ (l:List Int):(l.flatMap eI).length=l.length:=by rw[dC (f:=eI) (e:=1) (λ_=>rfl),aO]
theorem LI {ws:List AV}{k:Nat}{v w:AV}:(ws.set k v).set k w=ws.set k w:=List.set_set ..
set_option maxHeartbeats 2000000 in
theorem GW {h:AH}{pb o n V:Nat}{nmv nbv ordv outv:AV}{E:List (Int×Int)}{bk:List Nat}{order:List Int}{outs:List (List Int)} (hV:(vsM n E (nI bk)).length=V)
 (r0:ak h pb o 1=some [.int .i64 (V:Nat)]) (r2:ak h pb (o+2) 1=some [nmv]) (r3:ak h pb (o+3) 1=some [nbv]) (hpb:pb<h.next)
 (hnm:SlI h nmv (vsM n E (nI bk))) (hnb:SlI h nbv (nI bk)) (hrise:(nI bk).Pairwise (·<·)) (ho:SlI h ordv order) (hu:SlL h outv outs) (hlu:outs.length=n) (hb:bk.length≤128) (hn:n≤64) (hol:order.length≤200) (hl3:∀ l∈outs,l.length≤200) :
 C prg 65 [.ptr pb o,.agg [ordv,outv]] h λr h'=>Ext h.next h h'∧∃ a u,r=.agg [a,u]∧(a.cells=[a]∧a.one=true)∧(u.cells=[u]∧u.one=true)∧PF h.next h' (a,u) (gj n E bk order,jS n E bk outs):=by
 have hvl:=qw n E (nI bk);have hvlt:=pJ n E (nI bk);have hvs:=hvlt.imp (fun {a b} (q:a<b)=>Fg q);have hnbs:=hrise.imp (fun {a b} (q:a<b)=>Fg q);obtain⟨oc,oo⟩:=ho.cells;obtain⟨uc,uo⟩:=hu.cells;have lno:=ho.len;rw[ai] at lno;have lnm:=hnm.len;rw[ai] at lnm;refine Mw pf65 ?_;refine ae (aj (Mi0) ?_);have ga:∀ c,((h.new (.cells [ordv,outv] 2 false)).new (.cells [.nils,.nils] 2 false)).get c=if c=h.next+1 then some (.cells [.nils,.nils] 2 false) else if c=h.next then some (.cells [ordv,outv] 2 false) else h.get c:=λc=>by
  rw[AH.get_new,AH.get_new];rfl
 have x0:Ext h.next h ((h.new (.cells [ordv,outv] 2 false)).new (.cells [.nils,.nils] 2 false)):=(Mt (ab _)).trans (Mt (by simp));have n0:((h.new (.cells [ordv,outv] 2 false)).new (.cells [.nils,.nils] 2 false)).next=h.next+2:=rfl;generalize ((h.new (.cells [ordv,outv] 2 false)).new (.cells [.nils,.nils] 2 false))=h1 at *
 have gA:h1.get h.next=some (.cells [ordv,outv] 2 false):=by rw[ga,if_neg om,if_pos rfl]
 have gB:h1.get (h.next+1)=some (.cells [.nils,.nils] 2 false):=by rw[ga,if_pos rfl]
 have q0:ak h1 pb o 1=some [.int .i64 (V:Nat)]:=by rw[bK (x0.gt _ hpb)]; exact r0
 have mk:=tA (h:=h1) (n:=V) om;have xm:Ext h1.next h1 (h1.new (.cells (cm [.nils] V) 1 false)):=Mt (ab _);have gm:(h1.new (.cells (cm [.nils] V) 1 false)).get h1.next=some (.cells (cm [.nils] V) 1 false):=by rw[AH.get_new,if_pos rfl]
 have nm:(h1.new (.cells (cm [.nils] V) 1 false)).next=h1.next+1:=rfl;have rl:(cm [AV.nils] V).length=V:=by rw[fq,cF]
 have rnil:∀ i,i<V→(cm [AV.nils] V)[i]?=some .nils:=λi hi=>by rw[fq,cA,if_pos hi]
 generalize cm [AV.nils] V=ws0 at *
 generalize h1.new (.cells ws0 1 false)=hm at *
 obtain⟨h2,w2,x2,g2,n2⟩:=im (h:=hm) (z:=[.nils,.nils]) (cs:=[.nils,.sl h1.next 0 V V]) (e:=2) rfl;refine ae (aj (by simp only[am,aK,simprocAttr,bS,q0,mk,dP,w2]<;>rfl) ?_);have X2:Ext h.next h h2:=x0.trans ((xm.mono om).trans (x2.mono om));have k12:∀ c,c<h1.next→h2.get c=h1.get c:=λc hc=>by rw[x2.gt _ om,xm.gt _ hc]
 have gA2:h2.get h.next=some (.cells [ordv,outv] 2 false):=by rw[k12 _ om]; exact gA
 have gB2:h2.get (h.next+1)=some (.cells [.nils,.nils] 2 false):=by rw[k12 _ om]; exact gB
 have gM2:h2.get h1.next=some (.cells ws0 1 false):=by rw[x2.gt _ om]; exact gm
 have rA2:ak h2 h.next 0 1=some [ordv]:=bm gA2 rfl;refine ae (ae (aj (Mi2 rA2 lno) ?_))
 refine fA (α:=AV) (N:=order.length) (λ_ _=>[(0,.ptr pb o),(3,.ptr h.next 0),(4,.ptr (h.next+1) 0),(5,.ptr hm.next 0),(24,ordv)])
  (λk a h'=>Ext hm.next h2 h'∧hm.next+1≤h'.next∧h'.get hm.next=some (.cells [a,.sl h1.next 0 V V] 2 false)∧IsSl h' 1 (hm.next+1) a ((gj n E bk (order.take k)).flatMap eI)) .nils (λ_ _=>rfl) om (Hi0)
  ⟨Mu,om,g2,.inl ⟨rfl,rfl⟩⟩ ?_ ?_
 ·rintro k a ts h3 hk ⟨jx,jn,jg,ja⟩ ⟨e26,e25,e0,e3,e4,e5,e24,-⟩;simp only at e26 e25 e0 e3 e4 e5 e24 jg ja;have X3:Ext h.next h h3:=X2.trans (jx.mono om);obtain⟨b1,p1,a1,q1,_⟩:=(ho.ext X3 (ab _)).at1 (cq (f:=eI) hk);refine ae (aj (M4 e24 e26 a1 q1) ?_);have rn:ak h3 pb (o+2) 1=some [nmv]:=by rw[bK (X3.gt _ hpb)]; exact r2
  refine ae (bN (bo 2 (M1 e0) rfl (Z1 e0) (M1 e0) (Bi (x:=order[k]) rn (hnm.ext X3 (ab _)) hvs om) λr h4 hq=>?_));obtain⟨rfl,rfl⟩:=hq;refine bH (M0) ?_;refine ae (aj (M0) ?_);refine cr (t:=decide (order[k]∈vsM n E (nI bk))) (Z0) (λq=>?_) λq=>?_
  ·have q:order[k]∈vsM n E (nI bk):=aR q;have hlk:=xJ (gj n E bk (order.take k));have hlk2:=ut (n:=n) (E:=E) (b:=bk) (l:=order.take k);rw[aS] at hlk2;obtain⟨s',h5,a5,i5,x5,n5⟩:=ja.push (bytes:=8) [.int .i64 ((cV n E (nI bk) order[k]:Nat):Int)] om om rfl rfl (by rw[hlk,dF]; unfold aW; omega) (by rw[hlk,dF]; unfold aW; omega);have g5:h5.get hm.next=some (.cells [a,.sl h1.next 0 V V] 2 false):=by rw[x5.gt _ om]; exact jg
   obtain⟨sc,so⟩:=i5.cells;have rO:ak h4 hm.next 0 1=some [a]:=bm jg rfl;have w5:=eA (v:=s') g5 (i:=0) (by simp);change bQ h5 hm.next 0 [s']=some (h5.put hm.next (.cells [s',.sl h1.next 0 V V] 2 false)) at w5;have u5:=Mv (o:=.cells [s',.sl h1.next 0 V V] 2 false) g5;change gp (h4.new (.cells [.int .i64 (((vsM n E (nI bk)).countP λu=>decide (u<order[k]):Nat):Int)] 1 false)) 1 8 a (.sl h4.next 0 1 1)=some (s',h5) at a5;refine aj (by simp only[am,aK,simprocAttr,e5,rO,a5,w5,sc,so]<;>rfl) ?_;refine⟨s',⟨jx.trans ((x5.mono om).trans (u5.ext (ab _))),by rw[u5.nx]; omega,u5.get,?_⟩,H7 e26 e25 e0 e3 e4 e5 e24⟩;rw[oD hk,if_pos q,bC];exact i5.upd u5 om
  ·refine bu ⟨a,⟨jx,jn,jg,?_⟩,H7 e26 e25 e0 e3 e4 e5 e24⟩;rw[oD hk,if_neg (aZ q),bO];exact ja
 rintro av ts h3 ⟨jx,jn,jg,ja⟩ ⟨e0,e3,e4,e5,e24,-⟩;simp only at e0 e3 e4 e5 jg ja;rw[bp] at ja;have X3:Ext h.next h h3:=X2.trans (jx.mono om);have rn:ak h3 pb (o+2) 1=some [nmv]:=by rw[bK (X3.gt _ hpb)]; exact r2
 have gA3:h3.get h.next=some (.cells [ordv,outv] 2 false):=by rw[jx.gt _ om]; exact gA2
 have gB3:h3.get (h.next+1)=some (.cells [.nils,.nils] 2 false):=by rw[jx.gt _ om]; exact gB2
 have gM3:h3.get h1.next=some (.cells ws0 1 false):=by rw[jx.gt _ om]; exact gM2
 have n3:h.next+4≤h3.next:=om;refine ae (ae (aj (M4 e0 rn lnm hV) ?_))
 refine fA (α:=List AV) (N:=V) (λ_ _=>[(0,.ptr pb o),(3,.ptr h.next 0),(4,.ptr (h.next+1) 0),(5,.ptr hm.next 0),(47,nmv)])
  (λk ws h'=>Ext h1.next h3 h'∧(∀ c,c<h3.next→c≠h1.next→h'.get c=h3.get c)∧h'.get h1.next=some (.cells ws 1 false)∧ws.length=V∧(∀ i,k≤i→i<V→ws[i]?=some .nils) ∧
   ∀ (i:Nat) (w:AV) (x:Int),i<k→ws[i]?=some w→(vsM n E (nI bk))[i]?=some x→IsSl h' 1 h3.next w ((jH bk (outs.getD x.toNat [])).flatMap eI)) ws0 (λ_ _=>rfl) om (H4 e0 e3 e4 e5)
  ⟨Mu,λ_ _ _=>rfl,gM3,rl,λi _=>rnil i,λi w x hi=>by omega⟩ ?_ ?_
 ·clear e0 e3 e4 e5 e24;rintro k ws ts h4 hk ⟨kx,kk,kg,kl,kn,ki⟩ ⟨e49,e48,e0,e3,e4,e5,e47,-⟩;simp only at e49 e48 e0 e3 e4 e5 e47 kg kl kn ki;have n4:=kx.nx;have K4:∀ {c},c<h.next→h4.get c=h.get c:=fun {c} hc=>by rw[kk _ om om,X3.gt _ hc]
  have hkV:k<(vsM n E (nI bk)).length:=om;obtain⟨b1,p1,a1,q1,_⟩:=(hnm.cong λb o m c e=>K4 (hnm.lt e)).at1 (cq (f:=eI) hkV);have hxk:=aq hkV;generalize hxe:(vsM n E (nI bk))[k]=x at *
  have hxm:x∈vsM n E (nI bk):=by rw[← hxe]; exact aP hkV
  obtain⟨x1,x2'⟩:0≤x∧x<(n:Nat):=by
   unfold vsM at hxm;rw[bj,gf] at hxm;exact hxm.1
  obtain⟨y,rfl⟩:∃ y:Nat,x=y:=⟨x.toNat,om⟩
  have hy:y<outs.length:=om;refine ae (aj (M4 e47 e49 a1 q1) ?_);have gA4:h4.get h.next=some (.cells [ordv,outv] 2 false):=by rw[kk _ om om]; exact gA3
  have rU:ak h4 h.next 1 1=some [outv]:=bm gA4 rfl;obtain⟨b2,p2,rv,a2,q2',sr,hb2⟩:=hu.at hy;have q2:ak h4 b2 p2 1=some [rv]:=by rw[bK (K4 hb2)]; exact q2'
  have lr:=sr.len;rw[ai] at lr;have hrl:=hl3 _ (aP hy);have hgd:outs.getD ((y:Nat):Int).toNat []=outs[y]:=by rw[aY,aL,aq hy]; rfl
  generalize hrow:outs[y]=row at *
  refine ae (aj (M5 e3 rU a2 q2 lr) ?_);have hkn:=kn k (ab _) hk;have hset:ws.set k .nils=ws:=by
   refine cW λi=>?_;rw[dv];by_cases e:k=i
   ·subst e;rw[if_pos rfl,if_pos om,hkn]
   ·rw[if_neg e]
  have sr4:∀ {h':AH},(∀ c,c<h4.next→c≠h1.next→h'.get c=h4.get c)→SlI h' rv row:=fun {h'} q=>by
   refine sr.cong λb o m c e=>?_;have:=sr.lt e;rw[q _ om om,K4 this]
  refine fA (α:=AV) (N:=row.length) (λ_ _=>[(0,.ptr pb o),(3,.ptr h.next 0),(4,.ptr (h.next+1) 0),(5,.ptr hm.next 0),(10,.int .i64 (k:Nat)),(47,nmv),(48,.int .i64 (V:Nat)),(49,.int .i64 (k:Nat)),(58,rv)])
   (λi w h'=>Ext h1.next h4 h'∧(∀ c,c<h4.next→c≠h1.next→h'.get c=h4.get c)∧h'.get h1.next=some (.cells (ws.set k w) 1 false)∧IsSl h' 1 h4.next w ((jH bk (row.take i)).flatMap eI)) .nils (λ_ _=>rfl) om (H7 e0 e3 e4 e5 e47 e48 e49)
   ⟨Mu,λ_ _ _=>rfl,by rw[hset]; exact kg,.inl ⟨rfl,rfl⟩⟩ ?_ ?_
  ·clear e0 e3 e4 e5 e47 e48 e49;rintro i w ts h5 hi ⟨lx,lk,lg,li⟩ ⟨e60,e59,e0,e3,e4,e5,e10,e47,e48,e49,e58,-⟩;simp only at e60 e59 e0 e3 e4 e5 e10 e47 e48 e49 e58 lg li;have n5:=lx.nx;obtain⟨b3,p3,a3,q3,_⟩:=(sr4 lk).at1 (cq (f:=eI) hi);refine ae (aj (M4 e58 e60 a3 q3) ?_);have K5:∀ {c},c<h.next→h5.get c=h.get c:=fun {c} hc=>by rw[lk _ om om,K4 hc]
   have rb:ak h5 pb (o+3) 1=some [nbv]:=by rw[bK (K5 hpb)]; exact r3
   refine ae (bN (bo 5 (M2 e0 rb) rfl (Z2 e0 rb) (M2 e0 rb) (pB (t:=row[i]) (hnb.cong λb o m c e=>K5 (hnb.lt e)) hnbs (by rw[fE]; omega)) λr h6 hq=>?_));obtain⟨rfl,rfl⟩:=hq;refine bH (M0) ?_;refine ae (aj (M0) ?_);refine cr (t:=decide (row[i]∈nI bk)) (Z0) (λq=>?_) λq=>?_
   ·have q:row[i]∈nI bk:=aR q;have hpos:=DL hrise q;obtain⟨x7,p7,n7,y7⟩:=gr (h:=h6) (o:=.cells [.int .i64 (((nI bk).countP λu=>decide (u<row[i]):Nat):Int)] 1 false);have kg6:∀ c,c<h6.next→(h6.keep 1).get c=h6.get c:=λc hc=>by rw[AH.keep_get,if_neg om]
    have q7:(h6.keep 1).get h6.next=some .resv:=fG;have gO:h6.get hm.next=some (.cells [av,.sl h1.next 0 V V] 2 false):=by rw[lk _ om om,kk _ om om]; exact jg
    have v1:ak (h6.keep 1) hm.next 1 1=some [.sl h1.next 0 V V]:=bm (by rw[kg6 _ om]; exact gO) rfl;have hwk:(ws.set k w)[k]?=some w:=by rw[dv,if_pos rfl,if_pos om]
    have v3:ak (h6.keep 1) h1.next k 1=some [w]:=bm (by rw[kg6 _ om]; exact lg) hwk;have ia:eR ((k:Nat):Int) V=some k:=cJ hk;have hlk:=xJ (jH bk (row.take i));have hlk2:=ur (b:=bk) (l:=row.take i);rw[aS] at hlk2
    obtain⟨w',h8,s2,i8,x8,s3,n8,k8,_⟩:=(li.ext (x7.mono (ab _)) (ab _)).app (bytes:=8) (x:=h6.next) (new:=[.int .i64 (((nI bk).countP λu=>decide (u<row[i]):Nat):Int)]) (by rw[n7]; omega) om p7 om (λb m e=>by have:=li.lt e; omega) rfl rfl
     (by rw[hlk,dF]; unfold aW; omega) (by rw[hlk,dF]; unfold aW; omega)
    obtain⟨sc,so⟩:=i8.cells;have lw:∀ c,c<h4.next→h8.get c=h6.get c:=λc hc=>by rw[x8.gt _ hc,y7 _ om]
    have f1:ak h8 hm.next 1 1=some [.sl h1.next 0 V V]:=bm (by rw[lw _ om]; exact gO) rfl;have d2:h8.get h1.next=some (.cells (ws.set k w) 1 false):=by rw[lw _ om]; exact lg
    have f3:=eA (v:=w') d2 (i:=k) (by rw[ct]; omega);rw[LI] at f3;have u9:=Mv (o:=.cells (ws.set k w') 1 false) d2;refine oa (by simp only[am,aK,simprocAttr,e5,e10,v1,v3,eN,et q7,ia,aO,s2,sc,so,f1,f3]<;>rfl) ?_;refine⟨w',⟨lx.trans ((x7.mono om).trans ((x8.mono om).trans (u9.ext (ab _)))),λc hc hne=>by rw[u9.ne hne,lw _ hc,lk _ hc hne],u9.get,?_⟩,H12 e60 e59 e0 e3 e4 e5 e10 e47 e48 e49 e58 e58⟩;rw[oC hi,if_pos q,bC,hpos];exact i8.upd u9 om
   ·refine bu ⟨w,⟨lx,lk,lg,?_⟩,H12 e60 e59 e0 e3 e4 e5 e10 e47 e48 e49 e58 e58⟩;rw[oC hi,if_neg (aZ q),bO];exact li
  ·clear e0 e3 e4 e5 e47 e48 e49;rintro w ts h5 ⟨lx,lk,lg,li⟩ ⟨e0,e3,e4,e5,e10,e47,e48,e49,e58,-⟩;simp only at e0 e3 e4 e5 e10 e47 e48 e49 lg li;rw[bp] at li;have n5:=lx.nx;refine⟨ws.set k w,⟨kx.trans lx,λc hc hne=>by rw[lk _ om hne,kk _ hc hne],lg,by rw[ct]; exact kl,λi hi1 hi2=>?_,λi w' x hi h1' h2'=>?_⟩,H7 e49 e48 e0 e3 e4 e5 e47⟩
   ·rw[dv,if_neg om];exact kn i om hi2
   ·rw[dv] at h1';by_cases e:k=i
    ·subst e;rw[if_pos rfl,if_pos om] at h1';cases h1';rw[hxk] at h2';cases h2';rw[hgd];exact li.mono om
    ·rw[if_neg e] at h1';have:=ki i w' x om h1' h2';exact this.cong λb m e' hb'=>lk _ (this.lt e') om
 ·clear e0 e3 e4 e5 e24;rintro ws ts h4 ⟨kx,kk,kg,kl,kn,ki⟩ ⟨e0,e3,e4,e5,e47,-⟩;simp only at e0 e3 e4 e5 kg kl ki;have n4:=kx.nx;have gO:h4.get hm.next=some (.cells [av,.sl h1.next 0 V V] 2 false):=by rw[kk _ om om]; exact jg
  have gB4:h4.get (h.next+1)=some (.cells [.nils,.nils] 2 false):=by rw[kk _ om om]; exact gB3
  have rO:ak h4 hm.next 0 2=some [av,.sl h1.next 0 V V]:=by rw[aU gO]; rfl
  have w5:bQ h4 (h.next+1) 0 [av,.sl h1.next 0 V V]=some (h4.put (h.next+1) (.cells [av,.sl h1.next 0 V V] 2 false)):=by rw[dp gB4]; rfl
  have u5:=Mv (o:=.cells [av,.sl h1.next 0 V V] 2 false) gB4;obtain⟨ac,ao⟩:=ja.cells;refine ae (aj (M5 e4 e5 rO ao w5) ?_);have rB:ak (h4.put (h.next+1) (.cells [av,.sl h1.next 0 V V] 2 false)) (h.next+1) 0 2=some [av,.sl h1.next 0 V V]:=by rw[aU u5.get]; rfl
  refine br ⟨_,(by simp only[rs,rf65,am,aK,simprocAttr,e4,rB]<;>rfl),X3.trans ((kx.mono om).trans (u5.ext om)),av,_,rfl,⟨ac,ao⟩,⟨rfl,rfl⟩,λh'' hq=>?_⟩;have n5:=u5.nx;have hq4:∀ c,h.next≤c→c<h4.next→c≠h.next+1→h''.get c=h4.get c:=λc h1 h2 h3=>by rw[hq c h1 om,u5.ne h3]
  refine⟨Mq om (λ_=>rfl) (ja.cong λb m e hb'=>?_),ws,Ms (by rw[hq4 _ om om om]; exact kg) kl (ab _),?_,λi w xs h1' h2'=>?_⟩
  ·have:=ja.lt e;rw[hq4 _ om om om,kk _ this om]
  ·unfold jS;rw[ai,kl,hV]
  ·unfold jS at h2';rw[aX] at h2';obtain⟨x,hx,rfl⟩:=aF.1 h2';have hi:i<V:=by have:=(aI.1 h1').1; omega
   have:=ki i w x hi h1' hx;exact Mq om (λ_=>rfl) (this.cong λb m e hb'=>hq4 _ om (this.lt e) om)
open Go.Am
theorem qb {l:List Int}{x:Int}:0≤dW (x==·) l 0↔x∈l:=by
 constructor
 ·intro h;obtain⟨k,_,hk,e⟩:=jZ _ l 0 h;have:x=l[k]:=by simpa using e
  rw[this];exact aP hk
 ·intro h;by_cases q:dW (x==·) l 0<0
  ·have:=pZ _ l 0 q x h;simp at this
  ·omega
def uN (b:List Nat) (l:List Int):List Nat:=(jH b l).map Int.toNat
def cutN (n:Nat) (E:List (Int×Int)) (b:List Nat) (outs:List (List Int)):List (List Nat):=(vsM n E (nI b)).map λx=>uN b (outs.getD x.toNat [])
theorem Ci (b:List Nat) (l:List Int):nI (uN b l)=jH b l:=by
 unfold uN nI;rw[gQ]
 conv=>rhs; rw[← IE (jH b l)]
 refine cK λi hi=>?_;unfold jH at hi;obtain⟨j,hj,rfl⟩:=bB.1 hi;rw[bj] at hj;obtain⟨_,k,e,_⟩:=pU (b:=b) (aR hj.2);rw[e];rfl
theorem JH (b:List Nat) (l:List Int):nC (uN b l)=(jH b l).flatMap eI:=by
 rw[← Ci];rfl
theorem Ky {n:Nat}{E:List (Int×Int)}{b:List Nat}{outs:List (List Int)}:(cutN n E b outs).map nI=jS n E b outs:=by
 unfold cutN jS;rw[gQ];exact cK λx _=>Ci b _
theorem LL.sll {h:AH}{lo:Nat}{a:AV}{xss:List (List Nat)} (hl:LL h lo a xss):SlL h a (xss.map nI):=by
 obtain⟨vs,h1,h2,h3⟩:=hl;refine⟨vs,?_,by rw[ai,h2],λi w xs e1 e2=>?_⟩
 ·rcases h1 with ⟨rfl,rfl⟩|⟨b,n,_,rfl,hg,hn⟩
  ·exact .inl ⟨rfl,.inl rfl⟩
  ·exact Ms hg om (ab _)
 ·rw[aX] at e2;obtain⟨ys,hy,rfl⟩:=aF.1 e2;exact Lo (h3 i w ys e1 hy).1
set_option maxHeartbeats 2000000 in
theorem DH {h:AH}{n V:Nat}{ev nmv nbv ordv outv:AV}{E:List (Int×Int)}{bk:List Nat}{order:List Int}{outs:List (List Int)} (hV:(vsM n E (nI bk)).length=V)
 (hnm:SlI h nmv (vsM n E (nI bk))) (hnb:SlI h nbv (nI bk)) (ho:SlI h ordv order) (hu:SlL h outv outs) (hlu:outs.length=n) (hb:bk.length≤128) (hn:n≤64) (hol:order.length≤200) (hl3:∀ l∈outs,l.length≤200) :
 C prg 29 [.agg [.int .i64 (V:Nat),ev,nmv,nbv],.agg [ordv,outv]] h λr h'=>Ext h.next h h'∧∃ a u,r=.agg [a,u]∧(a.cells=[a]∧a.one=true)∧(u.cells=[u]∧u.one=true)∧SlI h' a (gj n E bk order)∧SlL h' u (jS n E bk outs):=by
 have hvl:=qw n E (nI bk);have hvlt:=pJ n E (nI bk);have lno:=ho.len;rw[ai] at lno;have lnm:=hnm.len;rw[ai,hV] at lnm;refine Mw pf29 ?_;refine ae (aj (Mi0) ?_);have ga:∀ c,(((h.new (.cells [.int .i64 (V:Nat),ev,nmv,nbv] 4 false)).new (.cells [ordv,outv] 2 false)).new (.cells [.nils,.nils] 2 false)).get c=if c=h.next+2 then some (.cells [.nils,.nils] 2 false) else if c=h.next+1 then some (.cells [ordv,outv] 2 false) else if c=h.next then some (.cells [.int .i64 (V:Nat),ev,nmv,nbv] 4 false) else h.get c:=λc=>by
  rw[AH.get_new,AH.get_new,AH.get_new];rfl
 have x0:Ext h.next h (((h.new (.cells [.int .i64 (V:Nat),ev,nmv,nbv] 4 false)).new (.cells [ordv,outv] 2 false)).new (.cells [.nils,.nils] 2 false)):=(Mt (ab _)).trans ((Mt (by simp)).trans (Mt (by simp; omega)));have n0:(((h.new (.cells [.int .i64 (V:Nat),ev,nmv,nbv] 4 false)).new (.cells [ordv,outv] 2 false)).new (.cells [.nils,.nils] 2 false)).next=h.next+3:=rfl;generalize (((h.new (.cells [.int .i64 (V:Nat),ev,nmv,nbv] 4 false)).new (.cells [ordv,outv] 2 false)).new (.cells [.nils,.nils] 2 false))=h1 at *
 have gP:h1.get h.next=some (.cells [.int .i64 (V:Nat),ev,nmv,nbv] 4 false):=by rw[ga,if_neg om,if_neg om,if_pos rfl]
 have gA:h1.get (h.next+1)=some (.cells [ordv,outv] 2 false):=by rw[ga,if_neg om,if_pos rfl]
 have gB:h1.get (h.next+2)=some (.cells [.nils,.nils] 2 false):=by rw[ga,if_pos rfl]
 obtain⟨h2,w2,x2,g2,n2⟩:=im (h:=h1) (z:=[.nils,.nils]) (cs:=[.nils,.nils]) (e:=2) rfl;refine ae (aj (Mi1 w2) ?_);have X2:Ext h.next h h2:=x0.trans (x2.mono om);have gP2:h2.get h.next=some (.cells [.int .i64 (V:Nat),ev,nmv,nbv] 4 false):=by rw[x2.gt _ om]; exact gP
 have gA2:h2.get (h.next+1)=some (.cells [ordv,outv] 2 false):=by rw[x2.gt _ om]; exact gA
 have gB2:h2.get (h.next+2)=some (.cells [.nils,.nils] 2 false):=by rw[x2.gt _ om]; exact gB
 have rP2:∀ {h':AH},Ext h1.next h2 h'→ak h' h.next 2 1=some [nmv]:=fun {h'} q=>bm (by rw[q.gt _ om]; exact gP2) rfl;have rP3:∀ {h':AH},Ext h1.next h2 h'→ak h' h.next 3 1=some [nbv]:=fun {h'} q=>bm (by rw[q.gt _ om]; exact gP2) rfl;have rA0:∀ {h':AH},Ext h1.next h2 h'→ak h' (h.next+1) 0 1=some [ordv]:=fun {h'} q=>bm (by rw[q.gt _ om]; exact gA2) rfl;have rA1:∀ {h':AH},Ext h1.next h2 h'→ak h' (h.next+1) 1 1=some [outv]:=fun {h'} q=>bm (by rw[q.gt _ om]; exact gA2) rfl;have Xh:∀ {h':AH},Ext h1.next h2 h'→Ext h.next h h':=fun {h'} q=>X2.trans (q.mono om);refine ae (ae (aj (Mi0) ?_))
 refine dV (α:=AV) (N:=order.length) (λk _=>[(2,.ptr h.next 0),(3,.ptr (h.next+1) 0),(4,.ptr (h.next+2) 0),(5,.ptr h1.next 0),(6,.int .i64 (k:Nat))])
  (λk a h'=>Ext h1.next h2 h'∧h1.next+1≤h'.next∧h'.get h1.next=some (.cells [a,.nils] 2 false)∧IsSl h' 1 (h1.next+1) a ((gj n E bk (order.take k)).flatMap eI)) .nils (Hi1 @bh)
  ⟨Mu,om,g2,.inl ⟨rfl,rfl⟩⟩ ?_ ?_ ?_
 ·rintro k a ts h3 hk ⟨jx,jn,jg,ja⟩ ⟨e2,e3,e4,e5,e6,-⟩;simp only at e2 e3 e4 e5 e6;exact⟨_,(M5 e3 e6 (rA0 jx) lno @bz),Z0,H5 e2 e3 e4 e5 e6⟩
 ·rintro k a ts h3 hk ⟨jx,jn,jg,ja⟩ ⟨e2,e3,e4,e5,e6,-⟩;simp only at e2 e3 e4 e5 e6 jg ja;have w6:=dT (k:=k) om;obtain⟨b1,p1,a1,q1,_⟩:=(ho.ext (Xh jx) (ab _)).at1 (cq (f:=eI) hk);refine ae (bN (bo 7 (M7 e2 e3 e6 (rP2 jx) (rA0 jx) a1 q1) rfl (Z7 e2 e3 e6 (rP2 jx) (rA0 jx) a1 q1) (M7 e2 e3 e6 (rP2 jx) (rA0 jx) a1 q1) (pP (x:=order[k]) (hnm.ext (Xh jx) (ab _)) om) λr h4 hq=>?_));obtain⟨rfl,rfl⟩:=hq;refine bH (M0) ?_;refine ae (aj (M0) ?_);refine cr (t:=decide (0≤dW (order[k]==·) (vsM n E (nI bk)) 0)) (Z0) (λq=>?_) λq=>?_
  ·have q:order[k]∈vsM n E (nI bk):=qb.1 (aR q);have f1:=lZ _ _ 0 hvlt q;rw[bM] at f1;change _=((cV n E (nI bk) order[k]:Nat):Int) at f1;have hlk:=xJ (gj n E bk (order.take k));have hlk2:=ut (n:=n) (E:=E) (b:=bk) (l:=order.take k);rw[aS] at hlk2;obtain⟨s',h5,a5,i5,x5,n5⟩:=ja.push (bytes:=8) [.int .i64 ((cV n E (nI bk) order[k]:Nat):Int)] om om rfl rfl (by rw[hlk,dF]; unfold aW; omega) (by rw[hlk,dF]; unfold aW; omega);have g5:h5.get h1.next=some (.cells [a,.nils] 2 false):=by rw[x5.gt _ om]; exact jg
   obtain⟨sc,so⟩:=i5.cells;have rO:ak h4 h1.next 0 1=some [a]:=bm jg rfl;have w5:=eA (v:=s') g5 (i:=0) (by simp);change bQ h5 h1.next 0 [s']=some (h5.put h1.next (.cells [s',.nils] 2 false)) at w5;have u5:=Mv (o:=.cells [s',.nils] 2 false) g5;refine aj (by simp only[am,aK,simprocAttr,e5,f1,rO,a5,w5,sc,so]<;>rfl) ?_;refine⟨s',⟨jx.trans ((x5.mono om).trans (u5.ext (ab _))),by rw[u5.nx]; omega,u5.get,?_⟩,_,(M2 e6 w6),H4 e2 e3 e4 e5⟩;rw[oD hk,if_pos q,bC];exact i5.upd u5 om
  ·have q:¬ order[k]∈vsM n E (nI bk):=λhm=>aZ q (qb.2 hm);refine bu ⟨a,⟨jx,jn,jg,?_⟩,_,(M2 e6 w6),H4 e2 e3 e4 e5⟩;rw[oD hk,if_neg q,bO];exact ja
 rintro av ts h3 ⟨jx,jn,jg,ja⟩ ⟨e2,e3,e4,e5,e6,-⟩;simp only at e2 e3 e4 e5 jg ja;rw[bp] at ja;refine ae (ae (aj (M0) ?_))
 refine dV (α:=AV) (N:=V) (λk _=>[(2,.ptr h.next 0),(3,.ptr (h.next+1) 0),(4,.ptr (h.next+2) 0),(5,.ptr h1.next 0),(8,.int .i64 (k:Nat))])
  (λk u h'=>Ext h1.next h3 h'∧(∀ c,c<h3.next→c≠h1.next→h'.get c=h3.get c)∧h'.get h1.next=some (.cells [av,u] 2 false)∧LL h' h3.next u (((vsM n E (nI bk)).take k).map λx=>uN bk (outs.getD x.toNat []))) .nils (H5 e2 e3 e4 e5 @bh)
  ⟨Mu,λ_ _ _=>rfl,jg,[],.inl ⟨rfl,rfl⟩,rfl,λi v xs e=>by simp at e⟩ ?_ ?_ ?_
 ·clear e2 e3 e4 e5;rintro k u ts h4 hk ⟨kx,kk,kg,ku⟩ ⟨e2,e3,e4,e5,e8,-⟩;simp only at e2 e3 e4 e5 e8;exact⟨_,(by simp only[am,aK,simprocAttr,e2,e8,rP2 (jx.trans kx),lnm,bz]<;>rfl),Z0,H5 e2 e3 e4 e5 e8⟩
 ·clear e2 e3 e4 e5;rintro k u ts h4 hk ⟨kx,kk,kg,ku⟩ ⟨e2,e3,e4,e5,e8,-⟩;simp only at e2 e3 e4 e5 e8 kg ku;have w8:=dT (k:=k) om;have n4:=kx.nx;have kx2:=jx.trans kx;have hkV:k<(vsM n E (nI bk)).length:=om;have hxm:=aP hkV;have hat:=cq (f:=eI) hkV;have htk:((vsM n E (nI bk)).take (k+1)).map (λx=>uN bk (outs.getD x.toNat []))=((vsM n E (nI bk)).take k).map (λx=>uN bk (outs.getD x.toNat []))++[uN bk (outs.getD ((vsM n E (nI bk))[k]).toNat [])]:=by
   rw[aG hkV,cj];rfl
  generalize (vsM n E (nI bk))[k]=x at *
  obtain⟨x1,x2'⟩:0≤x∧x<(n:Nat):=by
   unfold vsM at hxm;rw[bj,gf] at hxm;exact hxm.1
  obtain⟨y,rfl⟩:∃ y:Nat,x=y:=⟨x.toNat,om⟩
  have hy:y<outs.length:=om;have hgd:outs.getD ((y:Nat):Int).toNat []=outs[y]:=by rw[aY,aL,aq hy]; rfl
  rw[hgd] at htk;have hrl:=hl3 _ (aP hy);obtain⟨nb,np,an,qn,nlt⟩:=hnm.at1 hat;obtain⟨ub,up,rv,au,qu,sr,ult⟩:=hu.at hy;have lr:=sr.len;rw[ai] at lr;generalize outs[y]=row at *
  have qn':∀ {h':AH},Ext h1.next h2 h'→ak h' nb np 1=some [.int .i64 (y:Nat)]:=fun {h'} q=>by rw[bK ((Xh q).gt _ nlt)]; exact qn
  have qu':∀ {h':AH},Ext h1.next h2 h'→ak h' ub up 1=some [rv]:=fun {h'} q=>by rw[bK ((Xh q).gt _ ult)]; exact qu
  have x5:Ext h4.next h4 (h4.new (.cells [] 1 false)):=Mt (ab _);have g5:(h4.new (.cells [] 1 false)).get h4.next=some (.cells [] 1 false):=by rw[AH.get_new,if_pos rfl]
  have n5:(h4.new (.cells [] 1 false)).next=h4.next+1:=rfl;refine ae (aj (M0) ?_);generalize h4.new (.cells [] 1 false)=h5 at *
  refine ae (ae (aj (M0) ?_))
  refine dV (α:=AV) (N:=row.length) (λi l=>[(2,.ptr h.next 0),(3,.ptr (h.next+1) 0),(4,.ptr (h.next+2) 0),(5,.ptr h1.next 0),(8,.int .i64 (k:Nat)),(9,l),(10,.int .i64 (i:Nat))])
   (λi l h'=>Ext h4.next h4 h'∧IsSl h' 1 h4.next l ((jH bk (row.take i)).flatMap eI)) (.sl h4.next 0 0 0) (H6 e2 e3 e4 e5 e8 @bh)
   ⟨x5,.inr ⟨h4.next,0,ab _,rfl,g5,rfl⟩⟩ ?_ ?_ ?_
  ·clear e2 e3 e4 e5 e8;rintro i l ts h6 hi ⟨lx,li⟩ ⟨e2,e3,e4,e5,e8,e9,e10,-⟩;simp only at e2 e3 e4 e5 e8 e9 e10;have lx2:=kx2.trans (lx.mono om);exact⟨_,(M12 e2 e3 e8 e10 (rA1 lx2) (rP2 lx2) an (qn' lx2) au (qu' lx2) lr @bz),Z0,H7 e2 e3 e4 e5 e8 e9 e10⟩
  ·clear e2 e3 e4 e5 e8;rintro i l ts h6 hi ⟨lx,li⟩ ⟨e2,e3,e4,e5,e8,e9,e10,-⟩;simp only at e2 e3 e4 e5 e8 e9 e10 li;have w10:=dT (k:=i) om;have lx2:=kx2.trans (lx.mono om);have n6:=lx.nx;obtain⟨b3,p3,a3,q3,_⟩:=(sr.ext (Xh lx2) (ab _)).at1 (cq (f:=eI) hi);refine ae (bN (bo 14 (M14 e2 e3 e8 e10 (rP3 lx2) (rA1 lx2) (rP2 lx2) an (qn' lx2) au (qu' lx2) a3 q3 q3) rfl (Z14 e2 e3 e8 e10 (rP3 lx2) (rA1 lx2) (rP2 lx2) an (qn' lx2) au (qu' lx2) a3 q3 q3) (M14 e2 e3 e8 e10 (rP3 lx2) (rA1 lx2) (rP2 lx2) an (qn' lx2) au (qu' lx2) a3 q3 q3) (pP (x:=row[i]) (hnb.ext (Xh lx2) (ab _)) (by rw[fE]; omega)) λr h7 hq=>?_));obtain⟨rfl,rfl⟩:=hq;refine bH (M0) ?_;refine ae (aj (M0) ?_);refine cr (t:=decide (0≤dW (row[i]==·) (nI bk) 0)) (Z0) (λq=>?_) λq=>?_
   ·have q:row[i]∈nI bk:=qb.1 (aR q);have hlk:=xJ (jH bk (row.take i));have hlk2:=ur (b:=bk) (l:=row.take i);rw[aS] at hlk2;obtain⟨s',h8,a8,i8,x8,n8⟩:=li.push (bytes:=8) [.int .i64 (dW (row[i]==·) (nI bk) 0)] om om rfl rfl (by rw[hlk,dF]; unfold aW; omega) (by rw[hlk,dF]; unfold aW; omega);refine aj (M2 e9 a8) ?_;refine⟨s',⟨lx.trans x8,?_⟩,_,(M2 e10 w10),H5 e2 e3 e4 e5 e8⟩;rw[oC hi,if_pos q,bC];exact i8
   ·have q:¬ row[i]∈nI bk:=λhm=>aZ q (qb.2 hm);refine bu ⟨l,⟨lx,?_⟩,_,(M2 e10 w10),H6 e2 e3 e4 e5 e8 e9⟩;rw[oC hi,if_neg q,bO];exact li
  ·clear e2 e3 e4 e5 e8;rintro l ts h6 ⟨lx,li⟩ ⟨e2,e3,e4,e5,e8,e9,e10,-⟩;simp only at e2 e3 e4 e5 e8 e9 li;rw[bp,← JH] at li;have n6:=lx.nx;obtain⟨lc,lo'⟩:=li.cells;have x7:Ext h6.next h6 (h6.new (.cells [l] 1 false)):=Mt (ab _);have g7:(h6.new (.cells [l] 1 false)).get h6.next=some (.cells [l] 1 false):=by rw[AH.get_new,if_pos rfl]
   have n7:(h6.new (.cells [l] 1 false)).next=h6.next+1:=rfl;have ku6:=ku.ext lx (ab _);have hult:∀ b o m c,u=.sl b o m c→b<h4.next:=λb o m c e=>by
    obtain⟨us,v1,_⟩:=ku;exact v1.lt e
   obtain⟨u',h8,a8,k8,x8,n8,f8,_⟩:=(ku6.ext x7 (ab _)).push (v:=l) (x:=h6.next) (xs:=uN bk row) (by rw[n7]; omega) ((li.mono om).ext x7 (ab _)) g7 om
    (λb m e=>by have:=hult _ _ _ _ e; omega) (λb m b' m' e e'=>by
     have h1':=hult _ _ _ _ e';rcases li with ⟨rfl,_⟩|⟨b'',m'',hb'',rfl,_⟩
     ·cases e
     ·cases e; omega) (by rw[ai,aS]; unfold aW; omega)
   have kg6:h6.get h1.next=some (.cells [av,u] 2 false):=by rw[lx.gt _ om]; exact kg
   have rO:ak h6 h1.next 1 1=some [u]:=bm kg6 rfl;have g8:h8.get h1.next=some (.cells [av,u] 2 false):=by
    rw[x8.gt _ om,x7.gt _ om]; exact kg6
   have w9:=eA (v:=u') g8 (i:=1) (by simp);change bQ h8 h1.next 1 [u']=some (h8.put h1.next (.cells [av,u'] 2 false)) at w9;have u9:=Mv (o:=.cells [av,u'] 2 false) g8;obtain⟨vs,v1,v2⟩:=k8;obtain⟨uc,uo⟩:=v1.cells;refine aj (by simp only[am,aK,simprocAttr,e5,e9,lc,lo',rO,td,dP,a8,uc,uo,w9]<;>rfl) ?_;have hu9:LL (h8.put h1.next (.cells [av,u'] 2 false)) h3.next u' _:=LL.cong ⟨vs,v1,v2⟩ λb hb _=>u9.ne om;refine⟨u',⟨kx.trans ((lx.mono om).trans ((x7.mono om).trans ((x8.mono om).trans (u9.ext (ab _))))),λc hc hne=>?_,u9.get,?_⟩,_,(M2 e8 w8),H4 e2 e3 e4 e5⟩
   ·rw[u9.ne hne,x8.gt _ hc,x7.gt _ om,lx.gt _ om];exact kk c hc hne
   ·rw[htk];exact hu9
 ·clear e2 e3 e4 e5;rintro u ts h4 ⟨kx,kk,kg,ku⟩ ⟨e2,e3,e4,e5,e8,-⟩;simp only at e2 e3 e4 e5 kg ku;rw[da om] at ku;have n4:=kx.nx;have gB4:h4.get (h.next+2)=some (.cells [.nils,.nils] 2 false):=by rw[kk _ om om,jx.gt _ om]; exact gB2
  have rO:ak h4 h1.next 0 2=some [av,u]:=by rw[aU kg]; rfl
  have w5:bQ h4 (h.next+2) 0 [av,u]=some (h4.put (h.next+2) (.cells [av,u] 2 false)):=by rw[dp gB4]; rfl
  have u5:=Mv (o:=.cells [av,u] 2 false) gB4;obtain⟨ac,ao⟩:=ja.cells;have ku':=ku;obtain⟨vs,v1,v2⟩:=ku';obtain⟨uc,uo⟩:=v1.cells;refine ae (aj (M6 e4 e5 rO ao uo w5) ?_);have rB:ak (h4.put (h.next+2) (.cells [av,u] 2 false)) (h.next+2) 0 2=some [av,u]:=by rw[aU u5.get]; rfl
  refine br ⟨_,(by simp only[rs,rf29,am,aK,simprocAttr,e4,rB]<;>rfl),(Xh (jx.trans kx)).trans (u5.ext om),av,u,rfl,⟨ac,ao⟩,⟨uc,uo⟩,Mq om (λ_=>rfl) (ja.cong λb m e hb'=>?_),?_⟩
  ·have:=ja.lt e;rw[u5.ne om,kk _ this om]
  ·have:=(LL.cong ku (h':=h4.put (h.next+2) (.cells [av,u] 2 false)) λb hb _=>u5.ne om).sll;have e:(((vsM n E (nI bk)).map λx=>uN bk (outs.getD x.toNat [])).map nI)=jS n E bk outs:=Ky;rwa [e] at this
end Go.Proofs.YtahepnbflofndaaGreatDoor
