/-
  graph.Of; there, Outs, Ins. Taking vertices away one by one: plain facts. graph.View.run, Sources.
-/
import Derived.Test.YticaalcbgikjjaaGreatDoorKLa
set_option linter.all false
namespace Go.Proofs.YticaalcbgikjjaaGreatDoor
open Go.Am
def endsAt (p:Int×Int→Bool):List (Int×Int)→Nat→List Int
 | [],_=>[]
 | e::r,i=>if p e then ((i:Nat):Int)::endsAt p r (i+1) else endsAt p r (i+1)
theorem endsAt_app (p:Int×Int→Bool):∀ (a b:List (Int×Int)) (i:Nat),endsAt p (a++b) i=endsAt p a i++endsAt p b (i+a.length)
 | [],b,i=>by simp [endsAt]
 | e::r,b,i=>by
   have:=endsAt_app p r b (i+1)
   simp only[List.cons_append,endsAt,List.length_cons]
   rw[this,show i+1+r.length=i+(r.length+1) by omega]
   split<;>simp
theorem endsAt_len (p:Int×Int→Bool):∀ (a:List (Int×Int)) (i:Nat),(endsAt p a i).length≤a.length
 | [],i=>by simp [endsAt]
 | e::r,i=>by
   have:=endsAt_len p r (i+1)
   simp only[endsAt,List.length_cons]
   split
   ·simp only[List.length_cons]; omega
   ·omega
theorem endsAt_succ (p:Int×Int→Bool) {es:List (Int×Int)}{k:Nat} (hk:k<es.length):endsAt p (es.take (k+1)) 0=if p es[k] then endsAt p (es.take k) 0++[((k:Nat):Int)] else endsAt p (es.take k) 0:=by
 rw[List.take_succ_eq_append_getElem hk,endsAt_app,List.length_take,Nat.min_eq_left (by omega),Nat.zero_add]
 simp only[endsAt]
 split<;>simp
def outsM (es:List (Int×Int)) (x:Int):List Int:=endsAt (fun e=>decide (e.1=x)) es 0
def insM (es:List (Int×Int)) (x:Int):List Int:=endsAt (fun e=>decide (e.2=x)) es 0
def Rw (h:AH) (lo:Nat) (vs:List AV) (xss:List (List Int)):Prop :=
 vs.length=xss.length∧(∀ (i:Nat) (v:AV) (xs:List Int),vs[i]?=some v→xss[i]?=some xs→IsSl h 1 lo v (xs.flatMap eI))∧∀ (i j b n b' n':Nat),i≠j→vs[i]?=some (AV.sl b 0 n n)→vs[j]?=some (AV.sl b' 0 n' n')→b≠b'
theorem Rw.cong {h h':AH}{lo:Nat}{vs:List AV}{xss:List (List Int)} (hr:Rw h lo vs xss) (hk:∀ c,lo≤c→c<h.next→h'.get c=h.get c):Rw h' lo vs xss :=
 ⟨hr.1,fun i v xs h1 h2=>(hr.2.1 i v xs h1 h2).cong fun b n e hb=>hk b hb ((hr.2.1 i v xs h1 h2).lt e),hr.2.2⟩
theorem Rw.lt {h:AH}{lo:Nat}{vs:List AV}{xss:List (List Int)} (hr:Rw h lo vs xss) {j b n:Nat} (hj:vs[j]?=some (AV.sl b 0 n n)):b<h.next∧lo≤b:=by
 have hjl:j<vs.length:=(List.getElem?_eq_some_iff.1 hj).1
 have:=hr.2.1 j _ (xss[j]'(by rw[← hr.1]; exact hjl)) hj (List.getElem?_eq_getElem _)
 rcases this with ⟨q,_⟩|⟨b',n',q1,q2,q3,_⟩
 ·cases q
 ·cases q2; exact⟨AH.lt_of_get q3,q1⟩
theorem Rw.push {h:AH}{lo:Nat}{vs:List AV}{xss:List (List Int)} (hr:Rw h lo vs xss) {i x:Nat}{k:Int}{xs:List Int} (hi:xss[i]?=some xs) (hlo:lo≤h.next) (hx:h.get x=some (.cells [.int .i64 k] 1 false)) (hxl:lo≤x) (hxn:∀ (j b n:Nat),vs[j]?=some (AV.sl b 0 n n)→b≠x) (hl:xs.length<2 ^ 30) :
 ∃ v v' h',vs[i]?=some v∧appA h 1 8 v (.sl x 0 1 1)=some (v',h')∧v'.cells=[v']∧v'.one=true∧Rw h' lo (vs.set i v') (xss.set i (xs++[k]))∧Ext lo h h'∧h'.next=h.next+1∧∀ c,c<h.next→(∀ (j b n:Nat),vs[j]?=some (AV.sl b 0 n n)→b≠c)→h'.get c=h.get c∧∀ (j b n:Nat),(vs.set i v')[j]?=some (AV.sl b 0 n n)→b≠c:=by
 obtain⟨r1,r2,r3⟩:=hr
 have hil:i<xss.length:=(List.getElem?_eq_some_iff.1 hi).1
 have hv:vs[i]?=some vs[i]:=List.getElem?_eq_getElem (by omega)
 have hlen:(xs.flatMap eI).length=xs.length:=by rw[flat_len (f:=eI) (e:=1) (fun _=>rfl)]; omega
 obtain⟨v',h',a1,a2,a3,a4,a5,a6,a7⟩:=(r2 i _ xs hv hi).app (bytes:=8) hlo (by omega) hx hxl (fun b n e=>hxn i b n (by rw[hv,e])) rfl rfl (by rw[hlen]; unfold tooMany; omega) (by rw[hlen]; unfold tooMany; omega)
 obtain⟨c1,c2⟩:=a2.cells
 refine⟨_,v',h',hv,a1,c1,c2,⟨by rw[List.length_set,List.length_set,r1],?_,?_⟩,a3,a5,fun c hc hne=>⟨a6 c hc fun b n e=>(hne i b n (by rw[hv,e])).symm,fun j b n hj=>?_⟩⟩
 rotate_right
 ·by_cases e:i=j
  ·subst e
   rw[List.getElem?_set_self (by omega),Option.some.injEq,a4] at hj
   cases hj
   omega
  ·rw[List.getElem?_set_ne e] at hj
   exact hne j b n hj
 ·intro j w ys hw hy
  by_cases e:i=j
  ·subst e
   rw[List.getElem?_set_self (by omega),Option.some.injEq] at hw hy
   subst hw hy
   rw[List.flatMap_append]
   exact a2
  ·rw[List.getElem?_set_ne e] at hw hy
   refine (r2 j w ys hw hy).cong fun b n eb hb=>a6 b ((r2 j w ys hw hy).lt eb) fun b' n' e'=>?_
   exact (r3 i j b' n' b n e (by rw[hv,e']) (by rw[hw,eb])).symm
 ·have hlt:∀ j b n,vs[j]?=some (AV.sl b 0 n n)→b<h.next:=fun j b n hj=>by
   have hjl:j<vs.length:=(List.getElem?_eq_some_iff.1 hj).1
   exact (r2 j _ xss[j] hj (List.getElem?_eq_getElem (by omega))).lt rfl
  intro j1 j2 b n b' n' hne h1 h2
  by_cases e:i=j1
  ·subst e
   rw[List.getElem?_set_self (by omega),Option.some.injEq,a4] at h1
   rw[List.getElem?_set_ne hne] at h2
   have:=hlt _ _ _ h2
   cases h1
   omega
  ·rw[List.getElem?_set_ne e] at h1
   by_cases e2:i=j2
   ·subst e2
    rw[List.getElem?_set_self (by omega),Option.some.injEq,a4] at h2
    have:=hlt _ _ _ h1
    cases h2
    omega
   ·rw[List.getElem?_set_ne e2] at h2
    exact r3 _ _ _ _ _ _ hne h1 h2
def IsView (h:AH) (vp:AV) (n:Nat) (es:List (Int×Int)):Prop:=∃ (b:Nat) (ev:AV) (os is:List AV) (ob ib:Nat),vp=.ptr b 0∧h.get b=some (.cells [.int .i64 (n:Nat),ev,.sl ob 0 n n,.sl ib 0 n n] 4 false)∧SlE h ev es ∧
 h.get ob=some (.cells os 1 false)∧h.get ib=some (.cells is 1 false)∧os.length=n∧is.length=n∧(∀ (x:Nat) (v:AV),os[x]?=some v→SlI h v (outsM es x))∧(∀ (x:Nat) (v:AV),is[x]?=some v→SlI h v (insM es x))∧1≤n∧n≤64∧es.length≤128∧es.all (okE n)=true
theorem IsView.ext {h h':AH}{vp:AV}{n:Nat}{es:List (Int×Int)} (hv:IsView h vp n es) (hx:Ext h.next h h'):IsView h' vp n es:=by
 obtain⟨b,ev,os,is,ob,ib,rfl,g1,g2,g3,g4,g5,g6,g7,g8,g9⟩:=hv
 exact⟨b,ev,os,is,ob,ib,rfl,by rw[hx.gt _ (AH.lt_of_get g1)]; exact g1,g2.ext hx (Nat.le_refl _),by rw[hx.gt _ (AH.lt_of_get g3)]; exact g3,by rw[hx.gt _ (AH.lt_of_get g4)]; exact g4,g5,g6,
  fun x v q=>(g7 x v q).ext hx (Nat.le_refl _),fun x v q=>(g8 x v q).ext hx (Nat.le_refl _),g9⟩
def rows2 (n:Nat) (es:List (Int×Int)):List (List Int):=(List.range n).map (fun x=>outsM es ((x:Nat):Int))++(List.range n).map (fun x=>insM es ((x:Nat):Int))
theorem rows2_out {n x:Nat}{es:List (Int×Int)} (hx:x<n):(rows2 n es)[x]?=some (outsM es x):=by
 unfold rows2
 rw[List.getElem?_append_left (by simpa using hx),List.getElem?_map,List.getElem?_range hx]
 rfl
theorem rows2_in {n x:Nat}{es:List (Int×Int)} (hx:x<n):(rows2 n es)[n+x]?=some (insM es x):=by
 unfold rows2
 rw[List.getElem?_append_right (by simp),List.length_map,List.length_range,Nat.add_sub_cancel_left,List.getElem?_map,List.getElem?_range hx]
 rfl
theorem set_map_range {n x:Nat}{f g:Nat→List Int} (hx:x<n) (hne:∀ y,y≠x→f y=g y):((List.range n).map f).set x (g x)=(List.range n).map g:=by
 refine List.ext_getElem? fun i=>?_
 rw[List.getElem?_set]
 by_cases e:x=i
 ·subst e
  simp [hx]
 ·rw[if_neg e,List.getElem?_map,List.getElem?_map]
  by_cases hi:i<n
  ·rw[List.getElem?_range hi]
   simp only[Option.map_some]
   rw[hne i (Ne.symm e)]
  ·rw[List.getElem?_eq_none (by simpa using hi)]
   rfl
theorem rows2_set {n k a b:Nat}{es:List (Int×Int)} (hk:k<es.length) (ha:a<n) (hb:b<n) (he:es[k]=(((a:Nat):Int),((b:Nat):Int))) :
 ((rows2 n (es.take k)).set a (outsM (es.take k) a++[((k:Nat):Int)])).set (n+b) (insM (es.take k) b++[((k:Nat):Int)])=rows2 n (es.take (k+1)):=by
 have ho:∀ x:Nat,outsM (es.take (k+1)) ((x:Nat):Int)=if x=a then outsM (es.take k) a++[((k:Nat):Int)] else outsM (es.take k) x:=fun x=>by
  unfold outsM
  rw[endsAt_succ _ hk,he]
  by_cases e:x=a
  ·subst e; simp
  ·have:¬ ((a:Nat):Int)=((x:Nat):Int):=by omega
   simp [e,this]
 have hi:∀ x:Nat,insM (es.take (k+1)) ((x:Nat):Int)=if x=b then insM (es.take k) b++[((k:Nat):Int)] else insM (es.take k) x:=fun x=>by
  unfold insM
  rw[endsAt_succ _ hk,he]
  by_cases e:x=b
  ·subst e; simp
  ·have:¬ ((b:Nat):Int)=((x:Nat):Int):=by omega
   simp [e,this]
 unfold rows2
 rw[List.set_append_left _ _ (by simpa using ha),List.set_append_right _ _ (by simp)]
 have e1:=set_map_range (f:=fun x:Nat=>outsM (es.take k) ((x:Nat):Int)) (g:=fun x:Nat=>outsM (es.take (k+1)) ((x:Nat):Int)) ha fun y hy=>by simp only[ho,if_neg hy]
 have e2:=set_map_range (f:=fun x:Nat=>insM (es.take k) ((x:Nat):Int)) (g:=fun x:Nat=>insM (es.take (k+1)) ((x:Nat):Int)) hb fun y hy=>by simp only[hi,if_neg hy]
 simp only[ho,if_true] at e1
 simp only[hi,if_true] at e2
 rw[List.length_set,List.length_map,List.length_range,Nat.add_sub_cancel_left,e2,e1]
 simp only[ho,hi]
theorem Rw.nil (h:AH) (n:Nat):Rw h h.next (repl [.nils] n++repl [.nils] n) (rows2 n []):=by
 rw[repl_rep,List.replicate_append_replicate]
 have e2:rows2 n []=List.replicate (n+n) []:=by
  refine List.ext_getElem? fun i=>?_
  have e3:rows2 n []=(List.range n++List.range n).map fun _=>[]:=by rw[List.map_append]; rfl
  rw[e3,List.getElem?_map,List.getElem?_replicate]
  by_cases hi:i<n+n
  ·rw[List.getElem?_eq_getElem (by simpa using hi),if_pos hi]; rfl
  ·rw[List.getElem?_eq_none (by simpa using hi),if_neg hi]; rfl
 rw[e2]
 refine⟨by rw[List.length_replicate,List.length_replicate],fun i v xs h1 h2=>?_,fun i j b n b' n' _ h1=>?_⟩
 ·rw[List.getElem?_replicate] at h1 h2
  split at h1
  ·rw[if_pos ‹_›] at h2
   simp only[Option.some.injEq] at h1 h2
   subst h1 h2
   exact .inl ⟨rfl,rfl⟩
  ·cases h1
 ·rw[List.getElem?_replicate] at h1
  split at h1
  ·cases h1
  ·cases h1
theorem may_of {n:Nat}{es:List (Int×Int)} (hm:mayB (n:Nat) es=true):1≤n∧n≤64∧es.length≤128∧es.all (okE n)=true:=by
 simp only[mayB,Bool.and_eq_true,decide_eq_true_eq] at hm
 exact⟨by omega,by omega,by omega,hm.2⟩
theorem okE_nat {n:Nat}{e:Int×Int} (h:okE n e=true):∃ a b:Nat,e=(((a:Nat):Int),((b:Nat):Int))∧a<n∧b<n:=by
 obtain⟨x,y⟩:=e
 simp only[okE,Bool.and_eq_true,decide_eq_true_eq] at h
 exact⟨x.toNat,y.toNat,by rw[Int.toNat_of_nonneg (by omega),Int.toNat_of_nonneg (by omega)],by omega,by omega⟩
theorem gof_ok {h:AH}{n:Nat}{ev:AV}{es:List (Int×Int)} (he:SlE h ev es) (hm:mayB (n:Nat) es=true):C prg 19 [.agg [.int .i64 (n:Nat),ev]] h fun r h'=>IsView h' r n es∧Ext h.next h h':=by
 obtain⟨m1,m2,m3,m4⟩:=may_of hm
 obtain⟨ec,eo⟩:=he.cells
 refine C.func pf19 ?_
 refine W.seq (W.run (by simp only[am,evOp,simprocAttr,initTm]<;>rfl) ?_)
 have x0:Ext h.next h (h.new (.cells [.int .i64 (n:Nat),ev] 2 false)):=Ext.new (Nat.le_refl _)
 have g0:(h.new (.cells [.int .i64 (n:Nat),ev] 2 false)).get h.next=some (.cells [.int .i64 (n:Nat),ev] 2 false):=by rw[AH.get_new,if_pos rfl]
 have n0:(h.new (.cells [.int .i64 (n:Nat),ev] 2 false)).next=h.next+1:=rfl
 generalize h.new (.cells [.int .i64 (n:Nat),ev] 2 false)=h0 at *
 have r0:rdCells h0 h.next 0 2=some [.int .i64 (n:Nat),ev]:=by rw[rdCells_of g0]; rfl
 refine W.seq (W.seq (W.reg (G.gcall 1 (by simp only[am,evOp,simprocAttr,initTm,r0]<;>rfl) rfl (by simp only[am,evOp,simprocAttr,initTm,r0]) (by simp only[am,evOp,simprocAttr,initTm,r0]<;>rfl) (gmay_ok (he.ext x0 (Nat.le_refl _)) (by omega)) fun r h1 hq=>?_)))
 obtain⟨rfl,x1⟩:=hq
 rw[hm]
 refine G.run (by simp only[am,evOp,simprocAttr]<;>rfl) ?_
 refine W.no (by simp only[am,evOp,simprocAttr]) (W.skip ?_)
 have g1:h1.get h.next=some (.cells [.int .i64 (n:Nat),ev] 2 false):=by rw[x1.gt _ (by omega)]; exact g0
 have n1:=x1.nx
 have kn:(h1.keep 3).next=h1.next+3:=AH.keep_next 3 h1
 have kg:∀ c,(h1.keep 3).get c=if h1.next≤c∧c<h1.next+3 then some .resv else h1.get c:=fun c=>AH.keep_get 3 h1
 have k1:(h1.keep 3).get h.next=some (.cells [.int .i64 (n:Nat),ev] 2 false):=by rw[kg,if_neg (by omega)]; exact g1
 have ra:rdCells (h1.keep 3) h.next 0 2=some [.int .i64 (n:Nat),ev]:=by rw[rdCells_of k1]; rfl
 have rb:rdCells (h1.keep 3) h.next 0 1=some [.int .i64 (n:Nat)]:=by rw[rdCells_of k1]; rfl
 have q0:(h1.keep 3).get h1.next=some .resv:=by rw[kg,if_pos ⟨by omega,by omega⟩]
 have mv:=mksV_nat (z:=[.nils]) (bytes:=24) (n:=n) (by unfold tooMany; omega) (by unfold tooMany; omega)
 have q1:((h1.keep 3).put h1.next (.cells (repl [.nils] n) 1 false)).get (h1.next+1)=some .resv:=by rw[AH.get_put _ _ _ _ (by omega),if_neg (by omega),kg,if_pos ⟨by omega,by omega⟩]
 have q2:(((h1.keep 3).put h1.next (.cells (repl [.nils] n) 1 false)).put (h1.next+1) (.cells (repl [.nils] n) 1 false)).get (h1.next+2)=some .resv:=by
  rw[AH.get_put _ _ _ _ (by rw[AH.next_put]; omega),if_neg (by omega),AH.get_put _ _ _ _ (by omega),if_neg (by omega),kg,if_pos ⟨by omega,by omega⟩]
 have bx:=boxV_agg (k:=4) (cs:=[.int .i64 (n:Nat),ev,.sl h1.next 0 n n,.sl (h1.next+1) 0 n n]) rfl
 refine W.seq (W.runsK (fun ts h2=>h2=(((h1.keep 3).put h1.next (.cells (repl [.nils] n) 1 false)).put (h1.next+1) (.cells (repl [.nils] n) 1 false)).put (h1.next+2) (.cells [.int .i64 (n:Nat),ev,.sl h1.next 0 n n,.sl (h1.next+1) 0 n n] 4 false)∧tget ts 1=.ptr h.next 0∧tget ts 3=.ptr (h1.next+2) 0)
  (by simp only[am,evOp,simprocAttr,initTm,ra,rb,evN_some,evNew_mks q0,evNew_mks q1,evNew_box q2,mv,bx,ec,eo,List.take_succ_cons]) ?_)
 rintro ts h2 ⟨hh2,t1,t3⟩
 have n2:h2.next=h1.next+3:=by rw[hh2]; simp only[AH.next_put]; omega
 have gg:∀ c,h2.get c=if h1.next+2=c then some (.cells [.int .i64 (n:Nat),ev,.sl h1.next 0 n n,.sl (h1.next+1) 0 n n] 4 false) else if h1.next+1=c then some (.cells (repl [.nils] n) 1 false) else if h1.next=c then some (.cells (repl [.nils] n) 1 false) else (h1.keep 3).get c:=fun c=>by
  rw[hh2,AH.get_put _ _ _ _ (by simp only[AH.next_put]; omega),AH.get_put _ _ _ _ (by simp only[AH.next_put]; omega),AH.get_put _ _ _ _ (by omega)]
 have x2:Ext h1.next h1 h2:=⟨by omega,fun c hc=>by rw[gg,if_neg (by omega),if_neg (by omega),if_neg (by omega),kg,if_neg (by omega)],fun c hc=>by rw[hh2]; exact AH.keep_tyOf 3 h1⟩
 clear q0 q1 q2 mv bx ra rb k1 kg kn hh2
 have g2:h2.get h.next=some (.cells [.int .i64 (n:Nat),ev] 2 false):=by rw[x2.gt _ (by omega)]; exact g1
 have gv:h2.get (h1.next+2)=some (.cells [.int .i64 (n:Nat),ev,.sl h1.next 0 n n,.sl (h1.next+1) 0 n n] 4 false):=by rw[gg,if_pos rfl]
 have go:h2.get h1.next=some (.cells (repl [.nils] n) 1 false):=by rw[gg,if_neg (by omega),if_neg (by omega),if_pos rfl]
 have gi:h2.get (h1.next+1)=some (.cells (repl [.nils] n) 1 false):=by rw[gg,if_neg (by omega),if_pos rfl]
 clear gg
 have r2:rdCells h2 h.next 1 1=some [ev]:=by rw[rdCells_of g2]; rfl
 have he2:SlE h2 ev es:=((he.ext x0 (Nat.le_refl _)).ext x1 (Nat.le_refl _)).ext x2 (Nat.le_refl _)
 refine W.seq (W.reg (G.gcall 3 (by simp only[am,evOp,simprocAttr,t1,r2]<;>rfl) rfl (by simp only[am,evOp,simprocAttr,t1,r2]) (by simp only[am,evOp,simprocAttr,t1,r2]<;>rfl) (cloneE_ok he2 (by omega)) fun cv h3 hq=>?_))
 obtain⟨c1,x3,_⟩:=hq
 have n3:=x3.nx
 have gv3:h3.get (h1.next+2)=some (.cells [.int .i64 (n:Nat),ev,.sl h1.next 0 n n,.sl (h1.next+1) 0 n n] 4 false):=by rw[x3.gt _ (by omega)]; exact gv
 have w3:wrCells h3 (h1.next+2) 1 [cv]=some (h3.put (h1.next+2) (.cells [.int .i64 (n:Nat),cv,.sl h1.next 0 n n,.sl (h1.next+1) 0 n n] 4 false)):=by rw[wrCells_of gv3]; rfl
 obtain⟨cc,co⟩:=c1.cells
 refine G.run (by simp only[am,evOp,simprocAttr,t3,cc,co,w3]<;>rfl) ?_
 have u4:=Upd.put (o:=.cells [.int .i64 (n:Nat),cv,.sl h1.next 0 n n,.sl (h1.next+1) 0 n n] 4 false) gv3
 generalize h3.put (h1.next+2) (.cells [.int .i64 (n:Nat),cv,.sl h1.next 0 n n,.sl (h1.next+1) 0 n n] 4 false)=h4 at *
 have n4:=u4.nx
 have c4:=c1.upd u4 (by omega)
 have gv4:=u4.get
 have go4:h4.get h1.next=some (.cells (repl [.nils] n) 1 false):=by rw[u4.ne (by omega),x3.gt _ (by omega)]; exact go
 have gi4:h4.get (h1.next+1)=some (.cells (repl [.nils] n) 1 false):=by rw[u4.ne (by omega),x3.gt _ (by omega)]; exact gi
 have g4:h4.get h.next=some (.cells [.int .i64 (n:Nat),ev] 2 false):=by rw[u4.ne (by omega),x3.gt _ (by omega)]; exact g2
 have x4:Ext h1.next h1 h4:=x2.trans ((x3.mono (by omega)).trans (u4.ext (by omega)))
 have r4:rdCells h4 h.next 1 1=some [ev]:=by rw[rdCells_of g4]; rfl
 have he4:SlE h4 ev es:=((he.ext x0 (Nat.le_refl _)).ext x1 (Nat.le_refl _)).ext x4 (Nat.le_refl _)
 clear gv3 w3 u4 c1 go gi gv g2 r2 he2
 have hlen:=he.len
 rw[List.length_map] at hlen
 have rl:(repl [AV.nils] n).length=n:=by rw[repl_rep,List.length_replicate]
 refine W.seq (W.seq (W.run (by simp only[am,evOp,simprocAttr,t1,t3,r4,hlen]<;>rfl) ?_))
 refine W.rng (α:=List AV×List AV) (N:=es.length) (fun _ _=>[(3,.ptr (h1.next+2) 0),(27,ev)])
  (fun k a h'=>h'.get (h1.next+2)=some (.cells [.int .i64 (n:Nat),cv,.sl h1.next 0 n n,.sl (h1.next+1) 0 n n] 4 false)∧h'.get h1.next=some (.cells a.1 1 false)∧h'.get (h1.next+1)=some (.cells a.2 1 false)∧a.1.length=n∧a.2.length=n∧Rw h' h4.next (a.1++a.2) (rows2 n (es.take k))∧Ext h1.next h1 h'∧IsSl h' 2 h2.next cv (es.flatMap eE)∧h4.next≤h'.next)
  (repl [.nils] n,repl [.nils] n) (fun _ _=>rfl) (by omega) (by simp only[hl,am,evOp,simprocAttr,t3]) ⟨gv4,go4,gi4,rl,rl,Rw.nil h4 n,x4,c4,Nat.le_refl _⟩ ?_ ?_
 ·rintro k ⟨os,is⟩ ts h5 hk ⟨j1,j2,j3,j4,j5,j6,j7,j8,j9⟩ ⟨ei,en,e3,e27,-⟩
  simp only at ei en e3 e27 j2 j3 j4 j5 j6
  obtain⟨a,b,eab,ha,hb⟩:=okE_nat (List.all_eq_true.1 m4 _ (List.getElem_mem hk))
  obtain⟨b1,p1,a1,r1,_⟩:=(((he.ext x0 (Nat.le_refl _)).ext x1 (Nat.le_refl _)).ext j7 (Nat.le_refl _)).at (map_at (f:=eE) hk)
  rw[eab] at r1
  obtain⟨h6,w6,x6,g6,n6⟩:=mk_loc (h:=h5) (z:=[.int .i64 0,.int .i64 0]) (cs:=[.int .i64 (a:Nat),.int .i64 (b:Nat)]) (e:=2) rfl
  refine W.seq (W.run (by simp only[am,evOp,simprocAttr,e3,e27,ei,a1,r1,eE,w6]<;>rfl) ?_)
  obtain⟨x7,p7,n7,y7⟩:=keep1_put (h:=h6) (o:=.cells [.int .i64 (k:Nat)] 1 false)
  have kg:∀ c,c<h6.next→(h6.keep 1).get c=h6.get c:=fun c hc=>by rw[AH.keep_get,if_neg (by omega)]
  have q7:(h6.keep 1).get h6.next=some .resv:=keep1_get
  have j1':h6.get (h1.next+2)=some (.cells [.int .i64 (n:Nat),cv,.sl h1.next 0 n n,.sl (h1.next+1) 0 n n] 4 false):=by rw[x6.gt _ (by omega)]; exact j1
  have j2':h6.get h1.next=some (.cells os 1 false):=by rw[x6.gt _ (by omega)]; exact j2
  have j3':h6.get (h1.next+1)=some (.cells is 1 false):=by rw[x6.gt _ (by omega)]; exact j3
  have v1:rdCells (h6.keep 1) (h1.next+2) 2 1=some [.sl h1.next 0 n n]:=by rw[rdCells_of (by rw[kg _ (by omega)]; exact j1')]; rfl
  have v2:rdCells (h6.keep 1) h5.next 0 1=some [.int .i64 (a:Nat)]:=by rw[rdCells_of (by rw[kg _ (by omega)]; exact g6)]; rfl
  have hR:Rw ((h6.keep 1).put h6.next (.cells [.int .i64 (k:Nat)] 1 false)) h4.next (os++is) (rows2 n (es.take k)):=j6.cong fun c hc hcn=>by rw[y7 _ (by omega),x6.gt _ (by omega)]
  obtain⟨va,va',h8,s1,s2,s3,s4,s5,s6,s7,s8⟩:=hR.push (i:=a) (x:=h6.next) (k:=(k:Nat)) (rows2_out ha) (by omega) p7 (by omega) (fun j b n q=>by have:=j6.lt q; omega)
   (by have:=endsAt_len (fun e=>decide (e.1=((a:Nat):Int))) (es.take k) 0; rw[List.length_take] at this; unfold outsM; omega)
  rw[List.getElem?_append_left (by omega)] at s1
  have v3:rdCells (h6.keep 1) h1.next a 1=some [va]:=rd_at (by rw[kg _ (by omega)]; exact j2') s1
  have ia:idx? ((a:Nat):Int) n=some a:=idx_nat ha
  have d1:h8.get (h1.next+2)=some (.cells [.int .i64 (n:Nat),cv,.sl h1.next 0 n n,.sl (h1.next+1) 0 n n] 4 false):=by rw[s6.gt _ (by omega),y7 _ (by omega)]; exact j1'
  have d2:h8.get h1.next=some (.cells os 1 false):=by rw[s6.gt _ (by omega),y7 _ (by omega)]; exact j2'
  have d3:h8.get (h1.next+1)=some (.cells is 1 false):=by rw[s6.gt _ (by omega),y7 _ (by omega)]; exact j3'
  have d5:h8.get h5.next=some (.cells [.int .i64 (a:Nat),.int .i64 (b:Nat)] 2 false):=by rw[(s8 _ (by omega) (fun j b n q=>by have:=j6.lt q; omega)).1,y7 _ (by omega)]; exact g6
  have f1:rdCells h8 (h1.next+2) 2 1=some [.sl h1.next 0 n n]:=by rw[rdCells_of d1]; rfl
  have f2:rdCells h8 h5.next 0 1=some [.int .i64 (a:Nat)]:=by rw[rdCells_of d5]; rfl
  have f3:=wr_at (v:=va') d2 (show a<os.length by omega)
  have u9:=Upd.put (o:=.cells (os.set a va') 1 false) d2
  refine W.seq (W.runK (by simp only[am,evOp,simprocAttr,e3,v1,v2,v3,evN_some,evNew_mksl q7,ia,Nat.mul_one,s2,s3,s4,f1,f2,f3]<;>rfl) ?_)
  generalize h8.put h1.next (.cells (os.set a va') 1 false)=h9 at *
  have n9:=u9.nx
  have hR9:Rw h9 h4.next (os.set a va'++is) ((rows2 n (es.take k)).set a (outsM (es.take k) a++[((k:Nat):Int)])):=by
   rw[← List.set_append_left _ _ (by omega)]
   exact s5.cong fun c hc _=>u9.ne (by omega)
  have l9:∀ (j b n:Nat),(os.set a va'++is)[j]?=some (AV.sl b 0 n n)→b≠h5.next:=fun j b n' q=>by
   rw[← List.set_append_left _ _ (by omega)] at q
   exact (s8 _ (by omega) (fun j b n q=>by have:=j6.lt q; omega)).2 j b n' q
  have l6:∀ (j b n:Nat),(os.set a va'++is)[j]?=some (AV.sl b 0 n n)→b<h9.next:=fun j b n' q=>(hR9.lt q).1
  obtain⟨X7,P7,N7,Y7⟩:=keep1_put (h:=h9) (o:=.cells [.int .i64 (k:Nat)] 1 false)
  have kg2:∀ c,c<h9.next→(h9.keep 1).get c=h9.get c:=fun c hc=>by rw[AH.keep_get,if_neg (by omega)]
  have Q7:(h9.keep 1).get h9.next=some .resv:=keep1_get
  have J1:h9.get (h1.next+2)=some (.cells [.int .i64 (n:Nat),cv,.sl h1.next 0 n n,.sl (h1.next+1) 0 n n] 4 false):=by rw[u9.ne (by omega)]; exact d1
  have J3:h9.get (h1.next+1)=some (.cells is 1 false):=by rw[u9.ne (by omega)]; exact d3
  have J5:h9.get h5.next=some (.cells [.int .i64 (a:Nat),.int .i64 (b:Nat)] 2 false):=by rw[u9.ne (by omega)]; exact d5
  have V1:rdCells (h9.keep 1) (h1.next+2) 3 1=some [.sl (h1.next+1) 0 n n]:=by rw[rdCells_of (by rw[kg2 _ (by omega)]; exact J1)]; rfl
  have V2:rdCells (h9.keep 1) h5.next 1 1=some [.int .i64 (b:Nat)]:=by rw[rdCells_of (by rw[kg2 _ (by omega)]; exact J5)]; rfl
  have HR:Rw ((h9.keep 1).put h9.next (.cells [.int .i64 (k:Nat)] 1 false)) h4.next (os.set a va'++is) ((rows2 n (es.take k)).set a (outsM (es.take k) a++[((k:Nat):Int)])):=hR9.cong fun c hc hcn=>Y7 _ (by omega)
  obtain⟨vb,vb',H8,S1,S2,S3,S4,S5,S6,S7,S8⟩:=HR.push (i:=n+b) (x:=h9.next) (k:=(k:Nat)) (xs:=insM (es.take k) b) (by rw[List.getElem?_set_ne (by omega)]; exact rows2_in hb) (by omega) P7 (by omega) (fun j b n q=>by have:=l6 j b n q; omega)
   (by have:=endsAt_len (fun e=>decide (e.2=((b:Nat):Int))) (es.take k) 0; rw[List.length_take] at this; unfold insM; omega)
  have hol:(os.set a va').length=n:=by rw[List.length_set,j4]
  rw[List.getElem?_append_right (by omega),hol,Nat.add_sub_cancel_left] at S1
  rw[List.set_append_right _ _ (by omega),hol,Nat.add_sub_cancel_left,rows2_set hk ha hb eab] at S5
  have V3:rdCells (h9.keep 1) (h1.next+1) b 1=some [vb]:=rd_at (by rw[kg2 _ (by omega)]; exact J3) S1
  have ib:idx? ((b:Nat):Int) n=some b:=idx_nat hb
  have D1:H8.get (h1.next+2)=some (.cells [.int .i64 (n:Nat),cv,.sl h1.next 0 n n,.sl (h1.next+1) 0 n n] 4 false):=by rw[S6.gt _ (by omega),Y7 _ (by omega)]; exact J1
  have D2:H8.get h1.next=some (.cells (os.set a va') 1 false):=by rw[S6.gt _ (by omega),Y7 _ (by omega)]; exact u9.get
  have D3:H8.get (h1.next+1)=some (.cells is 1 false):=by rw[S6.gt _ (by omega),Y7 _ (by omega)]; exact J3
  have D5:H8.get h5.next=some (.cells [.int .i64 (a:Nat),.int .i64 (b:Nat)] 2 false):=by rw[(S8 _ (by omega) l9).1,Y7 _ (by omega)]; exact J5
  have F1:rdCells H8 (h1.next+2) 3 1=some [.sl (h1.next+1) 0 n n]:=by rw[rdCells_of D1]; rfl
  have F2:rdCells H8 h5.next 1 1=some [.int .i64 (b:Nat)]:=by rw[rdCells_of D5]; rfl
  have F3:=wr_at (v:=vb') D3 (show b<is.length by omega)
  have U9:=Upd.put (o:=.cells (is.set b vb') 1 false) D3
  refine W.runK (by simp only[am,evOp,simprocAttr,e3,V1,V2,V3,evN_some,evNew_mksl Q7,ib,Nat.mul_one,S2,S3,S4,F1,F2,F3]<;>rfl) ?_
  generalize H8.put (h1.next+1) (.cells (is.set b vb') 1 false)=H9 at *
  have N9:=U9.nx
  refine⟨(os.set a va',is.set b vb'),⟨by rw[U9.ne (by omega)]; exact D1,by rw[U9.ne (by omega)]; exact D2,U9.get,hol,by rw[List.length_set,j5],S5.cong fun c hc _=>U9.ne (by omega),?_,?_,by omega⟩,by simp only[hl,am,evOp,simprocAttr,ei,en,e3,e27]⟩
  ·exact j7.trans ((x6.mono (by omega)).trans ((x7.mono (by omega)).trans ((s6.mono (by omega)).trans ((u9.ext (Nat.le_refl _)).trans ((X7.mono (by omega)).trans ((S6.mono (by omega)).trans (U9.ext (by omega))))))))
  ·refine j8.cong fun b n e hb=>?_
   have:=c4.lt e
   rw[U9.ne (by omega),S6.gt _ (by omega),Y7 _ (by omega),u9.ne (by omega),s6.gt _ (by omega),y7 _ (by omega),x6.gt _ (by omega)]
 ·rintro⟨os,is⟩ ts h5 ⟨j1,j2,j3,j4,j5,j6,j7,j8,j9⟩ ⟨e3,e27,-⟩
  simp only at e3 e27 j2 j3 j4 j5 j6
  rw[List.take_length] at j6
  refine W.seq (W.run (by simp only[am,evOp,simprocAttr,e3]<;>rfl) ?_)
  have hx:Ext h.next h h5:=x0.trans ((x1.mono (by omega)).trans (j7.mono (by omega)))
  refine W.ret ⟨.ptr (h1.next+2) 0,(by simp only[rs,rf19,am,evOp,simprocAttr]<;>rfl),⟨h1.next+2,cv,os,is,h1.next,h1.next+1,rfl,j1,IsSl.sl (by omega) (fun _=>rfl) j8,j2,j3,j4,j5,fun x v q=>?_,fun x v q=>?_,m1,m2,m3,m4⟩,hx⟩
  ·have hxn:x<n:=by rw[← j4]; exact (List.getElem?_eq_some_iff.1 q).1
   exact IsSl.sl (by omega) (fun _=>rfl) (j6.2.1 x v _ (by rw[List.getElem?_append_left (by omega)]; exact q) (rows2_out hxn))
  ·have hxn:x<n:=by rw[← j5]; exact (List.getElem?_eq_some_iff.1 q).1
   exact IsSl.sl (by omega) (fun _=>rfl) (j6.2.1 (n+x) v _ (by rw[List.getElem?_append_right (by omega),j4,Nat.add_sub_cancel_left]; exact q) (rows2_in hxn))
theorem endsAt_none {p:Int×Int→Bool}:∀ (es:List (Int×Int)) (i:Nat),(∀ e∈es,p e=false)→endsAt p es i=[]
 | [],_,_=>rfl
 | e::r,i,h=>by
   simp only[endsAt,h e (by simp),Bool.false_eq_true,if_false]
   exact endsAt_none r (i+1) fun e' he=>h e' (by simp [he])
theorem okE_in {n:Int}{e:Int×Int} (h:okE n e=true):0≤e.1∧e.1<n∧0≤e.2∧e.2<n:=by
 simp only[okE,Bool.and_eq_true,decide_eq_true_eq] at h
 omega
theorem outs_none {n:Int}{es:List (Int×Int)} (he:es.all (okE n)=true) {x:Int} (hx:¬ (0≤x∧x<n)):outsM es x=[] :=
 endsAt_none es 0 fun e h=>by
  have:=okE_in (List.all_eq_true.1 he e h)
  simp only[decide_eq_false_iff_not]
  omega
theorem there_ok {h:AH}{b ob n:Nat}{ls:List AV}{rest:List AV}{x:Int}{f:Int→List Int} (hb:h.get b=some (.cells (.int .i64 (n:Nat)::rest) 4 false)) (ho:h.get ob=some (.cells ls 1 false)) (hl:ls.length=n) (hn:n≤64)
 (hr:∀ (y:Nat) (v:AV),ls[y]?=some v→SlI h v (f y)) (hs:∀ y,(f y).length<2 ^ 30) (h0:¬ (0≤x∧x<n)→f x=[]) :
 C prg 55 [.ptr b 0,.sl ob 0 n n,.int .i64 x] h fun r h'=>IsSl h' 1 h.next r ((f x).flatMap eI)∧Ext h.next h h':=by
 refine C.func pf55 ?_
 refine W.seq (W.run (by simp only[am,evOp,simprocAttr,initTm]<;>rfl) ?_)
 have rn:rdCells h b 0 1=some [.int .i64 (n:Nat)]:=rd_at hb rfl
 by_cases q1:x<0
 ·have c1:decide (x<0)=true:=decide_eq_true q1
  refine W.seq (W.seq (W.run (by simp only[am,evOp,simprocAttr,initTm,c1]<;>rfl) ?_))
  refine W.yes (by simp only[am,evOp,simprocAttr]) (W.seq (W.run (by simp only[am,evOp,simprocAttr]<;>rfl) ?_))
  exact W.ret ⟨.nils,(by simp only[rs,rf55,am,evOp,simprocAttr]<;>rfl),.inl ⟨rfl,by rw[h0 (by omega)]; rfl⟩,Ext.refl⟩
 have c1:decide (x<0)=false:=decide_eq_false q1
 by_cases q2:((n:Nat):Int)≤x
 ·have c2:decide (((n:Nat):Int)≤x)=true:=decide_eq_true q2
  refine W.seq (W.seq (W.run (by simp only[am,evOp,simprocAttr,initTm,c1,c2,rn]<;>rfl) ?_))
  refine W.yes (by simp only[am,evOp,simprocAttr]) (W.seq (W.run (by simp only[am,evOp,simprocAttr]<;>rfl) ?_))
  exact W.ret ⟨.nils,(by simp only[rs,rf55,am,evOp,simprocAttr]<;>rfl),.inl ⟨rfl,by rw[h0 (by omega)]; rfl⟩,Ext.refl⟩
 have c2:decide (((n:Nat):Int)≤x)=false:=decide_eq_false q2
 refine W.seq (W.seq (W.run (by simp only[am,evOp,simprocAttr,initTm,c1,c2,rn]<;>rfl) ?_))
 refine W.no (by simp only[am,evOp,simprocAttr]) (W.skip ?_)
 obtain⟨y,rfl⟩:∃ y:Nat,x=y:=⟨x.toNat,by omega⟩
 have hy:y<ls.length:=by omega
 have ix:idx? ((y:Nat):Int) n=some y:=idx_nat (by omega)
 have hv:=hr y _ (List.getElem?_eq_getElem hy)
 have rv:=rd_at ho (List.getElem?_eq_getElem hy)
 refine W.seq (W.reg (G.gcall 4 (by simp only[am,evOp,simprocAttr,initTm,ix,Nat.mul_one,rv]<;>rfl) rfl (by simp only[am,evOp,simprocAttr,initTm,ix,Nat.mul_one,rv]) (by simp only[am,evOp,simprocAttr,initTm,ix,Nat.mul_one,rv]<;>rfl) (cloneI_ok hv (Nat.lt_trans (hs y) (by decide))) fun r h2 hq=>?_))
 refine G.run (by simp only[am,evOp,simprocAttr]<;>rfl) ?_
 exact W.ret ⟨r,(by simp only[rs,rf55,am,evOp,simprocAttr]<;>rfl),hq.1,hq.2.1⟩
theorem outs_ok {h:AH}{vp:AV}{n:Nat}{es:List (Int×Int)}{x:Int} (hv:IsView h vp n es):C prg 23 [vp,.int .i64 x] h fun r h'=>IsSl h' 1 h.next r ((outsM es x).flatMap eI)∧Ext h.next h h':=by
 obtain⟨b,ev,os,is,ob,ib,rfl,g1,g2,g3,g4,g5,g6,g7,g8,m1,m2,m3,m4⟩:=hv
 refine C.func pf23 ?_
 have r1:rdCells h b 2 1=some [.sl ob 0 n n]:=rd_at g1 rfl
 refine W.seq (W.run (by simp only[am,evOp,simprocAttr,initTm]<;>rfl) ?_)
 refine W.seq (W.reg (G.gcall 6 (by simp only[am,evOp,simprocAttr,initTm,r1]<;>rfl) rfl (by simp only[am,evOp,simprocAttr,initTm,r1]) (by simp only[am,evOp,simprocAttr,initTm,r1]<;>rfl) (there_ok (f:=outsM es) (x:=x) g1 g3 g5 m2 (fun y v q=>g7 y v q) (fun y=>Nat.lt_of_le_of_lt (endsAt_len _ _ _) (by omega)) (outs_none m4)) fun r h2 hq=>?_))
 refine G.run (by simp only[am,evOp,simprocAttr]<;>rfl) ?_
 exact W.ret ⟨r,(by simp only[rs,rf23,am,evOp,simprocAttr]<;>rfl),hq⟩
end Go.Proofs.YticaalcbgikjjaaGreatDoor
namespace Go.Proofs.YticaalcbgikjjaaGreatDoor
open Go.Am
def cntE (es:List (Int×Int)) (out:List Int) (v:Int):Nat:=es.countP fun e=>decide (e.2=v)&&!out.contains e.1
def hsM (es:List (Int×Int)) (x:Int):List Int:=(es.filter fun e=>decide (e.1=x)).map (·.2)
def dec1 (w:List Int) (b:Int):List Int:=w.set b.toNat (w.getD b.toNat 0-1)
def decL (hs:List Int) (w:List Int):List Int:=hs.foldl dec1 w
theorem dec1_len (w:List Int) (b:Int):(dec1 w b).length=w.length:=by simp [dec1]
theorem decL_len:∀ (hs w:List Int),(decL hs w).length=w.length
 | [],_=>rfl
 | b::r,w=>by
   show (decL r (dec1 w b)).length=_
   rw[decL_len r,dec1_len]
theorem getD_set {w:List Int}{i j:Nat}{x:Int} (hi:i<w.length):(w.set i x).getD j 0=if i=j then x else w.getD j 0:=by
 rw[List.getD_eq_getElem?_getD,List.getElem?_set,List.getD_eq_getElem?_getD]
 by_cases e:i=j
 ·subst e; simp [hi]
 ·simp [e]
theorem decL_get:∀ (hs w:List Int) (v:Nat),(∀ b∈hs,0≤b∧b.toNat<w.length)→(decL hs w).getD v 0=w.getD v 0-(hs.count ((v:Nat):Int):Nat)
 | [],w,v,_=>by simp [decL]
 | b::r,w,v,h=>by
   obtain⟨h1,h2⟩:=h b (by simp)
   show (decL r (dec1 w b)).getD v 0=_
   rw[decL_get r (dec1 w b) v (fun c hc=>by rw[dec1_len]; exact h c (by simp [hc])),dec1,getD_set h2,List.count_cons]
   by_cases e:b.toNat=v
   ·have:b=((v:Nat):Int):=by omega
    subst this
    simp
    omega
   ·have:¬ b=((v:Nat):Int):=by omega
    simp [e,this]
structure Kahn (n:Nat) (es:List (Int×Int)) (out ws:List Int):Prop where
 len:ws.length=n
 nd:out.Nodup
 rng:∀ v∈out,0≤v∧v<n
 neg:∀ v:Nat,v<n→((v:Nat):Int)∈out→ws.getD v 0<0
 cnt:∀ v:Nat,v<n→¬ ((v:Nat):Int)∈out→ws.getD v 0=(cntE es out v:Nat)
 ord:∀ p v q,out=p++v::q→∀ e∈es,e.2=v→e.1∈p
 lo:∀ v:Nat,v<n→-(200*(out.length:Nat):Int)≤ws.getD v 0
theorem hs_count (es:List (Int×Int)) (x v:Int):(hsM es x).count v=es.countP fun e=>decide (e.2=v)&&decide (e.1=x):=by
 unfold hsM
 rw[List.count_eq_countP,List.countP_map,List.countP_filter]
 congr 1
theorem cnt_step {es:List (Int×Int)}{out:List Int}{x v:Int} (hx:¬ x∈out):cntE es (out++[x]) v+(hsM es x).count v=cntE es out v:=by
 rw[hs_count]
 unfold cntE
 induction es with
 | nil=>rfl
 | cons e r ih =>
   simp only[List.countP_cons]
   by_cases h1:e.2=v
   ·by_cases h2:e.1=x
    ·have h3:¬ e.1∈out:=by rw[h2]; exact hx
     simp [h1,h2,hx] at ih ⊢
     omega
    ·by_cases h3:e.1∈out
     ·simp [h1,h2,h3] at ih ⊢
      omega
     ·simp [h1,h2,h3] at ih ⊢
      omega
   ·simp [h1] at ih ⊢
    omega
theorem hs_mem {n:Nat}{es:List (Int×Int)} (he:es.all (okE n)=true) {x b:Int} (hb:b∈hsM es x):0≤b∧b<n:=by
 unfold hsM at hb
 obtain⟨e,h1,rfl⟩:=List.mem_map.1 hb
 have:=okE_in (List.all_eq_true.1 he e (List.mem_filter.1 h1).1)
 omega
theorem Kahn.step {n:Nat}{es:List (Int×Int)}{out ws:List Int} (k:Kahn n es out ws) (he:es.all (okE n)=true) (hl:es.length≤128) {x:Nat} (hx:x<n) (h0:ws.getD x 0=0) :
 Kahn n es (out++[((x:Nat):Int)]) (decL (hsM es x) (ws.set x (-1))):=by
 have hno:¬ ((x:Nat):Int)∈out:=fun h=>by have:=k.neg x hx h; omega
 have hxl:x<ws.length:=by rw[k.len]; exact hx
 have hmem:∀ b∈hsM es ((x:Nat):Int),0≤b∧b.toNat<(ws.set x (-1)).length:=fun b hb=>by
  have:=hs_mem he hb
  rw[List.length_set,k.len]
  omega
 have hg:∀ v:Nat,(decL (hsM es x) (ws.set x (-1))).getD v 0=(if x=v then -1 else ws.getD v 0)-((hsM es x).count ((v:Nat):Int):Nat):=fun v=>by
  rw[decL_get _ _ v hmem,getD_set hxl]
 have hc0:cntE es out ((x:Nat):Int)=0:=by have:=k.cnt x hx hno; omega
 refine⟨by rw[decL_len,List.length_set,k.len],?_,?_,?_,?_,?_,?_⟩
 ·rw[List.nodup_append]
  refine⟨k.nd,by simp,fun a ha b hb=>?_⟩
  simp only[List.mem_cons,List.not_mem_nil,or_false] at hb
  subst hb
  exact fun e=>hno (e▸ha)
 ·intro v hv
  rw[List.mem_append] at hv
  rcases hv with hv|hv
  ·exact k.rng v hv
  ·simp only[List.mem_cons,List.not_mem_nil,or_false] at hv
   subst hv
   omega
 ·intro v hv hm
  rw[hg]
  rw[List.mem_append] at hm
  by_cases e:x=v
  ·rw[if_pos e]; omega
  ·rw[if_neg e]
   have:((v:Nat):Int)∈out:=by
    rcases hm with hm|hm
    ·exact hm
    ·simp only[List.mem_cons,List.not_mem_nil,or_false] at hm; omega
   have:=k.neg v hv this
   omega
 ·intro v hv hm
  rw[List.mem_append,not_or] at hm
  have e:¬ x=v:=fun e=>hm.2 (by subst e; simp)
  rw[hg,if_neg e,k.cnt v hv hm.1]
  have:=cnt_step (es:=es) (v:=((v:Nat):Int)) hno
  omega
 ·intro p v q hq e hee hev
  by_cases hqn:q=[]
  ·subst hqn
   obtain⟨rfl,h2⟩:=List.append_inj' hq rfl
   simp only[List.cons.injEq,and_true] at h2
   subst h2
   by_cases hm:e.1∈out
   ·exact hm
   ·exfalso
    unfold cntE at hc0
    rw[List.countP_eq_zero] at hc0
    exact hc0 e hee (by simp [hev,hm])
  ·have h1:out=p++v::q.dropLast:=by
    have h3:q=q.dropLast++[q.getLast hqn]:=(List.dropLast_concat_getLast hqn).symm
    rw[h3,← List.cons_append,← List.append_assoc] at hq
    exact (List.append_inj' hq rfl).1
   exact k.ord p v _ h1 e hee hev
 ·intro v hv
  rw[hg,List.length_append]
  have h1:=k.lo v hv
  have h2:(hsM es ((x:Nat):Int)).count ((v:Nat):Int)≤128:=by
   refine Nat.le_trans List.count_le_length ?_
   unfold hsM
   rw[List.length_map]
   exact Nat.le_trans (List.length_filter_le _ _) hl
  simp only[List.length_cons,List.length_nil]
  split
  ·omega
  ·omega
theorem endsAt_count (p:Int×Int→Bool):∀ (es:List (Int×Int)) (i:Nat),(endsAt p es i).length=es.countP p
 | [],_=>rfl
 | e::r,i=>by
   have:=endsAt_count p r (i+1)
   rw[List.countP_cons]
   simp only[endsAt]
   cases p e
   ·simpa using this
   ·simpa using this
theorem Kahn.start {n:Nat}{es:List (Int×Int)}:Kahn n es [] ((List.range n).map fun x=>(((insM es ((x:Nat):Int)).length:Nat):Int)):=by
 refine⟨by simp,by simp,by simp,by simp,fun v hv _=>?_,fun p v q h=>by simp at h,fun v hv=>?_⟩
 ·rw[List.getD_eq_getElem?_getD,List.getElem?_map,List.getElem?_range hv]
  simp only[Option.map_some,Option.getD_some]
  unfold insM cntE
  rw[endsAt_count]
  simp
 ·rw[List.getD_eq_getElem?_getD,List.getElem?_map,List.getElem?_range hv]
  simp
theorem endsAt_get (p:Int×Int→Bool):∀ (es pre:List (Int×Int)),(endsAt p es pre.length).map (fun i=>((pre++es)[i.toNat]?).getD (0,0))=es.filter p
 | [],pre=>by simp [endsAt]
 | e::r,pre=>by
   have ih:=endsAt_get p r (pre++[e])
   rw[List.length_append,List.length_cons,List.length_nil,Nat.zero_add,List.append_assoc,List.cons_append,List.nil_append] at ih
   simp only[endsAt,List.filter_cons]
   split
   ·rw[List.map_cons,ih]
    congr 1
    rw[Int.toNat_natCast,List.getElem?_append_right (Nat.le_refl _),Nat.sub_self]
    rfl
   ·exact ih
theorem endsAt_range (p:Int×Int→Bool):∀ (es:List (Int×Int)) (i:Nat) (x:Int),x∈endsAt p es i→∃ j:Nat,x=((i+j:Nat):Int)∧j<es.length∧∃ e,es[j]?=some e∧p e=true
 | [],i,x,h=>by simp [endsAt] at h
 | e::r,i,x,h=>by
   have key:x∈endsAt p r (i+1)→∃ j:Nat,x=((i+j:Nat):Int)∧j<(e::r).length∧∃ e',(e::r)[j]?=some e'∧p e'=true:=fun h=>by
    obtain⟨j,h1,h2,e',h3,h4⟩:=endsAt_range p r (i+1) x h
    exact⟨j+1,by rw[h1]; congr 1; omega,by simp only[List.length_cons]; omega,e',by simpa using h3,h4⟩
   simp only[endsAt] at h
   split at h
   ·rename_i hp
    rw[List.mem_cons] at h
    rcases h with rfl|h
    ·exact⟨0,rfl,by simp,e,rfl,hp⟩
    ·exact key h
   ·exact key h
theorem outs_heads (es:List (Int×Int)) (x:Int):(outsM es x).map (fun i=>((es[i.toNat]?).getD (0,0)).2)=hsM es x:=by
 have:=endsAt_get (fun e=>decide (e.1=x)) es []
 simp only[List.length_nil,List.nil_append] at this
 unfold outsM hsM
 rw[← this,List.map_map]
 rfl
def Acy (es:List (Int×Int)):Prop:=∃ rank:Int→Nat,∀ e∈es,rank e.1<rank e.2
theorem Kahn.acy {n:Nat}{es:List (Int×Int)}{out ws:List Int} (k:Kahn n es out ws) (he:es.all (okE n)=true) (hz:∀ v:Nat,v<n→ws.getD v 0≠0) :
 (∀ v:Nat,v<n→ws.getD v 0≤0)↔Acy es:=by
 constructor
 ·intro h
  have hall:∀ x:Int,0≤x→x<n→x∈out:=fun x h1 h2=>by
   refine Classical.byContradiction fun hm=>?_
   have e:x=((x.toNat:Nat):Int):=by omega
   rw[e] at hm
   have h3:=k.cnt x.toNat (by omega) hm
   have h4:=h x.toNat (by omega)
   have h5:=hz x.toNat (by omega)
   omega
  refine⟨fun x=>out.idxOf x,fun e hee=>?_⟩
  have ho:=okE_in (List.all_eq_true.1 he e hee)
  have hm:=hall e.2 (by omega) (by omega)
  obtain⟨p,q,hpq⟩:=List.append_of_mem hm
  have hp:=k.ord p e.2 q hpq e hee rfl
  have hn:¬ e.2∈p:=fun h=>by
   have:=k.nd
   rw[hpq,List.nodup_append] at this
   exact this.2.2 _ h _ (by simp) rfl
  show out.idxOf e.1<out.idxOf e.2
  rw[hpq,List.idxOf_append,List.idxOf_append,if_pos hp,if_neg hn]
  have:=List.idxOf_lt_length_of_mem hp
  omega
 ·rintro⟨rank,hr⟩ v hv
  have key:∀ N,∀ v:Nat,v<n→rank v<N→((v:Nat):Int)∈out:=by
   intro N
   induction N with
   | zero=>intro v _ h; omega
   | succ N ih =>
     intro v hv hN
     refine Classical.byContradiction fun hm=>?_
     have h1:=k.cnt v hv hm
     have h2:=hz v hv
     have h3:0<cntE es out ((v:Nat):Int):=by omega
     unfold cntE at h3
     rw[List.countP_pos_iff] at h3
     obtain⟨e,hee,h4⟩:=h3
     simp only[Bool.and_eq_true,decide_eq_true_eq,Bool.not_eq_true',List.contains_eq_mem,decide_eq_false_iff_not] at h4
     have h5:=hr e hee
     rw[h4.1] at h5
     have ho:=okE_in (List.all_eq_true.1 he e hee)
     have e1:e.1=((e.1.toNat:Nat):Int):=by omega
     refine h4.2 ?_
     rw[e1]
     exact ih e.1.toNat (by omega) (by rw[← e1]; omega)
  have:=k.neg v hv (key (rank v+1) v hv (by omega))
  omega
theorem Kahn.back {n:Nat}{es:List (Int×Int)}{out ws:List Int} (k:Kahn n es out ws) (he:es.all (okE n)=true) (hz:∀ v:Nat,v<n→ws.getD v 0≠0) {v:Nat} (hv:v<n) (hp:0<ws.getD v 0) :
 ∃ e∈es,e.2=((v:Nat):Int)∧0<ws.getD e.1.toNat 0:=by
 have hm:¬ ((v:Nat):Int)∈out:=fun h=>by have:=k.neg v hv h; omega
 have h1:=k.cnt v hv hm
 have h3:0<cntE es out ((v:Nat):Int):=by omega
 unfold cntE at h3
 rw[List.countP_pos_iff] at h3
 obtain⟨e,hee,h4⟩:=h3
 simp only[Bool.and_eq_true,decide_eq_true_eq,Bool.not_eq_true',List.contains_eq_mem,decide_eq_false_iff_not] at h4
 have ho:=okE_in (List.all_eq_true.1 he e hee)
 have e1:e.1=((e.1.toNat:Nat):Int):=by omega
 refine⟨e,hee,h4.1,?_⟩
 have h5:=k.cnt e.1.toNat (by omega) (by rw[← e1]; exact h4.2)
 have h6:=hz e.1.toNat (by omega)
 omega
end Go.Proofs.YticaalcbgikjjaaGreatDoor
namespace Go.Proofs.YticaalcbgikjjaaGreatDoor
open Go.Am
theorem fidx_some {α:Type} (P:α→Bool):∀ (l:List α) (i:Nat),0≤fidx P l i→∃ k,fidx P l i=((i+k:Nat):Int)∧∃ (hk:k<l.length),P l[k]=true
 | [],i,h=>by simp [fidx] at h
 | x::r,i,h=>by
   simp only[fidx] at h ⊢
   by_cases hp:P x=true
   ·exact⟨0,by simp [hp],by simp,by simpa using hp⟩
   ·simp only[hp,if_false] at h ⊢
    obtain⟨k,h1,h2,h3⟩:=fidx_some P r (i+1) (by simpa using h)
    exact⟨k+1,by simp only[Bool.false_eq_true,if_false,h1]; congr 1; omega,by simp only[List.length_cons]; omega,by simpa using h3⟩
theorem fidx_neg {α:Type} (P:α→Bool) (l:List α) (i:Nat) (h:fidx P l i<0):∀ x∈l,P x=false:=by
 have:=(fidx_lo P l i).2.1 h
 rw[List.any_eq_false] at this
 intro x hx
 simpa using this x hx
theorem flat_cI (xs:List Int):xs.flatMap eI=xs.map (AV.int .i64):=by
 induction xs with
 | nil=>rfl
 | cons x r ih=>rw[List.flatMap_cons,ih]; rfl
theorem set_cI {xs:List Int}{i:Nat}{z:Int}:(xs.flatMap eI).set i (.int .i64 z)=(xs.set i z).flatMap eI:=by
 rw[flat_cI,flat_cI,List.map_set]
theorem at_cI {xs:List Int}{i:Nat} (hi:i<xs.length):(xs.flatMap eI)[i]?=some (.int .i64 (xs.getD i 0)):=by
 rw[flat_cI,List.getElem?_map,List.getElem?_eq_getElem hi,List.getD_eq_getElem?_getD,List.getElem?_eq_getElem hi]
 rfl
theorem len_cI (xs:List Int):(xs.flatMap eI).length=xs.length:=by rw[flat_cI,List.length_map]
theorem dec1_set {xs:List Int}{b:Nat}:dec1 xs ((b:Nat):Int)=xs.set b (xs.getD b 0-1):=rfl
theorem grun_ok {h:AH}{vp:AV}{n:Nat}{es:List (Int×Int)} (hv:IsView h vp n es) :
 C prg 76 [vp] h fun r h'=>∃ a w out ws,r=.tup [a,w]∧IsSl h' 1 h.next w (ws.flatMap eI)∧Kahn n es out ws∧(∀ v:Nat,v<n→ws.getD v 0≠0)∧Ext h.next h h'∧lenLA a=some (.int .i64 (out.length:Nat)):=by
 obtain⟨b,ev,os,is,ob,ib,rfl,g1,g2,g3,g4,g5,g6,g7,g8,m1,m2,m3,m4⟩:=hv
 refine C.func pf76 ?_
 have r1:rdCells h b 3 1=some [.sl ib 0 n n]:=rd_at g1 rfl
 refine W.seq (W.run (by simp only[am,evOp,simprocAttr,initTm]<;>rfl) ?_)
 refine W.seq (W.seq (W.run (by simp only[am,evOp,simprocAttr,initTm,r1]<;>rfl) ?_))
 refine W.rng (α:=AV) (N:=n) (fun k a=>[(0,.ptr b 0),(12,.sl ib 0 n n),(3,a),(2,.nils)])
  (fun k a h'=>IsSl h' 1 h.next a (((List.range k).map fun x=>(((insM es ((x:Nat):Int)).length:Nat):Int)).flatMap eI)∧Ext h.next h h') .nils (fun _ _=>rfl) (by omega) (by simp only[hl,am,evOp,simprocAttr,initTm]) ⟨.inl ⟨rfl,rfl⟩,Ext.refl⟩ ?_ ?_
 ·rintro k a ts h1 hk ⟨j1,j2⟩ ⟨ei,en,e0,e12,e3,e2,-⟩
  simp only at ei en e0 e12 e3 e2
  have ik:idx? ((k:Nat):Int) n=some k:=idx_nat hk
  have rk:=rd_at (show h1.get ib=some (.cells is 1 false) by rw[j2.gt _ (AH.lt_of_get g4)]; exact g4) (List.getElem?_eq_getElem (show k<is.length by omega))
  have lk:=(g8 k _ (List.getElem?_eq_getElem (show k<is.length by omega))).len
  rw[List.length_map] at lk
  have hlen:(((List.range k).map fun x=>(((insM es ((x:Nat):Int)).length:Nat):Int)).flatMap eI).length=k:=by rw[len_cI]; simp
  obtain⟨s',h2,a1,i1,x1,n1⟩:=j1.push (bytes:=8) (eI ((insM es ((k:Nat):Int)).length:Nat)) j2.nx (by omega) rfl rfl (by rw[hlen]; unfold tooMany; omega) (by rw[hlen]; unfold tooMany; omega)
  rw[show eI (((insM es ((k:Nat):Int)).length:Nat):Int)=[.int .i64 (((insM es ((k:Nat):Int)).length:Nat):Int)] from rfl] at a1 i1
  refine W.seq (W.run (by simp only[am,evOp,simprocAttr,e12,ei,ik,Nat.mul_one,rk]<;>rfl) ?_)
  refine W.run (by simp only[am,evOp,simprocAttr,e3,lk,a1]<;>rfl) ?_
  refine⟨s',⟨?_,j2.trans x1⟩,by simp only[hl,am,evOp,simprocAttr,ei,en,e0,e12,e2]⟩
  rw[List.range_succ,List.map_append,List.flatMap_append]
  exact i1
 ·rintro w0 ts h1 ⟨j1,j2⟩ ⟨e0,e12,e3,e2,-⟩
  simp only at e0 e12 e3 e2
  rcases j1 with ⟨_,hz⟩|⟨wb,nn,hwb,rfl,gw,hwl⟩
  ·exfalso
   have:=congrArg List.length hz
   rw[len_cI] at this
   simp at this
   omega
  have hnn:nn=n:=by rw[len_cI] at hwl; simp at hwl; omega
  subst hnn
  refine W.block (W.loop (fun m ts h'=>∃ (a:AV) (out ws:List Int),m=nn-out.length∧Kahn nn es out ws∧IsSl h' 1 (wb+1) a (out.flatMap eI)∧h'.get wb=some (.cells (ws.flatMap eI) 1 false)∧Ext h.next h h'∧wb<h'.next∧Held [(0,.ptr b 0),(3,.sl wb 0 nn nn),(2,a)] ts) ?_ (n:=nn)
   ⟨.nils,[],_,rfl,Kahn.start,.inl ⟨rfl,rfl⟩,gw,j2,AH.lt_of_get gw,by simp only[hl,am,evOp,simprocAttr,e0,e3,e2]⟩)
  clear e0 e12 e3 e2 gw j2
  rintro m ts h2 ⟨a,out,ws,rfl,k,ia,gw,x2,hwn,e0,e3,e2,-⟩
  simp only at e0 e3 e2
  have hlo:out.length≤nn:=by
   have h1:out ⊆ (List.range nn).map fun x=>((x:Nat):Int):=fun v hv=>by
    have:=k.rng v hv
    exact List.mem_map.2 ⟨v.toNat,List.mem_range.2 (by omega),by omega⟩
   have:=k.nd.length_le_of_subset h1
   simpa using this
  have hsl:SlI h2 (.sl wb 0 nn nn) ws:=IsSl.sl (lo:=0) (by omega) (fun _=>rfl) (.inr ⟨wb,nn,by omega,rfl,gw,by rw[len_cI,k.len,Nat.mul_one]⟩)
  refine W.block (W.seq (W.reg (G.gcall 1 (by simp only[am,evOp,simprocAttr,e3]<;>rfl) rfl (by simp only[am,evOp,simprocAttr,e3]) (by simp only[am,evOp,simprocAttr,e3]<;>rfl) (idxI_ok (y:=0) hsl (by rw[k.len]; omega)) fun r h3 hq=>?_)))
  obtain⟨rfl,x3⟩:=hq
  refine G.run (by simp only[am,evOp,simprocAttr]<;>rfl) ?_
  refine W.seq (W.seq (W.run (by simp only[am,evOp,simprocAttr]<;>rfl) ?_))
  refine W.cond (t:=decide (fidx (0==·) ws 0<0)) (by simp only[am,evOp,simprocAttr]) (fun q=>?_) fun q=>?_
  ·have q:fidx (0==·) ws 0<0:=of_decide_eq_true q
   have hz:=fidx_neg _ _ _ q
   refine W.seq (W.run (by simp only[am,evOp,simprocAttr,e2,e3]<;>rfl) ?_)
   refine W.ret ⟨.tup [a,.sl wb 0 nn nn],(by simp only[rs,rf76,am,evOp,simprocAttr]<;>rfl),a,_,out,ws,rfl,.inr ⟨wb,nn,hwb,rfl,by rw[x3.gt _ hwn]; exact gw,by rw[len_cI,k.len,Nat.mul_one]⟩,k,fun v hv h0=>?_,x2.trans (x3.mono x2.nx),by rw[(IsSl.sl (f:=eI) (e:=1) (by omega) (fun _=>rfl) ia).len,List.length_map]⟩
   have:=hz (ws[v]'(by rw[k.len]; exact hv)) (List.getElem_mem _)
   rw[List.getD_eq_getElem?_getD,List.getElem?_eq_getElem (by rw[k.len]; exact hv),Option.getD_some] at h0
   rw[h0] at this
   simp at this
  ·have q:¬ fidx (0==·) ws 0<0:=of_decide_eq_false q
   obtain⟨x,hx1,hx2,hx3⟩:=fidx_some (0==·) ws 0 (by omega)
   rw[Nat.zero_add] at hx1
   rw[hx1]
   have hx0:ws.getD x 0=0:=by
    rw[List.getD_eq_getElem?_getD,List.getElem?_eq_getElem hx2,Option.getD_some]
    simp at hx3
    exact hx3.symm
   have hxn:x<nn:=by rw[← k.len]; exact hx2
   refine W.skip ?_
   have k':=k.step m4 m3 hxn hx0
   have gw3:h3.get wb=some (.cells (ws.flatMap eI) 1 false):=by rw[x3.gt _ hwn]; exact gw
   obtain⟨s',h4,a1,i4,x4,n4⟩:=(ia.ext x3 (Nat.le_refl _)).push (bytes:=8) (eI ((x:Nat):Int)) (by have:=x3.nx; omega) (by omega) rfl rfl (by rw[len_cI]; unfold tooMany; omega) (by rw[len_cI]; unfold tooMany; omega)
   rw[show eI ((x:Nat):Int)=[.int .i64 ((x:Nat):Int)] from rfl] at a1 i4
   refine W.seq (W.run (by simp only[am,evOp,simprocAttr,e2,a1]<;>rfl) ?_)
   have gw4:h4.get wb=some (.cells (ws.flatMap eI) 1 false):=by rw[x4.gt _ (by omega)]; exact gw3
   have ix:idx? ((x:Nat):Int) nn=some x:=idx_nat hxn
   have w5:=wr_at (v:=.int .i64 (-1)) gw4 (show x<(ws.flatMap eI).length by rw[len_cI]; exact hx2)
   rw[set_cI] at w5
   have u5:=Upd.put (o:=.cells ((ws.set x (-1)).flatMap eI) 1 false) gw4
   refine W.seq (W.run (by simp only[am,evOp,simprocAttr,e3,ix,Nat.mul_one,w5]<;>rfl) ?_)
   generalize h4.put wb (.cells ((ws.set x (-1)).flatMap eI) 1 false)=h5 at *
   have n3:=x3.nx
   have n5:=u5.nx
   have X5:Ext h.next h h5:=x2.trans ((x3.mono x2.nx).trans ((x4.mono (by omega)).trans (u5.ext (by omega))))
   have rr2:rdCells h5 b 2 1=some [.sl ob 0 nn nn]:=rd_at (by rw[X5.gt _ (AH.lt_of_get g1)]; exact g1) rfl
   have hol:x<os.length:=by omega
   have rr3:rdCells h5 ob x 1=some [os[x]]:=rd_at (by rw[X5.gt _ (AH.lt_of_get g3)]; exact g3) (List.getElem?_eq_getElem hol)
   have so:=g7 x _ (List.getElem?_eq_getElem hol)
   have lo':=so.len
   rw[List.length_map] at lo'
   refine W.seq (W.run (by simp only[am,evOp,simprocAttr,e0,rr2,ix,Nat.mul_one,rr3,lo']<;>rfl) ?_)
   have hll:(outsM es ((x:Nat):Int)).length≤128:=Nat.le_trans (endsAt_len _ _ _) m3
   have hhl:(hsM es ((x:Nat):Int)).length=(outsM es ((x:Nat):Int)).length:=by rw[← outs_heads,List.length_map]
   refine W.rng (α:=Unit) (N:=(outsM es ((x:Nat):Int)).length) (fun _ _=>[(43,os[x]),(3,.sl wb 0 nn nn),(0,.ptr b 0),(2,s')])
    (fun k _ h'=>h'.get wb=some (.cells ((decL ((hsM es ((x:Nat):Int)).take k) (ws.set x (-1))).flatMap eI) 1 false)∧IsSl h' 1 (wb+1) s' ((out++[((x:Nat):Int)]).flatMap eI)∧Ext h.next h h'∧wb<h'.next) () (fun _ _=>rfl) (by omega) (by simp only[hl,am,evOp,simprocAttr,e0,e3])
    ⟨u5.get,by rw[List.flatMap_append]; exact i4.upd u5 (by omega),X5,by omega⟩ ?_ ?_
   ·clear rr2 rr3 e0 e3 e2
    rintro j _ ts h6 hj ⟨j1,j2,j3,j4⟩ ⟨ei,en,e43,e3,e0,e2,-⟩
    simp only at ei en e43 e3 e0 e2
    obtain⟨jb,jp,a6,r6,_⟩:=(so.ext j3 (Nat.le_refl _)).at1 (map_at (f:=eI) hj)
    obtain⟨ed,hed1,hed2,ed',hed3,hed4⟩:=endsAt_range (fun e=>decide (e.1=((x:Nat):Int))) es 0 _ (List.getElem_mem hj)
    rw[Nat.zero_add] at hed1
    have hed1:(outsM es ((x:Nat):Int))[j]=((ed:Nat):Int):=hed1
    rw[hed1] at r6
    obtain⟨ea,eb,eab,hea,heb⟩:=okE_nat (List.all_eq_true.1 m4 _ (List.getElem_mem hed2))
    have hhj:(hsM es ((x:Nat):Int))[j]'(by omega)=((eb:Nat):Int):=by
     have:(hsM es ((x:Nat):Int))[j]?=some ((eb:Nat):Int):=by
      rw[← outs_heads,List.getElem?_map,List.getElem?_eq_getElem hj,hed1,Option.map_some,Int.toNat_natCast,List.getElem?_eq_getElem hed2,Option.getD_some,eab]
     exact (List.getElem?_eq_some_iff.1 this).2
    obtain⟨eb1,ep,a7,_,r7,_⟩:=(g2.ext j3 (Nat.le_refl _)).at (map_at (f:=eE) hed2)
    have r7:=r7 1 (.int .i64 ((eb:Nat):Int)) (by rw[eab]; rfl)
    have rv:rdCells h6 b 1 1=some [ev]:=rd_at (by rw[j3.gt _ (AH.lt_of_get g1)]; exact g1) rfl
    have ie:idx? ((eb:Nat):Int) nn=some eb:=idx_nat heb
    have hdl:(decL ((hsM es ((x:Nat):Int)).take j) (ws.set x (-1))).length=nn:=by rw[decL_len,List.length_set,k.len]
    have rw6:=rd_at j1 (at_cI (show eb<(decL ((hsM es ((x:Nat):Int)).take j) (ws.set x (-1))).length by omega))
    have hbd:-20000≤(decL ((hsM es ((x:Nat):Int)).take j) (ws.set x (-1))).getD eb 0∧(decL ((hsM es ((x:Nat):Int)).take j) (ws.set x (-1))).getD eb 0≤200:=by
     rw[decL_get _ _ _ (fun c hc=>by have:=hs_mem m4 (List.mem_of_mem_take hc); rw[List.length_set,k.len]; omega),getD_set (by rw[k.len]; exact hxn)]
     have c1:((hsM es ((x:Nat):Int)).take j).count ((eb:Nat):Int)≤128:=Nat.le_trans List.count_le_length (by rw[List.length_take]; omega)
     have c2:=k.lo eb heb
     have c3:ws.getD eb 0≤128:=by
      by_cases hm:((eb:Nat):Int)∈out
      ·have:=k.neg eb heb hm; omega
      ·rw[k.cnt eb heb hm]
       have:cntE es out ((eb:Nat):Int)≤es.length:=List.countP_le_length
       omega
     split
     ·omega
     ·omega
    have w1:IntKind.i64.wrap ((decL ((hsM es ((x:Nat):Int)).take j) (ws.set x (-1))).getD eb 0-1)=(decL ((hsM es ((x:Nat):Int)).take j) (ws.set x (-1))).getD eb 0-1:=wr64 (by omega) (by omega)
    have w7:=wr_at (v:=.int .i64 ((decL ((hsM es ((x:Nat):Int)).take j) (ws.set x (-1))).getD eb 0-1)) j1 (show eb<_ by rw[len_cI]; omega)
    rw[set_cI,← dec1_set] at w7
    have ed1:dec1 (decL ((hsM es ((x:Nat):Int)).take j) (ws.set x (-1))) ((eb:Nat):Int)=decL ((hsM es ((x:Nat):Int)).take (j+1)) (ws.set x (-1)):=by
     rw[List.take_succ_eq_append_getElem (by omega),hhj]
     unfold decL
     rw[List.foldl_append]
     rfl
    rw[ed1] at w7
    have u7:=Upd.put (o:=.cells ((decL ((hsM es ((x:Nat):Int)).take (j+1)) (ws.set x (-1))).flatMap eI) 1 false) j1
    refine W.seq (W.run (by simp only[am,evOp,simprocAttr,e43,ei,a6,r6]<;>rfl) ?_)
    refine W.run (by simp only[am,evOp,simprocAttr,e3,e0,rv,a7,r7,ie,Nat.mul_one,rw6,w1,w7]<;>rfl) ?_
    exact⟨(),⟨u7.get,j2.upd u7 (by omega),j3.trans (u7.ext (by omega)),by rw[u7.nx]; exact j4⟩,by simp only[hl,am,evOp,simprocAttr,ei,en,e43,e3,e0,e2]⟩
   ·clear rr2 rr3 e0 e3 e2
    rintro _ ts h6 ⟨j1,j2,j3,j4⟩ ⟨e43,e3,e0,e2,-⟩
    simp only at e43 e3 e0 e2
    rw[← hhl,List.take_length] at j1
    exact⟨nn-(out++[((x:Nat):Int)]).length,by
     have h1:(out++[((x:Nat):Int)]) ⊆ (List.range nn).map fun x=>((x:Nat):Int):=fun v hv=>by
      have:=k'.rng v hv
      exact List.mem_map.2 ⟨v.toNat,List.mem_range.2 (by omega),by omega⟩
     have:=k'.nd.length_le_of_subset h1
     simp only[List.length_append,List.length_cons,List.length_nil,List.length_map,List.length_range] at this ⊢
     omega,s',_,_,rfl,k',j2,j1,j3,j4,by simp only[hl,am,evOp,simprocAttr,e0,e3,e2]⟩
theorem bare_ok {h:AH}{ib n:Nat}{ls:List AV}{f:Nat→List Int} (ho:h.get ib=some (.cells ls 1 false)) (hl:ls.length=n) (hn:n≤64) (hr:∀ (y:Nat) (v:AV),ls[y]?=some v→SlI h v (f y)) :
 C prg 56 [.sl ib 0 n n] h fun r h'=>IsSl h' 1 h.next r ((((List.range n).filter fun x=>(f x).length==0).map fun x=>((x:Nat):Int)).flatMap eI)∧Ext h.next h h':=by
 refine C.func pf56 ?_
 refine W.seq (W.run (by simp only[am,evOp,simprocAttr,initTm]<;>rfl) ?_)
 refine W.seq (W.seq (W.run (by simp only[am,evOp,simprocAttr,initTm]<;>rfl) ?_))
 refine W.rng (α:=AV) (N:=n) (fun k a=>[(5,.sl ib 0 n n),(2,a)]) (fun k a h'=>IsSl h' 1 h.next a ((((List.range k).filter fun x=>(f x).length==0).map fun x=>((x:Nat):Int)).flatMap eI)∧Ext h.next h h') .nils (fun _ _=>rfl) (by omega) (by simp only[held_cons,held_nil,am,evOp,↓reduceIte,Nat.reduceEqDiff,Int.reduceEq,Nat.reduceAdd,Nat.reduceLeDiff,reduceCtorEq,initTm]) ⟨.inl ⟨rfl,rfl⟩,Ext.refl⟩ ?_ ?_
 ·rintro k a ts h1 hk ⟨j1,j2⟩ ⟨ei,en,e5,e2,-⟩
  simp only at ei en e5 e2
  have ik:idx? ((k:Nat):Int) n=some k:=idx_nat hk
  have rk:=rd_at (show h1.get ib=some (.cells ls 1 false) by rw[j2.gt _ (AH.lt_of_get ho)]; exact ho) (List.getElem?_eq_getElem (show k<ls.length by omega))
  have lk:=(hr k _ (List.getElem?_eq_getElem (show k<ls.length by omega))).len
  rw[List.length_map] at lk
  have hlen:((((List.range k).filter fun x=>(f x).length==0).map fun x=>((x:Nat):Int)).flatMap eI).length≤k:=by
   rw[len_cI,List.length_map]
   exact Nat.le_trans (List.length_filter_le _ _) (by simp)
  refine W.seq (W.run (by simp only[am,evOp,simprocAttr,e5,ei,ik,Nat.mul_one,rk]<;>rfl) ?_)
  refine W.seq (W.run (by simp only[am,evOp,simprocAttr,lk]<;>rfl) ?_)
  refine W.cond (t:=decide ((f k).length=0)) (by simp only[am,evOp,simprocAttr]; exact congrArg AV.bool (by simp only[decide_eq_decide]; omega)) (fun q=>?_) fun q=>?_
  ·have q:(f k).length=0:=of_decide_eq_true q
   obtain⟨s',h2,a1,i1,x1,n1⟩:=j1.push (bytes:=8) (eI ((k:Nat):Int)) j2.nx (by omega) rfl rfl (by unfold tooMany; omega) (by unfold tooMany; omega)
   rw[show eI ((k:Nat):Int)=[.int .i64 ((k:Nat):Int)] from rfl] at a1 i1
   refine W.run (by simp only[am,evOp,simprocAttr,e2,a1]<;>rfl) ?_
   refine⟨s',⟨?_,j2.trans x1⟩,by simp only[held_cons,held_nil,am,evOp,↓reduceIte,Nat.reduceEqDiff,Int.reduceEq,Nat.reduceAdd,Nat.reduceLeDiff,reduceCtorEq,ei,en,e5]⟩
   rw[List.range_succ,List.filter_append,List.filter_cons,if_pos (by simp [q]),List.filter_nil,List.map_append,List.flatMap_append]
   exact i1
  ·have q:¬ (f k).length=0:=of_decide_eq_false q
   refine W.skip ⟨a,⟨?_,j2⟩,by simp only[held_cons,held_nil,am,evOp,↓reduceIte,Nat.reduceEqDiff,Int.reduceEq,Nat.reduceAdd,Nat.reduceLeDiff,reduceCtorEq,ei,en,e5,e2]⟩
   rw[List.range_succ,List.filter_append,List.filter_cons,if_neg (by simpa using q),List.filter_nil,List.append_nil]
   exact j1
 ·rintro a ts h1 ⟨j1,j2⟩ ⟨e5,e2,-⟩
  simp only at e5 e2
  refine W.seq (W.run (by simp only[am,evOp,simprocAttr,e2]<;>rfl) ?_)
  exact W.ret ⟨a,(by simp only[rs,rf56,am,evOp,simprocAttr]<;>rfl),j1,j2⟩
def srcM (n:Nat) (es:List (Int×Int)):List Int:=((List.range n).filter fun x=>(insM es ((x:Nat):Int)).length==0).map fun x=>((x:Nat):Int)
theorem sources_ok {h:AH}{vp:AV}{n:Nat}{es:List (Int×Int)} (hv:IsView h vp n es):C prg 25 [vp] h fun r h'=>IsSl h' 1 h.next r ((srcM n es).flatMap eI)∧Ext h.next h h':=by
 obtain⟨b,ev,os,is,ob,ib,rfl,g1,g2,g3,g4,g5,g6,g7,g8,m1,m2,m3,m4⟩:=hv
 refine C.func pf25 ?_
 have r1:rdCells h b 3 1=some [.sl ib 0 n n]:=rd_at g1 rfl
 refine W.seq (W.run (by simp only[am,evOp,simprocAttr,initTm]<;>rfl) ?_)
 refine W.seq (W.reg (G.gcall 4 (by simp only[am,evOp,simprocAttr,initTm,r1]<;>rfl) rfl (by simp only[am,evOp,simprocAttr,initTm,r1]) (by simp only[am,evOp,simprocAttr,initTm,r1]<;>rfl) (bare_ok (f:=fun y=>insM es ((y:Nat):Int)) g4 g6 m2 (fun y v q=>g8 y v q)) fun r h2 hq=>?_))
 refine G.run (by simp only[am,evOp,simprocAttr]<;>rfl) ?_
 exact W.ret ⟨r,(by simp only[rs,rf25,am,evOp,simprocAttr]<;>rfl),hq⟩
end Go.Proofs.YticaalcbgikjjaaGreatDoor
