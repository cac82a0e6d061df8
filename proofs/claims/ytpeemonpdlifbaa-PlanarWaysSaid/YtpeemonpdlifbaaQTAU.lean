/-
  planar: a way through a part.
-/
import Derived.Test.YtpeemonpdlifbaaQTAT
import Derived.Test.YtpeemonpdlifbaaQTAC
set_option linter.all false
namespace Go.Proofs.Ytpeemonpdlifbaa
open Go.Am
open Go.Pla (at_ jn On Part Plc Hg Pln Bond Link tr full ks Hit Ch Thr)
theorem pbthr1_ok {h:AH}{bb n A:Nat}{ev edv:AV}{E:List (Int×Int)}{Bl:List Nat}{la pa:Nat}{H V:Nat→Bool}{fav:AV} (u:Bu h bb n ev edv E Bl la pa H V fav) (hg:h.get A=some (.cells [.ptr bb 0] 1 false)) {y:Nat} (hy:y<n):C prg 78 [.int .i64 (y:Nat),.ptr A 0] h fun v h'=>v=.bool (!(V y))∧Ext h.next h h':=by
 refine C.func pf78 ?_
 have r1:rdCells h A 0 1=some [.ptr bb 0]:=rd_at hg rfl
 have r4:rdCells h bb 4 1=some [.sl pa 0 n n]:=rd_at u.o rfl
 have iy:idx? ((y:Nat):Int) n=some y:=idx_nat hy
 have rv:rdCells h pa y 1=some [.bool (V y)]:=rd_at u.v (bl_at hy)
 refine W.seq (W.run (by simp only[am,evOp,simprocAttr,initTm]<;>rfl) ?_)
 refine W.seq (W.runs (fun ts h'=>h'=h∧tget ts 3=.bool (!(V y))) (by simp only[am,evOp,simprocAttr,initTm,r1,r4,iy,Nat.mul_one,rv]) ?_)
 rintro ts h' ⟨rfl,e3⟩
 exact W.ret ⟨.bool (!(V y)),(by simp only[rs,rf78,am,evOp,simprocAttr,e3]<;>rfl),rfl,Ext.refl⟩
theorem pbthr2_ok {h:AH}{bb n A:Nat}{ev edv:AV}{E:List (Int×Int)}{Bl:List Nat}{la pa:Nat}{H V:Nat→Bool}{fav:AV} (u:Bu h bb n ev edv E Bl la pa H V fav) (hg:h.get A=some (.cells [.ptr bb 0] 1 false)) {y:Nat} (hy:y<n):C prg 79 [.int .i64 (y:Nat),.ptr A 0] h fun v h'=>v=.bool (V y)∧Ext h.next h h':=by
 refine C.func pf79 ?_
 have r1:rdCells h A 0 1=some [.ptr bb 0]:=rd_at hg rfl
 have r4:rdCells h bb 4 1=some [.sl pa 0 n n]:=rd_at u.o rfl
 have iy:idx? ((y:Nat):Int) n=some y:=idx_nat hy
 have rv:rdCells h pa y 1=some [.bool (V y)]:=rd_at u.v (bl_at hy)
 refine W.seq (W.run (by simp only[am,evOp,simprocAttr,initTm]<;>rfl) ?_)
 refine W.seq (W.runs (fun ts h'=>h'=h∧tget ts 3=.bool (V y)) (by simp only[am,evOp,simprocAttr,initTm,r1,r4,iy,Nat.mul_one,rv]) ?_)
 rintro ts h' ⟨rfl,e3⟩
 exact W.ret ⟨.bool (V y),(by simp only[rs,rf79,am,evOp,simprocAttr,e3]<;>rfl),rfl,Ext.refl⟩
theorem pbthr3_ok {h:AH}{bb n A B y1:Nat}{ev edv:AV}{E:List (Int×Int)}{Bl:List Nat}{la pa:Nat}{H V:Nat→Bool}{fav:AV} (u:Bu h bb n ev edv E Bl la pa H V fav) (hg:h.get A=some (.cells [.ptr bb 0] 1 false)) (hb:h.get B=some (.cells [.int .i64 (y1:Nat)] 1 false)) {y:Nat} (hy:y<n):C prg 80 [.int .i64 (y:Nat),.ptr A 0,.ptr B 0] h fun v h'=>v=.bool (V y&&!(decide (y=y1)))∧Ext h.next h h':=by
 refine C.func pf80 ?_
 have r1:rdCells h A 0 1=some [.ptr bb 0]:=rd_at hg rfl
 have r2:rdCells h B 0 1=some [.int .i64 (y1:Nat)]:=rd_at hb rfl
 have r4:rdCells h bb 4 1=some [.sl pa 0 n n]:=rd_at u.o rfl
 have iy:idx? ((y:Nat):Int) n=some y:=idx_nat hy
 have rv:rdCells h pa y 1=some [.bool (V y)]:=rd_at u.v (bl_at hy)
 have d1:decide (((y:Nat):Int)=((y1:Nat):Int))=decide (y=y1):=by rw[decide_eq_decide]; omega
 refine W.seq (W.run (by simp only[am,evOp,simprocAttr,initTm]<;>rfl) ?_)
 cases hv:V y with
 | false =>
   rw[hv] at rv
   refine W.seq (W.runs (fun ts h'=>h'=h∧tget ts 4=.bool false) (by simp only[am,evOp,simprocAttr,initTm,r1,r4,iy,Nat.mul_one,rv]) ?_)
   rintro ts h' ⟨rfl,e4⟩
   exact W.ret ⟨.bool false,(by simp only[rs,rf80,am,evOp,simprocAttr,e4]<;>rfl),rfl,Ext.refl⟩
 | true =>
   rw[hv] at rv
   refine W.seq (W.runs (fun ts h'=>h'=h∧tget ts 4=.bool (!(decide (y=y1)))) (by simp only[am,evOp,simprocAttr,initTm,r1,r2,r4,iy,Nat.mul_one,rv,d1]) ?_)
   rintro ts h' ⟨rfl,e4⟩
   exact W.ret ⟨.bool (!(decide (y=y1))),(by simp only[rs,rf80,am,evOp,simprocAttr,e4]<;>rfl),by simp,Ext.refl⟩
set_option maxHeartbeats 4000000 in
theorem pbthr_ok {h:AH}{bb n lo:Nat}{ev edv atv:AV}{E:List (Int×Int)}{Bl:List Nat}{la pa:Nat}{H V:Nat→Bool}{fav:AV} (u:Bu h bb n ev edv E Bl la pa H V fav) (hE:InG n E) (hL:∀ i,i<E.length→tlE E i≠hdE E i) (hn:n<2 ^ 30) (hm:E.length<2 ^ 30) (hB:∀ i∈Bl,i<E.length) (hBn:Bl.length<2 ^ 30)
 (hp:Pln (grE n E hE hL) Bl) (hb:Bond (grE n E hE hL) Bl) (hl:Link (grE n E hE hL) Bl) (hV:Plc (grE n E hE hL) Bl H V) {pt:Nat→Nat} (P:Part (grE n E hE hL) Bl H pt) (hex:∃ j∈Bl,H j=true) {p:Pc}{e0:Nat} (hof:Of (grE n E hE hL) Bl H V pt p e0) (hat:IsSl h 1 lo atv (nC p.1)) (hlo:la<lo∧pa<lo) :
 C prg 60 [.ptr bb 0,.agg [atv,.int .i64 p.2.1,.int .i64 p.2.2]] h fun v h'=>Ext h.next h h'∧∃ y1 y2 i,SlN h' v (y1::i++[y2])∧Off (fun c=>c<lo∧c<h.next) v∧Thr (grE n E hE hL) Bl H V pt e0 y1 y2 i:=by
 have hBg:∀ i∈Bl,i<(grE n E hE hL).m:=hB
 refine C.func pf60 ?_
 have x1:Ext h.next h (h.new (.cells [.ptr bb 0] 1 false)):=Ext.new (Nat.le_refl _)
 have g1:(h.new (.cells [.ptr bb 0] 1 false)).get h.next=some (.cells [.ptr bb 0] 1 false):=by rw[AH.get_new,if_pos rfl]
 have n1:(h.new (.cells [.ptr bb 0] 1 false)).next=h.next+1:=rfl
 obtain⟨h1,hh1⟩:∃ h1,h1=h.new (.cells [.ptr bb 0] 1 false):=⟨_,rfl⟩
 rw[← hh1] at x1 g1 n1
 have x2:Ext h1.next h1 (h1.new (.cells [atv,.int .i64 p.2.1,.int .i64 p.2.2] 3 false)):=Ext.new (Nat.le_refl _)
 have g2:(h1.new (.cells [atv,.int .i64 p.2.1,.int .i64 p.2.2] 3 false)).get h1.next=some (.cells [atv,.int .i64 p.2.1,.int .i64 p.2.2] 3 false):=by rw[AH.get_new,if_pos rfl]
 have n2:(h1.new (.cells [atv,.int .i64 p.2.1,.int .i64 p.2.2] 3 false)).next=h1.next+1:=rfl
 refine W.seq (W.runs (fun ts h'=>h'=h1.new (.cells [atv,.int .i64 p.2.1,.int .i64 p.2.2] 3 false)∧tget ts 2=.ptr h.next 0∧tget ts 3=.ptr (h.next+1) 0) (by simp only[am,evOp,simprocAttr,initTm,hat.cells.1,AV.cells,List.length_cons,List.length_nil,if_true,AH.next_new,hh1]) ?_)
 rintro ts h2 ⟨rfl,e2,e3⟩
 generalize h1.new (.cells [atv,.int .i64 p.2.1,.int .i64 p.2.2] 3 false)=h2 at *
 rw[n1] at g2 n2
 have x12:Ext h.next h h2:=x1.trans (x2.mono (by omega))
 have gA2:h2.get h.next=some (.cells [.ptr bb 0] 1 false):=by rw[x2.gt _ (by omega)]; exact g1
 have u2:=u.ext x12 (Nat.le_refl _)
 have hat2:=hat.ext x12 (Nat.le_refl _)
 have rsm:rdCells h2 (h.next+1) 1 1=some [.int .i64 p.2.1]:=rd_at g2 rfl
 have ra:rdCells h2 (h.next+1) 0 1=some [atv]:=rd_at g2 rfl
 rcases hof.kind with ⟨k1,k2,k3,k4⟩|⟨x0,k1,k2,k3,k4⟩
 ·have dz:decide (p.2.1<0)=true:=by rw[k1]; rfl
  refine W.seq (W.seq (W.run (by simp only[am,evOp,simprocAttr,e3,rsm,dz]<;>rfl) ?_))
  refine W.yes (by simp only[am,evOp,simprocAttr,dz]) ?_
  refine W.seq (W.runs (fun ts h'=>h'=h2∧tget ts 4=atv) (by simp only[am,evOp,simprocAttr,e3,ra]) ?_)
  rintro ts h2' ⟨rfl,e4⟩
  refine W.ret ⟨atv,(by simp only[rs,rf60,am,evOp,simprocAttr,e4]<;>rfl),x12,_,_,[],?_,IsSl.off hat fun c hc=>hc.1,Go.Pla.thr_edge hp hof.mem hof.new k2 k3⟩
  have:=nC_sl hat2
  rw[k4] at this
  exact this
 ·have dz:decide (p.2.1<0)=false:=by rw[k1,decide_eq_false_iff_not]; omega
  refine W.seq (W.seq (W.run (by simp only[am,evOp,simprocAttr,e3,rsm,dz]<;>rfl) ?_))
  refine W.no (by simp only[am,evOp,simprocAttr,dz]) (W.skip ?_)
  rw[k1] at rsm
  have k2:x0<n:=k2
  refine W.seq (W.run (by simp only[am,evOp,simprocAttr,e2]<;>rfl) ?_)
  obtain⟨F,hF⟩:∃ F,F=full (grE n E hE hL) Bl H (fun z=>!(V z)) (n+1) ([(x0,x0)],[x0]):=⟨_,rfl⟩
  have hdeep:Go.Pla.Deep (grE n E hE hL) Bl H V x0 F:=by rw[hF]; exact Go.Pla.deep_full hp hV k3 k2 (Nat.le_succ _)
  have rA:rdCells h2 h.next 0 1=some [.ptr bb 0]:=rd_at gA2 rfl
  have hw1:=pbway_ok u2 hE hL hn hm hB hBn k2 (ke:=79) (kt:=78) (ce:=[.ptr h.next 0]) (ct:=[.ptr h.next 0]) (fin:=V) (thr:=fun z=>!(V z)) (fun y hy h' x'=>pbthr2_ok (u2.ext x' (Nat.le_refl _)) (by rw[x'.gt _ (by omega)]; exact gA2) hy) (fun y hy h' x'=>pbthr1_ok (u2.ext x' (Nat.le_refl _)) (by rw[x'.gt _ (by omega)]; exact gA2) hy)
  rw[← hF] at hw1
  refine W.seq (W.reg (G.gcall 5 (by simp only[am,evOp,simprocAttr,e2,e3,rA,rsm]<;>rfl) rfl (by simp only[am,evOp,simprocAttr,e2,e3,rA,rsm]) (by simp only[am,evOp,simprocAttr,e2,e3,rA,rsm]<;>rfl) (hw1) fun fv h3 hq=>?_))
  obtain⟨x3,o1,hit1,res1⟩:=hq
  refine G.run (by simp only[am,evOp,simprocAttr]<;>rfl) ?_
  obtain⟨y1,ho1,hy1,hv1⟩:=Go.Pla.first_end hp hl hV hdeep k3 hof.mem k4 hex hit1
  subst ho1
  have res1:IsSl h3 1 h2.next fv (nC (tr F y1)):=res1
  have x3':Ext h.next h h3:=x12.trans (x3.mono x12.nx)
  obtain⟨t1,q1,q2,q3,q4,q5⟩:=Go.Pla.tr_ok F.length (Nat.le_refl _) hdeep.met y1 hy1
  obtain⟨s1,hs1⟩:=Go.Pla.lst_cat (r:=x0) (t:=t1)
  rw[q2] at hs1
  have hp1:tr F y1=s1++[y1]:=by rw[q1,hs1]
  have hFl:F.length≤n:=by
   have:=Go.Pla.nd_lt hdeep.met.nd (hdeep.met.lt hBg k2)
   rw[ks,List.length_map] at this; exact this
  have L1:(tr F y1).length≤n:=Nat.le_trans (Go.Pla.tr_len F y1) hFl
  have lf:=(nC_sl res1).len
  rw[List.length_map,List.length_map] at lf
  have hp1l:(tr F y1).length=s1.length+1:=by rw[hp1]; simp
  have ws1:IntKind.i64.wrap (((tr F y1).length:Nat)-(1:Int))=((s1.length:Nat):Int):=by
   have:(((tr F y1).length:Nat):Int)-1=((s1.length:Nat):Int):=by omega
   rw[this]; exact wr64 (by omega) (by omega)
  obtain⟨b6,o6,a6,r6,_⟩:=(nC_sl res1).at1 (i:=s1.length) (y:=.int .i64 (y1:Nat)) (by
   rw[List.getElem?_map,List.getElem?_map,hp1,List.getElem?_append_right (Nat.le_refl _),Nat.sub_self]; rfl)
  obtain⟨h4,w4,x4,g4,n4⟩:=mk_loc (h:=h3) (z:=[.int .i64 0]) (cs:=[.int .i64 (y1:Nat)]) (e:=1) rfl
  refine W.seq (W.runs (fun ts h'=>h'=h4∧tget ts 2=.ptr h.next 0∧tget ts 3=.ptr (h.next+1) 0∧tget ts 5=.fn 78 [.ptr h.next 0]∧tget ts 6=fv∧tget ts 7=.ptr h3.next 0) (by simp only[am,evOp,simprocAttr,e2,e3,lf,ws1,a6,r6,w4]) ?_)
  rintro ts h4' ⟨rfl,e2,e3,e5,e6,e7⟩
  have n3:=x3.nx
  have x4':Ext h.next h h4':=x3'.trans (x4.mono (by omega))
  have u4:=u.ext x4' (Nat.le_refl _)
  have gA4:h4'.get h.next=some (.cells [.ptr bb 0] 1 false):=by rw[x4.gt _ (by omega),x3.gt _ (by omega)]; exact gA2
  have gB4:h4'.get (h.next+1)=some (.cells [atv,.int .i64 p.2.1,.int .i64 p.2.2] 3 false):=by rw[x4.gt _ (by omega),x3.gt _ (by omega)]; exact g2
  have rA4:rdCells h4' h.next 0 1=some [.ptr bb 0]:=rd_at gA4 rfl
  have rs4:rdCells h4' (h.next+1) 1 1=some [.int .i64 p.2.1]:=rd_at gB4 rfl
  rw[k1] at rs4
  have hw2:=pbway_ok u4 hE hL hn hm hB hBn k2 (ke:=80) (kt:=78) (ce:=[.ptr h.next 0,.ptr h3.next 0]) (ct:=[.ptr h.next 0]) (fin:=fun y=>V y&&!(decide (y=y1))) (thr:=fun z=>!(V z)) (fun y hy h' x'=>pbthr3_ok (u4.ext x' (Nat.le_refl _)) (by rw[x'.gt _ (by omega)]; exact gA4) (by rw[x'.gt _ (by omega)]; exact g4) hy) (fun y hy h' x'=>pbthr1_ok (u4.ext x' (Nat.le_refl _)) (by rw[x'.gt _ (by omega)]; exact gA4) hy)
  rw[← hF] at hw2
  refine W.seq (W.reg (G.gcall 5 (by simp only[am,evOp,simprocAttr,e2,e3,e5,e7,rA4,rs4]<;>rfl) rfl (by simp only[am,evOp,simprocAttr,e2,e3,e5,e7,rA4,rs4]) (by simp only[am,evOp,simprocAttr,e2,e3,e5,e7,rA4,rs4]<;>rfl) (hw2) fun sv h5 hq=>?_))
  obtain⟨x5,o2,hit2,res2⟩:=hq
  refine G.run (by simp only[am,evOp,simprocAttr]<;>rfl) ?_
  obtain⟨y2,ho2,hy2,hv2,hne⟩:=Go.Pla.second_end hp hb hV hdeep k3 hy1 hv1 hit2
  subst ho2
  have res2:IsSl h5 1 h4'.next sv (nC (tr F y2)):=res2
  have x5':Ext h.next h h5:=x4'.trans (x5.mono (by omega))
  obtain⟨t2,r1,r2,r3,r4,r5⟩:=Go.Pla.tr_ok F.length (Nat.le_refl _) hdeep.met y2 hy2
  have L2:(tr F y2).length≤n:=Nat.le_trans (Go.Pla.tr_len F y2) hFl
  have res1':=(res1.ext x4 (Nat.le_refl _)).ext x5 (Nat.le_refl _)
  have lf:=(nC_sl res1').len
  rw[List.length_map,List.length_map] at lf
  have ls:=(nC_sl res2).len
  rw[List.length_map,List.length_map] at ls
  refine W.seq (W.run (by simp only[am,evOp,simprocAttr]<;>rfl) ?_)
  obtain⟨P1,hP1⟩:∃ P1,P1=tr F y1:=⟨_,rfl⟩
  obtain⟨P2,hP2⟩:∃ P2,P2=tr F y2:=⟨_,rfl⟩
  rw[← hP1] at res1' lf L1 q1 hp1 hp1l
  rw[← hP2] at res2 ls L2 r1
  have at0:P1[0]?=some x0∧P2[0]?=some x0:=by rw[q1,r1]; exact⟨rfl,rfl⟩
  refine W.seq (W.cut (fun ts h'=>h'=h5∧tget ts 6=fv∧tget ts 8=sv∧∃ k,tget ts 9=.int .i64 (k:Nat)∧k≤P1.length∧k≤P2.length∧P1.take k=P2.take k∧(k<P1.length→k<P2.length→P1[k]?≠P2[k]?)) ?_ ?_)
  ·refine W.block (W.loop (fun m ts h'=>h'=h5∧tget ts 6=fv∧tget ts 8=sv∧∃ k,m=P1.length-k∧tget ts 9=.int .i64 (k:Nat)∧k≤P1.length∧k≤P2.length∧P1.take k=P2.take k) ?_ (n:=P1.length) ⟨rfl,by simp only[am,evOp,simprocAttr,e6],by simp only[am,evOp,simprocAttr],0,rfl,by simp only[am,evOp,simprocAttr,Int.natCast_zero],Nat.zero_le _,Nat.zero_le _,by simp⟩)
   rintro m ts h' ⟨rfl,e6,e8,k,rfl,e9,hk1,hk2,htk⟩
   by_cases c1:k<P1.length
   ·have d1:decide (((k:Nat):Int)<((P1.length:Nat):Int))=true:=by rw[decide_eq_true_eq]; omega
    by_cases c2:k<P2.length
    ·have d2:decide (((k:Nat):Int)<((P2.length:Nat):Int))=true:=by rw[decide_eq_true_eq]; omega
     obtain⟨b7,o7,a7,r7,_⟩:=(nC_sl res1').at1 (i:=k) (y:=.int .i64 (P1[k]:Nat)) (by rw[List.getElem?_map,List.getElem?_map,List.getElem?_eq_getElem c1]; rfl)
     obtain⟨b8,o8,a8,r8,_⟩:=(nC_sl res2).at1 (i:=k) (y:=.int .i64 (P2[k]:Nat)) (by rw[List.getElem?_map,List.getElem?_map,List.getElem?_eq_getElem c2]; rfl)
     by_cases c3:P1[k]=P2[k]
     ·have d3:decide (((P1[k]:Nat):Int)=((P2[k]:Nat):Int))=true:=by rw[decide_eq_true_eq,c3]
      refine W.seq (W.seq (W.run (by simp only[am,evOp,simprocAttr,e9,e6,e8,lf,ls,d1,d2,a7,r7,a8,r8,d3]<;>rfl) ?_))
      refine W.yes (by simp only[am,evOp,simprocAttr,d3]) (W.skip (W.block ?_))
      have wk:IntKind.i64.wrap (((k:Nat):Int)+1)=((k+1:Nat):Int):=wr64 (by omega) (by omega)
      refine W.runs (fun ts h''=>h''=h'∧tget ts 6=fv∧tget ts 8=sv∧tget ts 9=.int .i64 ((k+1:Nat):Int)) (by simp only[am,evOp,simprocAttr,e6,e8,e9,wk]) ?_
      rintro ts h'' ⟨rfl,e6,e8,e9⟩
      exact⟨_,by omega,rfl,e6,e8,k+1,rfl,e9,by omega,by omega,by rw[List.take_add_one,List.take_add_one,htk,List.getElem?_eq_getElem c1,List.getElem?_eq_getElem c2,c3]⟩
     ·have d3:decide (((P1[k]:Nat):Int)=((P2[k]:Nat):Int))=false:=by rw[decide_eq_false_iff_not]; omega
      refine W.seq (W.seq (W.run (by simp only[am,evOp,simprocAttr,e9,e6,e8,lf,ls,d1,d2,a7,r7,a8,r8,d3]<;>rfl) ?_))
      refine W.no (by simp only[am,evOp,simprocAttr,d3]) (W.exit ⟨fun _=>⟨rfl,by simp only[am,evOp,simprocAttr,e6],by simp only[am,evOp,simprocAttr,e8],k,by simp only[am,evOp,simprocAttr,e9],hk1,hk2,htk,fun h1 h2=>by
       rw[List.getElem?_eq_getElem h1,List.getElem?_eq_getElem h2]
       simpa using c3⟩,fun e=>absurd rfl e⟩)
    ·have d2:decide (((k:Nat):Int)<((P2.length:Nat):Int))=false:=by rw[decide_eq_false_iff_not]; omega
     refine W.seq (W.seq (W.run (by simp only[am,evOp,simprocAttr,e9,e6,e8,lf,ls,d1,d2]<;>rfl) ?_))
     exact W.no (by simp only[am,evOp,simprocAttr,d2]) (W.exit ⟨fun _=>⟨rfl,by simp only[am,evOp,simprocAttr,e6],by simp only[am,evOp,simprocAttr,e8],k,by simp only[am,evOp,simprocAttr,e9],hk1,hk2,htk,fun _ h2=>absurd h2 c2⟩,fun e=>absurd rfl e⟩)
   ·have d1:decide (((k:Nat):Int)<((P1.length:Nat):Int))=false:=by rw[decide_eq_false_iff_not]; omega
    refine W.seq (W.seq (W.run (by simp only[am,evOp,simprocAttr,e9,e6,e8,lf,ls,d1]<;>rfl) ?_))
    exact W.no (by simp only[am,evOp,simprocAttr,d1]) (W.exit ⟨fun _=>⟨rfl,by simp only[am,evOp,simprocAttr,e6],by simp only[am,evOp,simprocAttr,e8],k,by simp only[am,evOp,simprocAttr,e9],hk1,hk2,htk,fun h1 _=>absurd h1 c1⟩,fun e=>absurd rfl e⟩)
  ·clear e2 e3 e5 e6 e7
   rintro ts h5' ⟨rfl,e6,e8,k,e9,hk1,hk2,htk,hend⟩
   have hk0:0<k:=by
    refine Nat.pos_of_ne_zero fun h0=>?_
    subst h0
    have l1:0<P1.length:=by rw[q1]; simp
    have l2:0<P2.length:=by rw[r1]; simp
    exact hend l1 l2 (by rw[at0.1,at0.2])
   obtain⟨k',rfl⟩:∃ k',k=k'+1:=⟨k-1,by omega⟩
   have c1:k'<P1.length:=by omega
   have c2:k'<P2.length:=by omega
   have hv:P1[k']=P2[k']:=by
    have h1:(P1.take (k'+1))[k']?=(P2.take (k'+1))[k']?:=by rw[htk]
    rw[List.getElem?_take,List.getElem?_take,if_pos (by omega),if_pos (by omega),List.getElem?_eq_getElem c1,List.getElem?_eq_getElem c2] at h1
    injection h1
   have e1:P1=P1.take k'++P1[k']::P1.drop (k'+1):=by rw[← List.drop_eq_getElem_cons c1,List.take_append_drop]
   have e2:P2=P1.take k'++P1[k']::P2.drop (k'+1):=by
    have h1:P1.take k'=P2.take k':=by
     have:=congrArg (List.take k') htk
     rw[List.take_take,List.take_take,Nat.min_eq_left (by omega)] at this
     exact this
    rw[h1,hv,← List.drop_eq_getElem_cons c2,List.take_append_drop]
   obtain⟨c,hc⟩:∃ c,c=P1.take k':=⟨_,rfl⟩
   obtain⟨v,hv'⟩:∃ v,v=P1[k']:=⟨_,rfl⟩
   obtain⟨a,ha⟩:∃ a,a=P1.drop (k'+1):=⟨_,rfl⟩
   obtain⟨b,hb'⟩:∃ b,b=P2.drop (k'+1):=⟨_,rfl⟩
   rw[← hc,← hv',← ha] at e1
   rw[← hc,← hv',← hb'] at e2
   have hdiff:∀ z a' b',a=z::a'→b=z::b'→False:=fun z a' b' h1 h2=>by
    have l1:k'+1<P1.length:=by
     have:=congrArg List.length (ha▸h1:P1.drop (k'+1)=z::a')
     rw[List.length_drop,List.length_cons] at this; omega
    have l2:k'+1<P2.length:=by
     have:=congrArg List.length (hb'▸h2:P2.drop (k'+1)=z::b')
     rw[List.length_drop,List.length_cons] at this; omega
    refine hend l1 l2 ?_
    have h3:(P1.drop (k'+1))[0]?=some z:=by rw[← ha,h1]; rfl
    have h4:(P2.drop (k'+1))[0]?=some z:=by rw[← hb',h2]; rfl
    rw[List.getElem?_drop] at h3 h4
    rw[Nat.add_zero] at h3 h4
    rw[h3,h4]
   obtain⟨i,m1,m2,m3,m4,m5⟩:=Go.Pla.mid_way hp hV hdeep k3 hy1 hy2 hv1 hv2 hne (hP1▸e1) (hP2▸e2) hdiff
   have hThr:=Go.Pla.thr_mid (pt:=pt) (e0:=e0) hp hV P hdeep k3 hof.mem k4 hv1 hv2 m2 m3 m4 m5
   have hPl:P1.length=c.length+1+a.length:=by rw[e1,List.length_append,List.length_cons]; omega
   have hcl:c.length=k':=by rw[hc,List.length_take]; omega
   rcases res1' with ⟨_,hz⟩|⟨b1,nn,hb1,rfl,gb1,hl1⟩
   ·have:=congrArg List.length hz
    rw[nC_len,List.length_nil] at this
    omega
   rw[nC_len,Nat.mul_one] at hl1
   subst hl1
   have wk:IntKind.i64.wrap (((k'+1:Nat):Int)-1)=((k':Nat):Int):=by
    have:((k'+1:Nat):Int)-1=((k':Nat):Int):=by omega
    rw[this]; exact wr64 (by omega) (by omega)
   have st:=slV_from (L:=P1.length) (k:=k') (c:=P1.length) gb1 c1 (Nat.le_refl _) (Nat.le_of_lt c1)
   rw[Nat.mul_one] at st
   refine W.seq (W.runs (fun ts h'=>h'=h5'∧tget ts 6=.sl b1 k' (P1.length-k') (P1.length-k')∧tget ts 8=sv∧tget ts 9=.int .i64 ((k'+1:Nat):Int)) (by simp only[am,evOp,simprocAttr,slLA_eq,Option.map_none,e6,e8,e9,wk,st]) ?_)
   rintro ts h5'' ⟨rfl,e6,e8,e9⟩
   obtain⟨d,hd⟩:∃ d:Array Int,d=((v::a).map fun n=>((n:Nat):Int)).toArray:=⟨_,rfl⟩
   have hds:d.size=P1.length-k':=by rw[hd]; simp; omega
   have hdi:ints d=nC (v::a):=by rw[hd,nC,flat_cI]; rfl
   have hn1:nC P1=nC c++nC (v::a):=by rw[← nC_app,← e1]
   have hsp:splice (nC P1) k' (ints d)=nC P1:=by
    refine splice_self ?_ ?_
    ·rw[ints_len,nC_len,hds]; omega
    ·rw[hn1,List.drop_append,nC_len,hcl,Nat.sub_self,List.drop_zero,List.drop_eq_nil_of_le (by rw[nC_len]; omega),List.nil_append,hdi]
     exact List.take_of_length_le (Nat.le_refl _)
   have gb1':h5''.get b1=some (blkI (nC P1) k' d):=by rw[blkI,hsp]; exact gb1
   have hrev:=reverse_ok (c:=P1.length-k') gb1' (by rw[nC_len,hds]; omega) (by rw[hds]; omega)
   rw[hds] at hrev
   refine W.seq (W.reg (G.gcall 1 (by simp only[am,evOp,simprocAttr,e6]<;>rfl) rfl (by simp only[am,evOp,simprocAttr,e6]) (by simp only[am,evOp,simprocAttr,e6]<;>rfl) (hrev) fun v6 h6 hq=>?_))
   refine G.run (by simp only[am,evOp,simprocAttr]<;>rfl) ?_
   have hb1lt:b1<h4'.next:=by
    have:=res1.lt (b:=b1) (o:=0) (n:=P1.length) (c:=P1.length) rfl
    omega
   have s6:SlI h6 (.sl b1 k' (P1.length-k') (P1.length-k')) d.reverse.toList:=by
    have:=blk_sl (c:=P1.length-k') hq.get (by rw[nC_len]; simp; omega) (by simp; omega)
    rwa [show d.reverse.size=P1.length-k' by simp; omega] at this
   have res26:IsSl h6 1 h4'.next sv (nC P2):=res2.cong fun b m e hb=>hq.ne (by omega)
   obtain⟨sv',st2,ssv,_,_⟩:=(nC_sl res26).from (lo:=k'+1) (by rw[List.length_map,List.length_map]; exact hk2)
   have hdrop:((P2.map fun n=>((n:Nat):Int)).map eI).drop (k'+1)=(b.map fun n=>((n:Nat):Int)).map eI:=by rw[hb',← List.map_drop,← List.map_drop]
   rw[hdrop] at ssv
   have x7:Ext h6.next h6 (h6.new (.cells [.sl b1 k' (P1.length-k') (P1.length-k'),sv'] 1 false)):=Ext.new (Nat.le_refl _)
   have g7:(h6.new (.cells [.sl b1 k' (P1.length-k') (P1.length-k'),sv'] 1 false)).get h6.next=some (.cells [.sl b1 k' (P1.length-k') (P1.length-k'),sv'] 1 false):=by rw[AH.get_new,if_pos rfl]
   have n7:(h6.new (.cells [.sl b1 k' (P1.length-k') (P1.length-k'),sv'] 1 false)).next=h6.next+1:=rfl
   have rp2:repl [AV.nils] 2=[.nils,.nils]:=rfl
   have hrl:d.reverse.toList=((v::a).reverse).map fun n=>((n:Nat):Int):=by rw[hd]; simp
   have hcat:=concatI_ok (h:=h6.new (.cells [.sl b1 k' (P1.length-k') (P1.length-k'),sv'] 1 false)) (v:=.sl h6.next 0 2 2) (vs:=[.sl b1 k' (P1.length-k') (P1.length-k'),sv']) (xss:=[((v::a).reverse).map fun n=>((n:Nat):Int),b.map fun n=>((n:Nat):Int)]) (Sl.row g7 rfl (Nat.le_refl _)) rfl (fun i w xs h1 h2=>by
    have hi:i=0∨i=1:=by
     have:=(List.getElem?_eq_some_iff.1 h1).1
     simp at this; omega
    rcases hi with rfl|rfl
    ·simp only[List.getElem?_cons_zero,Option.some.injEq] at h1 h2
     subst h1 h2
     rw[← hrl]; exact s6.ext x7 (Nat.le_refl _)
    ·simp only[List.getElem?_cons_succ,List.getElem?_cons_zero,Option.some.injEq] at h1 h2
     subst h1 h2
     exact Sl.ext ssv x7 (Nat.le_refl _)) (by simp) (by
    have h1:b.length≤P2.length:=by rw[hb',List.length_drop]; omega
    simp only[List.flatten_cons,List.flatten_nil,List.append_nil,List.length_append,List.length_map,List.length_reverse,List.length_cons]
    omega)
   refine W.seq (W.reg (G.gcall 5 (by simp only[am,evOp,simprocAttr,slLA_eq,Option.map_none,e6,e8,e9,st2,ssv.cells.1,ssv.cells.2,rp2,List.length_cons,List.length_nil,List.drop_succ_cons,List.drop_zero,Nat.reduceAdd,Nat.reduceLeDiff,if_true]<;>rfl) rfl (by simp only[am,evOp,simprocAttr,slLA_eq,Option.map_none,e6,e8,e9,st2,ssv.cells.1,ssv.cells.2,rp2,List.length_cons,List.length_nil,List.drop_succ_cons,List.drop_zero,Nat.reduceAdd,Nat.reduceLeDiff,if_true]) (by simp only[am,evOp,simprocAttr,slLA_eq,Option.map_none,e6,e8,e9,st2,ssv.cells.1,ssv.cells.2,rp2,List.length_cons,List.length_nil,List.drop_succ_cons,List.drop_zero,Nat.reduceAdd,Nat.reduceLeDiff,if_true]<;>rfl) (hcat) fun rv h8 hq8=>?_))
   obtain⟨i8,x8⟩:=hq8
   refine G.run (by simp only[am,evOp,simprocAttr]<;>rfl) ?_
   have n6:=hq.nx
   have n5:=x5.nx
   have hfl:([((v::a).reverse).map fun n=>((n:Nat):Int),b.map fun n=>((n:Nat):Int)].flatten).flatMap eI=nC (y1::i++[y2]):=by
    rw[← m1,nC]
    congr 1
    simp
   rw[hfl,n7] at i8
   refine W.ret ⟨rv,(by simp only[rs,rf60,am,evOp,simprocAttr]<;>rfl),?_,y1,y2,i,nC_sl i8,IsSl.off i8 fun c hc=>?_,hThr⟩
   ·exact x5'.trans (((hq.ext (show h.next≤b1 by have:=x12.nx; omega)).trans (x7.mono (by omega))).trans (x8.mono (by rw[n7]; omega)))
   ·have l1:=AH.lt_of_get u.l
    have l2:=AH.lt_of_get u.v
    omega
end Go.Proofs.Ytpeemonpdlifbaa
