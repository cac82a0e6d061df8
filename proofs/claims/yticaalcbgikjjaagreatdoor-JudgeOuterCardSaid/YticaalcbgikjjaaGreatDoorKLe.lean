/-
  graph.View.cycle: that there is one. graph.Check: whether there is a fault; front.New.
-/
import Derived.Test.YticaalcbgikjjaaGreatDoorKLc
import Derived.Test.YticaalcbgikjjaaGreatDoorKLd
set_option linter.all false
namespace Go.Proofs.YticaalcbgikjjaaGreatDoor
open Go.Am Go.Sort
theorem gcycle1_ok {h:AH}{x:Int}:C prg 77 [.int .i64 x] h fun r h'=>r=.bool (decide (0<x))∧h'=h:=by
 refine C.func pf77 ?_
 refine W.seq (W.run (by simp only[am,evOp,simprocAttr,initTm]<;>rfl) ?_)
 refine W.seq (W.run (by simp only[am,evOp,simprocAttr,initTm]<;>rfl) ?_)
 exact W.ret ⟨_,(by simp only[rs,rf77,am,evOp,simprocAttr]<;>rfl),rfl,rfl⟩
theorem any_mem {xs:List Int}{y:Int}:xs.any (y==·)=decide (y∈xs):=by
 rw[Bool.eq_iff_iff]
 simp
theorem fidx_mem {xs:List Int}{y:Int} (h:y∈xs):∃ k,fidx (y==·) xs 0=((k:Nat):Int)∧k<xs.length:=by
 have h1:=(fidx_lo (y==·) xs 0)
 have h2:0≤fidx (y==·) xs 0:=by
  have:xs.any (y==·)=true:=by rw[any_mem]; simpa using h
  by_cases q:fidx (y==·) xs 0<0
  ·rw[h1.2.1 q] at this; cases this
  ·omega
 obtain⟨k,h3,h4,_⟩:=fidx_some _ _ _ h2
 exact⟨k,by simpa using h3,h4⟩
theorem cyc_ok {h:AH}{vp:AV}{n:Nat}{es:List (Int×Int)} (hv:IsView h vp n es) :
 C prg 41 [vp] h fun r h'=>∃ xs:List Int,SlI h' r xs∧(xs=[]↔Acy es)∧Ext h.next h h':=by
 have hv0:=hv
 obtain⟨b,ev,os,is,ob,ib,rfl,g1,g2,g3,g4,g5,g6,g7,g8,m1,m2,m3,m4⟩:=hv
 refine C.func pf41 ?_
 refine W.seq (W.run (by simp only[am,evOp,simprocAttr,initTm]<;>rfl) ?_)
 refine W.seq (W.reg (G.gcall 1 (by simp only[am,evOp,simprocAttr,initTm]<;>rfl) rfl (by simp only[am,evOp,simprocAttr,initTm]) (by simp only[am,evOp,simprocAttr,initTm]<;>rfl) (grun_ok hv0) fun r h1 hq=>?_))
 obtain⟨a,w,out,ws,rfl,iw,k,hz,x1,_⟩:=hq
 refine G.run (by simp only[am,evOp,simprocAttr]<;>rfl) ?_
 have hw:SlI h1 w ws:=IsSl.sl (by omega) (fun _=>rfl) iw
 refine W.seq (W.reg (G.gcall 1 (by simp only[am,evOp,simprocAttr,ev_fu]<;>rfl) rfl (by simp only[am,evOp,simprocAttr,ev_fu]) (by simp only[am,evOp,simprocAttr,ev_fu]<;>rfl) (idxfI_ok (P:=fun x=>decide (0<x)) (caps:=[]) hw (by rw[k.len]; omega) (fun x _ h' _=>by rw[List.append_nil]; exact gcycle1_ok.mono fun r h2 hq=>⟨hq.1,by rw[hq.2]; exact Ext.refl⟩)) fun r h2 hq=>?_))
 obtain⟨rfl,x2⟩:=hq
 refine G.run (by simp only[am,evOp,simprocAttr]<;>rfl) ?_
 have hacy:=k.acy m4 hz
 by_cases q:fidx (fun x=>decide (0<x)) ws 0<0
 ·have hle:=fidx_neg _ _ _ q
  have ha:Acy es:=hacy.1 fun v hv=>by
   have:=hle (ws[v]'(by rw[k.len]; exact hv)) (List.getElem_mem _)
   rw[List.getD_eq_getElem?_getD,List.getElem?_eq_getElem (by rw[k.len]; exact hv),Option.getD_some]
   simpa using this
  have c1:decide (0≤fidx (fun x=>decide (0<x)) ws 0)=false:=decide_eq_false (by omega)
  have c2:decide (fidx (fun x=>decide (0<x)) ws 0<0)=true:=decide_eq_true q
  refine W.seq (W.run (by simp only[am,evOp,simprocAttr]<;>rfl) ?_)
  refine W.seq (W.cut (fun ts h3=>h3=h2∧tget ts 5=.int .i64 (fidx (fun x=>decide (0<x)) ws 0)) (W.block (W.loop (fun n ts h3=>h3=h2∧tget ts 5=.int .i64 (fidx (fun x=>decide (0<x)) ws 0)) ?_ (n:=0) ⟨rfl,by simp only[am,evOp,simprocAttr]⟩)) ?_)
  ·rintro n ts h3 ⟨rfl,e5⟩
   refine W.seq (W.seq (W.reg (G.nocall 5 (by simp only[am,evOp,simprocAttr,e5,c1]<;>rfl) rfl (by simp only[am,evOp,simprocAttr]) ?_)))
   refine G.run (by simp only[am,evOp,simprocAttr]<;>rfl) ?_
   refine W.no (by simp only[am,evOp,simprocAttr]) ?_
   exact W.exit ⟨fun _=>⟨rfl,by simp only[am,evOp,simprocAttr,e5]⟩,fun e=>absurd rfl e⟩
  ·rintro ts h3 ⟨rfl,e5⟩
   refine W.seq (W.seq (W.run (by simp only[am,evOp,simprocAttr,e5,c2]<;>rfl) ?_))
   refine W.yes (by simp only[am,evOp,simprocAttr]) (W.seq (W.run (by simp only[am,evOp,simprocAttr]<;>rfl) ?_))
   exact W.ret ⟨.nils,(by simp only[rs,rf41,am,evOp,simprocAttr]<;>rfl),[],.inl ⟨rfl,.inl rfl⟩,⟨fun _=>ha,fun _=>rfl⟩,x1.trans (x2.mono x1.nx)⟩
 ·obtain⟨z0,hz0,hz1,hz2⟩:=fidx_some _ _ _ (show 0≤fidx (fun x=>decide (0<x)) ws 0 by omega)
  rw[Nat.zero_add] at hz0
  have hz2:0<ws.getD z0 0:=by
   rw[List.getD_eq_getElem?_getD,List.getElem?_eq_getElem hz1,Option.getD_some]
   simpa using hz2
  have hzn:z0<n:=by rw[← k.len]; exact hz1
  have hna:¬ Acy es:=fun ha=>by have:=hacy.2 ha z0 hzn; omega
  rw[hz0]
  have w1:IsSl h2 1 h.next w (ws.flatMap eI):=iw.ext x2 (Nat.le_refl _)
  refine W.seq (W.run (by simp only[am,evOp,simprocAttr]<;>rfl) ?_)
  have X2:Ext h.next h h2:=x1.trans (x2.mono x1.nx)
  refine W.seq (W.cut (fun ts h3=>∃ (way:List Int) (z:Nat) (a:AV),((z:Nat):Int)∈way∧IsSl h3 1 h2.next a (way.flatMap eI)∧way.length≤n∧Ext h.next h h3∧h2.next≤h3.next∧tget ts 5=.int .i64 (z:Nat)∧tget ts 6=a)
   (W.block (W.loop (fun m ts h3=>∃ (way:List Int) (z:Nat) (a:AV),m=n-way.length∧z<n∧0<ws.getD z 0∧way.Nodup∧(∀ y∈way,0≤y∧y<n)∧IsSl h3 1 h2.next a (way.flatMap eI)∧Ext h.next h h3∧Ext h2.next h2 h3∧Held [(0,.ptr b 0),(4,w),(5,.int .i64 (z:Nat)),(6,a)] ts) ?_ (n:=n)
    ⟨[],z0,.nils,rfl,hzn,hz2,by simp,by simp,.inl ⟨rfl,rfl⟩,X2,Ext.refl,by simp only[hl,am,evOp,simprocAttr,initTm]⟩)) ?_)
  ·rintro m ts h3 ⟨way,z,a,rfl,zn,zp,nd,hrg,ia,x3,x3',e0,e4,e5,e6,-⟩
   simp only at e0 e4 e5 e6
   have hwl:way.length≤n:=by
    have h1:way ⊆ (List.range n).map fun x=>((x:Nat):Int):=fun v hv=>by
     have:=hrg v hv
     exact List.mem_map.2 ⟨v.toNat,List.mem_range.2 (by omega),by omega⟩
    have:=nd.length_le_of_subset h1
    simpa using this
   have c1:decide (0≤((z:Nat):Int))=true:=decide_eq_true (by omega)
   have hway:SlI h3 a way:=IsSl.sl (by omega) (fun _=>rfl) ia
   refine W.seq (W.seq (W.reg (G.gcall 5 (by simp only[am,evOp,simprocAttr,e5,e6,c1]<;>rfl) rfl (by simp only[am,evOp,simprocAttr,e5,e6,c1]) (by simp only[am,evOp,simprocAttr,e5,e6,c1]<;>rfl) (contI_ok (y:=((z:Nat):Int)) hway (by omega)) fun r h4 hq=>?_)))
   obtain⟨rfl,x4⟩:=hq
   rw[any_mem]
   refine G.run (by simp only[am,evOp,simprocAttr]<;>rfl) ?_
   by_cases hm:((z:Nat):Int)∈way
   ·have c2:decide (((z:Nat):Int)∈way)=true:=decide_eq_true hm
    refine W.no (by simp only[am,evOp,simprocAttr,c2]) ?_
    have n4:=x4.nx
    have n3:=x3'.nx
    exact W.exit ⟨fun _=>⟨way,z,a,hm,ia.ext x4 (Nat.le_refl _),hwl,x3.trans (x4.mono x3.nx),by omega,by simp only[am,evOp,simprocAttr,e5],by simp only[am,evOp,simprocAttr,e6]⟩,fun e=>absurd rfl e⟩
   ·have c2:decide (((z:Nat):Int)∈way)=false:=decide_eq_false hm
    refine W.yes (by simp only[am,evOp,simprocAttr,c2]) (W.skip (W.block ?_))
    have n4:=x4.nx
    have n3:=x3'.nx
    obtain⟨s',h5,a1,i5,x5,n5⟩:=(ia.ext x4 (Nat.le_refl _)).push (bytes:=8) (eI ((z:Nat):Int)) (by omega) (by omega) rfl rfl (by rw[len_cI]; unfold tooMany; omega) (by rw[len_cI]; unfold tooMany; omega)
    rw[show eI ((z:Nat):Int)=[.int .i64 ((z:Nat):Int)] from rfl] at a1 i5
    refine W.seq (W.run (by simp only[am,evOp,simprocAttr,e5,e6,a1]<;>rfl) ?_)
    refine W.seq (W.run (by simp only[am,evOp,simprocAttr]<;>rfl) ?_)
    have X5:Ext h.next h h5:=x3.trans ((x4.mono x3.nx).trans (x5.mono (by have:=X2.nx; omega)))
    have X5':Ext h2.next h2 h5:=x3'.trans ((x4.mono n3).trans x5)
    have r1:rdCells h5 b 3 1=some [.sl ib 0 n n]:=rd_at (by rw[X5.gt _ (AH.lt_of_get g1)]; exact g1) rfl
    have rz:rdCells h5 ib z 1=some [is[z]'(by omega)]:=rd_at (by rw[X5.gt _ (AH.lt_of_get g4)]; exact g4) (List.getElem?_eq_getElem _)
    have iz:idx? ((z:Nat):Int) n=some z:=idx_nat zn
    have si:=(g8 z _ (List.getElem?_eq_getElem (show z<is.length by omega))).ext X5 (Nat.le_refl _)
    have li:=si.len
    rw[List.length_map] at li
    have hll:(insM es ((z:Nat):Int)).length≤128:=Nat.le_trans (endsAt_len _ _ _) m3
    have sw:SlI h5 w ws:=hw.ext (x2.trans (X5'.mono x2.nx)) (Nat.le_refl _)
    have se:=g2.ext X5 (Nat.le_refl _)
    have rv:rdCells h5 b 1 1=some [ev]:=rd_at (by rw[X5.gt _ (AH.lt_of_get g1)]; exact g1) rfl
    refine W.seq (W.seq (W.run (by simp only[am,evOp,simprocAttr,e0,e5,r1,iz,Nat.mul_one,rz,li]<;>rfl) ?_))
    refine W.rng (α:=Int) (N:=(insM es ((z:Nat):Int)).length) (fun _ a'=>[(37,is[z]'(by omega)),(0,.ptr b 0),(4,w),(6,s'),(7,.int .i64 a')])
     (fun k a' h'=>h'=h5∧-1≤a'∧(0≤a'→a'.toNat<n∧0<ws.getD a'.toNat 0)∧∀ i∈(insM es ((z:Nat):Int)).take k,0<ws.getD ((es[i.toNat]?).getD (0,0)).1.toNat 0→0≤a') (-1) (fun _ _=>rfl) (by omega) (by simp only[hl,am,evOp,simprocAttr,e0,e4]) ⟨rfl,by omega,by omega,by simp⟩ ?_ ?_
    ·clear e0 e4 e5 e6
     rintro j a' ts h6 hj ⟨rfl,j2,j3,j4⟩ ⟨ei,en,e37,e0,e4,e6,e7,-⟩
     simp only at ei en e37 e0 e4 e6 e7
     obtain⟨jb,jp,a6,r6,_⟩:=si.at1 (map_at (f:=eI) hj)
     obtain⟨ed,hed1,hed2,ed',hed3,hed4⟩:=endsAt_range (fun e=>decide (e.2=((z:Nat):Int))) es 0 _ (List.getElem_mem hj)
     rw[Nat.zero_add] at hed1
     have hed1:(insM es ((z:Nat):Int))[j]=((ed:Nat):Int):=hed1
     rw[hed1] at r6
     obtain⟨ea,eb,eab,hea,heb⟩:=okE_nat (List.all_eq_true.1 m4 _ (List.getElem_mem hed2))
     obtain⟨eb1,ep,a7,_,r7,_⟩:=se.at (map_at (f:=eE) hed2)
     have r7:=r7 0 (.int .i64 ((ea:Nat):Int)) (by rw[eab]; rfl)
     rw[Nat.add_zero] at r7
     obtain⟨wb1,wp,a8,r8,_⟩:=sw.at1 (map_at (f:=eI) (show ea<ws.length by rw[k.len]; exact hea))
     have hgd:ws.getD ea 0=ws[ea]'(by rw[k.len]; exact hea):=by rw[List.getD_eq_getElem?_getD,List.getElem?_eq_getElem (by rw[k.len]; exact hea),Option.getD_some]
     have hnew:(es[((insM es ((z:Nat):Int))[j]).toNat]?).getD (0,0)=(((ea:Nat):Int),((eb:Nat):Int)):=by
      rw[hed1,Int.toNat_natCast,List.getElem?_eq_getElem hed2,Option.getD_some,eab]
     refine W.seq (W.run (by simp only[am,evOp,simprocAttr,e37,ei,a6,r6]<;>rfl) ?_)
     refine W.seq (W.run (by simp only[am,evOp,simprocAttr,e0,rv,a7,r7]<;>rfl) ?_)
     have mem_succ:∀ i,i∈(insM es ((z:Nat):Int)).take (j+1)→i∈(insM es ((z:Nat):Int)).take j∨i=(insM es ((z:Nat):Int))[j]:=fun i hi=>by
      rw[List.take_succ_eq_append_getElem hj,List.mem_append] at hi
      rcases hi with hi|hi
      ·exact .inl hi
      ·exact .inr (by simpa using hi)
     have hno:¬ 0<ws.getD ea 0→∀ i∈(insM es ((z:Nat):Int)).take (j+1),0<ws.getD ((es[i.toNat]?).getD (0,0)).1.toNat 0→0≤a':=fun hn i hi hp=>by
      rcases mem_succ i hi with hi|rfl
      ·exact j4 i hi hp
      ·rw[hnew] at hp
       exact absurd (by simpa using hp) hn
     have hge:0≤a'→∀ i∈(insM es ((z:Nat):Int)).take (j+1),0<ws.getD ((es[i.toNat]?).getD (0,0)).1.toNat 0→0≤a':=fun h0 _ _ _=>h0
     by_cases c1:0<ws[ea]'(by rw[k.len]; exact hea)
     ·have d1:decide (0<ws[ea]'(by rw[k.len]; exact hea))=true:=decide_eq_true c1
      have set:∀ a'',a''=((ea:Nat):Int)→(h6=h6∧-1≤a''∧(0≤a''→a''.toNat<n∧0<ws.getD a''.toNat 0)∧∀ i∈(insM es ((z:Nat):Int)).take (j+1),0<ws.getD ((es[i.toNat]?).getD (0,0)).1.toNat 0→0≤a''):=by
       rintro _ rfl
       exact⟨rfl,by omega,fun _=>⟨by omega,by rw[Int.toNat_natCast,hgd]; exact c1⟩,fun _ _ _=>by omega⟩
      by_cases c2:a'<0
      ·have d2:decide (a'<0)=true:=decide_eq_true c2
       refine W.seq (W.run (by simp only[am,evOp,simprocAttr,e4,e7,a8,r8,d1,d2]<;>rfl) ?_)
       refine W.yes (by simp only[am,evOp,simprocAttr]) ?_
       refine W.run (by simp only[am,evOp,simprocAttr]<;>rfl) ?_
       exact⟨_,set _ rfl,by simp only[hl,am,evOp,simprocAttr,ei,en,e37,e0,e4,e6]⟩
      ·have d2:decide (a'<0)=false:=decide_eq_false c2
       by_cases c3:((ea:Nat):Int)<a'
       ·have d3:decide (((ea:Nat):Int)<a')=true:=decide_eq_true c3
        refine W.seq (W.run (by simp only[am,evOp,simprocAttr,e4,e7,a8,r8,d1,d2,d3]<;>rfl) ?_)
        refine W.yes (by simp only[am,evOp,simprocAttr]) ?_
        refine W.run (by simp only[am,evOp,simprocAttr]<;>rfl) ?_
        exact⟨_,set _ rfl,by simp only[hl,am,evOp,simprocAttr,ei,en,e37,e0,e4,e6]⟩
       ·have d3:decide (((ea:Nat):Int)<a')=false:=decide_eq_false c3
        refine W.seq (W.run (by simp only[am,evOp,simprocAttr,e4,e7,a8,r8,d1,d2,d3]<;>rfl) ?_)
        refine W.no (by simp only[am,evOp,simprocAttr]) ?_
        exact W.skip ⟨a',⟨rfl,j2,j3,hge (by omega)⟩,by simp only[hl,am,evOp,simprocAttr,ei,en,e37,e0,e4,e6,e7]⟩
     ·have d1:decide (0<ws[ea]'(by rw[k.len]; exact hea))=false:=decide_eq_false c1
      refine W.seq (W.run (by simp only[am,evOp,simprocAttr,e4,e7,a8,r8,d1]<;>rfl) ?_)
      refine W.no (by simp only[am,evOp,simprocAttr]) ?_
      exact W.skip ⟨a',⟨rfl,j2,j3,hno (by rw[hgd]; exact c1)⟩,by simp only[hl,am,evOp,simprocAttr,ei,en,e37,e0,e4,e6,e7]⟩
    ·clear e0 e4 e5 e6
     rintro a' ts h6 ⟨rfl,j2,j3,j4⟩ ⟨e37,e0,e4,e6,e7,-⟩
     simp only at e37 e0 e4 e6 e7
     rw[List.take_length] at j4
     obtain⟨e,hee,he1,he2⟩:=k.back m4 hz zn zp
     have hpos:0≤a':=by
      have hin:e∈(insM es ((z:Nat):Int)).map (fun i=>(es[i.toNat]?).getD (0,0)):=by
       have:=endsAt_get (fun e=>decide (e.2=((z:Nat):Int))) es []
       simp only[List.length_nil,List.nil_append] at this
       unfold insM
       rw[this,List.mem_filter]
       exact⟨hee,by simpa using he1⟩
      obtain⟨i,hi,rfl⟩:=List.mem_map.1 hin
      exact j4 i hi he2
     obtain⟨z',rfl⟩:∃ z':Nat,a'=z':=⟨a'.toNat,by omega⟩
     obtain⟨j5,j6⟩:=j3 hpos
     rw[Int.toNat_natCast] at j5 j6
     refine W.run (by simp only[am,evOp,simprocAttr,e7]<;>rfl) ?_
     have nd':(way++[((z:Nat):Int)]).Nodup:=by
      rw[List.nodup_append]
      refine⟨nd,by simp,fun x hx y hy=>?_⟩
      simp only[List.mem_cons,List.not_mem_nil,or_false] at hy
      subst hy
      exact fun e=>hm (e▸hx)
     have hrg':∀ y∈way++[((z:Nat):Int)],0≤y∧y<n:=fun y hy=>by
      rw[List.mem_append] at hy
      rcases hy with hy|hy
      ·exact hrg y hy
      ·simp only[List.mem_cons,List.not_mem_nil,or_false] at hy; omega
     have hwl':(way++[((z:Nat):Int)]).length≤n:=by
      have h1:(way++[((z:Nat):Int)]) ⊆ (List.range n).map fun x=>((x:Nat):Int):=fun v hv=>by
       have:=hrg' v hv
       exact List.mem_map.2 ⟨v.toNat,List.mem_range.2 (by omega),by omega⟩
      have:=nd'.length_le_of_subset h1
      simpa using this
     refine⟨n-(way++[((z:Nat):Int)]).length,by simp only[List.length_append,List.length_cons,List.length_nil] at hwl' ⊢; omega,way++[((z:Nat):Int)],z',s',rfl,j5,j6,nd',hrg',by rw[List.flatMap_append]; exact i5,X5,X5',by simp only[hl,am,evOp,simprocAttr,e0,e4,e6]⟩
  ·rintro ts h3 ⟨way,z,a,hm,ia,hwl,x3,n3,e5,e6⟩
   have c1:decide (((z:Nat):Int)<0)=false:=decide_eq_false (by omega)
   refine W.seq (W.seq (W.run (by simp only[am,evOp,simprocAttr,e5,c1]<;>rfl) ?_))
   refine W.no (by simp only[am,evOp,simprocAttr]) (W.skip ?_)
   have sa:SlI h3 a way:=IsSl.sl (by omega) (fun _=>rfl) ia
   obtain⟨k0,hk0,hk1⟩:=fidx_mem hm
   rcases ia with ⟨rfl,hnil⟩|⟨wb,L,hwb,rfl,gw,hL⟩
   ·have h0:=congrArg List.length hnil
    rw[len_cI,List.length_nil] at h0
    omega
   have hLn:L=way.length:=by rw[len_cI] at hL; omega
   subst hLn
   refine W.seq (W.reg (G.gcall 3 (by simp only[am,evOp,simprocAttr,e5,e6]<;>rfl) rfl (by simp only[am,evOp,simprocAttr,e5,e6]) (by simp only[am,evOp,simprocAttr,e5,e6]<;>rfl) (idxI_ok (y:=((z:Nat):Int)) sa (by omega)) fun r h4 hq=>?_))
   obtain⟨rfl,x4⟩:=hq
   rw[hk0]
   have gw4:h4.get wb=some (.cells (way.flatMap eI) 1 false):=by rw[x4.gt _ (AH.lt_of_get gw)]; exact gw
   have s1:=slV_from gw4 hk1 (Nat.le_refl _) (Nat.le_of_lt hk1)
   rw[Nat.mul_one] at s1
   refine G.run (by simp only[am,evOp,simprocAttr,slLA_eq,Option.map_none,e6,s1]<;>rfl) ?_
   have hds:(way.drop k0).toArray.size=way.length-k0:=by simp
   have gb:h4.get wb=some (blkI (way.flatMap eI) k0 (way.drop k0).toArray):=by
    rw[gw4]
    unfold blkI
    congr 2
    refine (splice_self (by rw[ints_len,hds,len_cI]; omega) ?_).symm
    rw[← flat_ints,len_cI,List.length_drop,flat_cI,flat_cI,List.map_drop,List.take_of_length_le (by rw[List.length_drop,List.length_map]; omega)]
   have hrv:=reverse_ok (c:=way.length-k0) gb (by rw[hds,len_cI]; omega) (by rw[hds]; omega)
   rw[hds] at hrv
   refine W.seq (W.reg (G.gcall 1 (by simp only[am,evOp,simprocAttr]<;>rfl) rfl (by simp only[am,evOp,simprocAttr]) (by simp only[am,evOp,simprocAttr]<;>rfl) (hrv) fun r h5 u5=>?_))
   refine G.run (by simp only[am,evOp,simprocAttr]<;>rfl) ?_
   have s5:=blk_sl (c:=way.length-k0) u5.get (by rw[Array.size_reverse,hds,len_cI]; omega) (by rw[Array.size_reverse,hds]; omega)
   rw[Array.size_reverse,hds] at s5
   have hl5:(way.drop k0).toArray.reverse.toList.length=way.length-k0:=by simp
   have n4:=x4.nx
   have n5:=u5.nx
   generalize (way.drop k0).toArray.reverse.toList=rl at *
   refine W.seq (W.reg (G.gcall 2 (by simp only[am,evOp,simprocAttr]<;>rfl) rfl (by simp only[am,evOp,simprocAttr]) (by simp only[am,evOp,simprocAttr]<;>rfl) (mini_ok s5 (by omega) (by omega)) fun r h6 hq=>?_))
   obtain⟨mi,rfl,hmi,_,rfl⟩:=hq
   obtain⟨j0,hj0,hj1⟩:=fidx_mem hmi
   refine G.callq (by simp only[am,evOp,simprocAttr]) (by simp only[am,evOp,simprocAttr]<;>rfl) (idxI_ok (y:=mi) s5 (by omega)) fun r h7 hq=>?_
   obtain⟨rfl,x7⟩:=hq
   rw[hj0]
   refine G.run (by simp only[am,evOp,simprocAttr]<;>rfl) ?_
   have s7:=s5.ext x7 (Nat.le_refl _)
   have n7:=x7.nx
   have kg:∀ c,c<h7.next→(h7.keep 1).get c=h7.get c:=fun c hc=>by rw[AH.keep_get,if_neg (by omega)]
   have q7:(h7.keep 1).get h7.next=some .resv:=keep1_get
   have hwb7:wb<h7.next:=by have:=AH.lt_of_get gw4; omega
   have s8:SlI (h7.keep 1) (.sl wb k0 (way.length-k0) (way.length-k0)) rl:=s7.cong fun b' o' n' c' e=>kg _ (s7.lt e)
   obtain⟨v1,f1,t1,t1b,_⟩:=s8.from (lo:=j0) (by rw[List.length_map]; omega)
   obtain⟨v2,f2,t2,t2b,_⟩:=s8.upto (hi:=j0) (by rw[List.length_map]; omega)
   have cl1:=t1.cells
   have cl2:=t2.cells
   obtain⟨p1,p2,p3,p4⟩:=keep1_put (h:=h7) (o:=.cells [v1,v2] 1 false)
   have kgp:∀ c,c<h7.next→((h7.keep 1).put h7.next (.cells [v1,v2] 1 false)).get c=(h7.keep 1).get c:=fun c hc=>by rw[p4 c hc,kg c hc]
   have hcat:=concatI_ok (h:=(h7.keep 1).put h7.next (.cells [v1,v2] 1 false)) (v:=.sl h7.next 0 2 2) (vs:=[v1,v2]) (xss:=[rl.drop j0,rl.take j0]) (Sl.row p2 rfl (Nat.le_refl _)) rfl (fun i w xs hw hx=>?_) (by simp) (by simp only[List.flatten_cons,List.flatten_nil,List.append_nil,List.length_append,List.length_drop,List.length_take]; omega)
   rotate_left
   ·match i with
    | 0 =>
      simp only[List.getElem?_cons_zero,Option.some.injEq] at hw hx
      subst hw hx
      rw[← List.map_drop] at t1
      exact t1.cong fun b' o' n' c' e=>kgp _ (by
       have:=t1b (fun b=>b<h7.next) hwb7
       rw[e] at this
       exact this)
    | 1 =>
      simp only[List.getElem?_cons_succ,List.getElem?_cons_zero,Option.some.injEq] at hw hx
      subst hw hx
      rw[← List.map_take] at t2
      exact t2.cong fun b' o' n' c' e=>kgp _ (by
       have:=t2b (fun b=>b<h7.next) hwb7
       rw[e] at this
       exact this)
    | i+2=>simp at hw
   refine W.seq (W.regK (G.gcall 7 (by simp only[am,evOp,simprocAttr,slLA_eq,Option.map_none,f1,f2,evN_some,evNew_mksl q7,cl1.1,cl2.1]<;>rfl) rfl (by simp only[am,evOp,simprocAttr,slLA_eq,Option.map_none,f1,f2,evN_some,evNew_mksl q7,cl1.1,cl2.1]) (by simp only[am,evOp,simprocAttr,slLA_eq,Option.map_none,f1,f2,evN_some,evNew_mksl q7,cl1.1,cl2.1]<;>rfl) (hcat) fun r h8 hq=>?_))
   obtain⟨i8,x8⟩:=hq
   refine G.run (by simp only[am,evOp,simprocAttr]<;>rfl) ?_
   refine W.ret ⟨r,(by simp only[rs,rf41,am,evOp,simprocAttr]<;>rfl),_,IsSl.sl (by omega) (fun _=>rfl) i8,⟨fun e=>?_,fun e=>absurd e hna⟩,?_⟩
   ·exfalso
    have:=congrArg List.length e
    simp only[List.flatten_cons,List.flatten_nil,List.append_nil,List.length_append,List.length_drop,List.length_take,List.length_nil] at this
    omega
   ·have:=X2.nx
    exact x3.trans ((x4.mono (by omega)).trans ((u5.ext (by omega)).trans ((x7.mono (by omega)).trans ((p1.mono (by omega)).trans (x8.mono (by omega))))))
end Go.Proofs.YticaalcbgikjjaaGreatDoor
namespace Go.Proofs.YticaalcbgikjjaaGreatDoor
open Go.Am
def GoodP (n:Int) (es:List (Int×Int)):Prop:=mayB n es=true∧(∀ e∈es,e.1≠e.2)∧es.Nodup∧Acy es∧(srcM n.toNat es).length≤1
theorem gcheck1_ok {h:AH}{x:Int×Int}:C prg 39 [.agg (eE x)] h fun r h'=>r=.bool (decide (x.1=x.2))∧Ext h.next h h':=by
 refine C.func pf39 ?_
 refine W.seq (W.run (by simp only[am,evOp,simprocAttr,initTm,eE]<;>rfl) ?_)
 have ex:Ext h.next h (h.new (.cells [.int .i64 x.1,.int .i64 x.2] 2 false)):=Ext.new (Nat.le_refl _)
 have g:(h.new (.cells [.int .i64 x.1,.int .i64 x.2] 2 false)).get h.next=some (.cells [.int .i64 x.1,.int .i64 x.2] 2 false):=by rw[AH.get_new,if_pos rfl]
 generalize h.new (.cells [.int .i64 x.1,.int .i64 x.2] 2 false)=h1 at *
 have r1:rdCells h1 h.next 0 1=some [.int .i64 x.1]:=rd_at g rfl
 have r2:rdCells h1 h.next 1 1=some [.int .i64 x.2]:=rd_at g rfl
 refine W.seq (W.run (by simp only[am,evOp,simprocAttr,r1,r2]<;>rfl) ?_)
 exact W.ret ⟨_,(by simp only[rs,rf39,am,evOp,simprocAttr]<;>rfl),rfl,ex⟩
theorem check_ok {h:AH}{n:Int}{ev:AV}{es:List (Int×Int)} (he:SlE h ev es) (hl:es.length<2 ^ 30) :
 C prg 16 [.agg [.int .i64 n,ev]] h fun r h'=>(∃ c a v,r=.agg [.int .i64 c,.int .i64 a,v]∧(c=0↔GoodP n es))∧Ext h.next h h':=by
 obtain⟨ec,eo⟩:=he.cells
 have hlen:=he.len
 rw[List.length_map] at hlen
 refine C.func pf16 ?_
 have x0:Ext h.next h (h.new (.cells [.int .i64 n,ev] 2 false)):=Ext.new (Nat.le_refl _)
 have g0:(h.new (.cells [.int .i64 n,ev] 2 false)).get h.next=some (.cells [.int .i64 n,ev] 2 false):=by rw[AH.get_new,if_pos rfl]
 have n0:(h.new (.cells [.int .i64 n,ev] 2 false)).next=h.next+1:=rfl
 refine W.seq (W.run (by simp only[am,evOp,simprocAttr,initTm]<;>rfl) ?_)
 generalize h.new (.cells [.int .i64 n,ev] 2 false)=h0 at *
 rw[← n0]
 have x1:Ext h0.next h0 (h0.new (.cells [.int .i64 0,.int .i64 0,.nils] 3 false)):=Ext.new (Nat.le_refl _)
 have f1:(h0.new (.cells [.int .i64 0,.int .i64 0,.nils] 3 false)).get h0.next=some (.cells [.int .i64 0,.int .i64 0,.nils] 3 false):=by rw[AH.get_new,if_pos rfl]
 have n1:(h0.new (.cells [.int .i64 0,.int .i64 0,.nils] 3 false)).next=h0.next+1:=rfl
 generalize h0.new (.cells [.int .i64 0,.int .i64 0,.nils] 3 false)=h1 at *
 have X1:Ext h.next h h1:=x0.trans (x1.mono (by omega))
 have r0:rdCells h1 h.next 0 2=some [.int .i64 n,ev]:=by rw[rdCells_of (by rw[x1.gt _ (by omega)]; exact g0)]; rfl
 have hend:∀ (h':AH) (c a:Int) (v:AV),h'.get h0.next=some (.cells [.int .i64 0,.int .i64 0,.nils] 3 false)→Ext h.next h h'→(c=0↔GoodP n es)→∃ h'',wrCells h' h0.next 0 [.int .i64 c,.int .i64 a,v]=some h''∧rdCells h'' h0.next 0 3=some [.int .i64 c,.int .i64 a,v]∧(∃ c' a' w,AV.agg [.int .i64 c,.int .i64 a,v]=.agg [.int .i64 c',.int .i64 a',w]∧(c'=0↔GoodP n es))∧Ext h.next h h'':=by
  intro h' c a v hg hx hc
  refine⟨h'.put h0.next (.cells [.int .i64 c,.int .i64 a,v] 3 false),by rw[wrCells_of hg]; rfl,?_,⟨c,a,v,rfl,hc⟩,hx.trans ((Upd.put hg).ext (by omega))⟩
  rw[rdCells_of (Upd.put hg).get]; rfl
 refine W.seq (W.seq (W.reg (G.gcall 1 (by simp only[am,evOp,simprocAttr,r0]<;>rfl) rfl (by simp only[am,evOp,simprocAttr,r0]) (by simp only[am,evOp,simprocAttr,r0]<;>rfl) (gmay_ok (he.ext X1 (Nat.le_refl _)) (by omega)) fun r h2 hq=>?_)))
 obtain⟨rfl,x2⟩:=hq
 refine G.run (by simp only[am,evOp,simprocAttr]<;>rfl) ?_
 have X2:=X1.trans (x2.mono X1.nx)
 have n2:=x2.nx
 have f2:h2.get h0.next=some (.cells [.int .i64 0,.int .i64 0,.nils] 3 false):=by rw[x2.gt _ (by omega)]; exact f1
 by_cases hm:mayB n es=true
 case neg =>
  obtain⟨h3,w3,r3,hc,X3⟩:=hend h2 1 0 .nils f2 X2 ⟨fun h=>(by omega),fun h=>absurd h.1 hm⟩
  simp only[Bool.not_eq_true] at hm
  rw[hm]
  refine W.yes (by simp only[am,evOp,simprocAttr]) (W.seq (W.run (by simp only[am,evOp,simprocAttr,w3]<;>rfl) ?_))
  exact W.ret ⟨_,(by simp only[rs,rf16,am,evOp,simprocAttr,r3]<;>rfl),hc,X3⟩
 rw[hm]
 refine W.no (by simp only[am,evOp,simprocAttr]) (W.skip ?_)
 have g2:h2.get h.next=some (.cells [.int .i64 n,ev] 2 false):=by rw[x2.gt _ (by omega),x1.gt _ (by omega)]; exact g0
 have r2:rdCells h2 h.next 1 1=some [ev]:=rd_at g2 rfl
 refine W.seq (W.seq (W.reg (G.gcall 2 (by simp only[am,evOp,simprocAttr,r2,ev_fu]<;>rfl) rfl (by simp only[am,evOp,simprocAttr,r2,ev_fu]) (by simp only[am,evOp,simprocAttr,r2,ev_fu]<;>rfl) (idxfE_ok (P:=fun x=>decide (x.1=x.2)) (caps:=[]) (he.ext X2 (Nat.le_refl _)) (by omega) (fun x _ h' _=>by rw[List.append_nil]; exact gcheck1_ok)) fun r h3 hq=>?_)))
 obtain⟨rfl,x3⟩:=hq
 refine G.run (by simp only[am,evOp,simprocAttr]<;>rfl) ?_
 have X3:=X2.trans (x3.mono X2.nx)
 have n3:=x3.nx
 have f3:h3.get h0.next=some (.cells [.int .i64 0,.int .i64 0,.nils] 3 false):=by rw[x3.gt _ (by omega)]; exact f2
 have g3:h3.get h.next=some (.cells [.int .i64 n,ev] 2 false):=by rw[x3.gt _ (by omega)]; exact g2
 refine W.seq (W.run (by simp only[am,evOp,simprocAttr]<;>rfl) ?_)
 by_cases q:0≤fidx (fun x:Int×Int=>decide (x.1=x.2)) es 0
 ·have c1:decide (0≤fidx (fun x:Int×Int=>decide (x.1=x.2)) es 0)=true:=decide_eq_true q
  obtain⟨kk,_,hk1,hk2⟩:=fidx_some _ _ _ q
  obtain⟨h4,w4,r4,hc,X4⟩:=hend h3 13 (fidx (fun x:Int×Int=>decide (x.1=x.2)) es 0) .nils f3 X3 ⟨fun h=>(by omega),fun h=>absurd (of_decide_eq_true hk2) (h.2.1 _ (List.getElem_mem hk1))⟩
  refine W.yes (by simp only[am,evOp,simprocAttr,c1]) (W.seq (W.run (by simp only[am,evOp,simprocAttr,w4]<;>rfl) ?_))
  exact W.ret ⟨_,(by simp only[rs,rf16,am,evOp,simprocAttr,r4]<;>rfl),hc,X4⟩
 have c1:decide (0≤fidx (fun x:Int×Int=>decide (x.1=x.2)) es 0)=false:=decide_eq_false q
 have hloop:∀ e∈es,e.1≠e.2:=fun e hee=>by
  have:=fidx_neg _ _ _ (show fidx (fun x:Int×Int=>decide (x.1=x.2)) es 0<0 by omega) e hee
  simpa using this
 refine W.no (by simp only[am,evOp,simprocAttr,c1]) (W.skip ?_)
 have r3:rdCells h3 h.next 1 1=some [ev]:=rd_at g3 rfl
 refine W.seq (W.seq (W.seq (W.run (by simp only[am,evOp,simprocAttr,r3,hlen]<;>rfl) ?_)))
 refine W.rng (α:=Unit) (N:=es.length) (fun _ _=>[(1,.ptr h.next 0),(2,.ptr h0.next 0),(21,ev)])
  (fun k _ h'=>h'.get h0.next=some (.cells [.int .i64 0,.int .i64 0,.nils] 3 false)∧h'.get h.next=some (.cells [.int .i64 n,ev] 2 false)∧(es.take k).Nodup∧Ext h.next h h'∧h3.next≤h'.next) () (fun _ _=>rfl) (by omega) (by simp only[held_cons,held_nil,am,evOp,↓reduceIte,Nat.reduceEqDiff,Int.reduceEq,Nat.reduceAdd,Nat.reduceLeDiff,reduceCtorEq,initTm]) ⟨f3,g3,by simp,X3,Nat.le_refl _⟩ ?_ ?_
 ·rintro k _ ts h4 hk ⟨j1,j2,j3,j4,j5⟩ ⟨ei,en,e1,e2,e21,-⟩
  simp only at ei en e1 e2 e21
  have se:=he.ext j4 (Nat.le_refl _)
  obtain⟨b1,p1,a1,r4,_⟩:=se.at (map_at (f:=eE) hk)
  obtain⟨h6,w6,x6,g6,n6⟩:=mk_loc (h:=h4) (z:=[.int .i64 0,.int .i64 0]) (cs:=[.int .i64 es[k].1,.int .i64 es[k].2]) (e:=2) rfl
  refine W.seq (W.run (by simp only[am,evOp,simprocAttr,e21,ei,a1,r4,eE,w6]<;>rfl) ?_)
  have X6:=j4.trans (x6.mono j4.nx)
  have f6:h6.get h0.next=some (.cells [.int .i64 0,.int .i64 0,.nils] 3 false):=by rw[x6.gt _ (by omega)]; exact j1
  have g6':h6.get h.next=some (.cells [.int .i64 n,ev] 2 false):=by rw[x6.gt _ (by omega)]; exact j2
  have r6:rdCells h6 h.next 1 1=some [ev]:=rd_at g6' rfl
  obtain⟨v',s1,s2,_⟩:=(he.ext X6 (Nat.le_refl _)).upto (hi:=k) (by rw[List.length_map]; omega)
  rw[← List.map_take] at s2
  have r7:rdCells h6 h4.next 0 2=some [.int .i64 es[k].1,.int .i64 es[k].2]:=by rw[rdCells_of g6]; rfl
  have hce:=contE_ok (y:=es[k]) s2 (by rw[List.length_take]; omega)
  rw[show eE es[k]=[.int .i64 es[k].1,.int .i64 es[k].2] from rfl] at hce
  refine W.seq (W.reg (G.gcall 5 (by simp only[am,evOp,simprocAttr,e1,r6,slLA_eq,Option.map_none,s1,r7]<;>rfl) rfl (by simp only[am,evOp,simprocAttr,e1,r6,slLA_eq,Option.map_none,s1,r7]) (by simp only[am,evOp,simprocAttr,e1,r6,slLA_eq,Option.map_none,s1,r7]<;>rfl) (hce) fun r h7 hq=>?_))
  obtain⟨rfl,x7⟩:=hq
  refine G.run (by simp only[am,evOp,simprocAttr]<;>rfl) ?_
  have X7:=X6.trans (x7.mono X6.nx)
  have f7:h7.get h0.next=some (.cells [.int .i64 0,.int .i64 0,.nils] 3 false):=by rw[x7.gt _ (by omega)]; exact f6
  have g7:h7.get h.next=some (.cells [.int .i64 n,ev] 2 false):=by rw[x7.gt _ (by omega)]; exact g6'
  cases hb:(es.take k).any (es[k]==·) with
  | true =>
    obtain⟨h8,w8,r8,hc,X8⟩:=hend h7 14 (k:Nat) .nils f7 X7 ⟨fun h=>(by omega),fun h=>by
     exfalso
     rw[List.any_eq_true] at hb
     obtain⟨y,hy,hye⟩:=hb
     rw[beq_iff_eq] at hye
     subst hye
     have:=h.2.2.1
     rw[← List.take_append_drop k es,List.drop_eq_getElem_cons hk,List.nodup_append] at this
     exact this.2.2 _ hy _ (List.mem_cons_self ..) rfl⟩
    refine W.yes (by simp only[am,evOp,simprocAttr]) (W.seq (W.run (by simp only[am,evOp,simprocAttr,e2,w8]<;>rfl) ?_))
    exact W.ret ⟨_,(by simp only[rs,rf16,am,evOp,simprocAttr,e2,r8]<;>rfl),hc,X8⟩
  | false =>
    refine W.no (by simp only[am,evOp,↓reduceIte,Nat.reduceEqDiff,Int.reduceEq,Nat.reduceAdd,Nat.reduceLeDiff,reduceCtorEq]) (W.skip ⟨(),⟨f7,g7,?_,X7,by have:=x7.nx; omega⟩,by simp only[held_cons,held_nil,am,evOp,↓reduceIte,Nat.reduceEqDiff,Int.reduceEq,Nat.reduceAdd,Nat.reduceLeDiff,reduceCtorEq,ei,en,e1,e2,e21]⟩)
    rw[List.take_succ_eq_append_getElem hk,List.nodup_append]
    refine⟨j3,by simp,fun x hx y hy=>?_⟩
    simp only[List.mem_cons,List.not_mem_nil,or_false] at hy
    subst hy
    rw[List.any_eq_false] at hb
    intro e
    subst e
    have:=hb _ hx
    simp at this
 ·rintro _ ts h4 ⟨j1,j2,j3,j4,j5⟩ ⟨e1,e2,e21,-⟩
  simp only at e1 e2 e21
  rw[List.take_length] at j3
  obtain⟨nn,rfl⟩:∃ nn:Nat,n=nn:=⟨n.toNat,by
   simp only[mayB,Bool.and_eq_true,decide_eq_true_eq] at hm; omega⟩
  have r4:rdCells h4 h.next 0 2=some [.int .i64 (nn:Nat),ev]:=by rw[rdCells_of j2]; rfl
  refine W.seq (W.reg (G.gcall 1 (by simp only[am,evOp,simprocAttr,e1,r4]<;>rfl) rfl (by simp only[am,evOp,simprocAttr,e1,r4]) (by simp only[am,evOp,simprocAttr,e1,r4]<;>rfl) (gof_ok (he.ext j4 (Nat.le_refl _)) hm) fun vp h5 hq=>?_))
  obtain⟨hv,x5⟩:=hq
  refine G.run (by simp only[am,evOp,simprocAttr]<;>rfl) ?_
  have X5:=j4.trans (x5.mono j4.nx)
  have n5:=x5.nx
  have f5:h5.get h0.next=some (.cells [.int .i64 0,.int .i64 0,.nils] 3 false):=by rw[x5.gt _ (by omega)]; exact j1
  refine W.seq (W.seq (W.reg (G.gcall 1 (by simp only[am,evOp,simprocAttr]<;>rfl) rfl (by simp only[am,evOp,simprocAttr]) (by simp only[am,evOp,simprocAttr]<;>rfl) (cyc_ok hv) fun cv h6 hq=>?_)))
  obtain⟨xs,sx,hxa,x6⟩:=hq
  refine G.run (by simp only[am,evOp,simprocAttr]<;>rfl) ?_
  have X6:=X5.trans (x6.mono X5.nx)
  have n6:=x6.nx
  have f6:h6.get h0.next=some (.cells [.int .i64 0,.int .i64 0,.nils] 3 false):=by rw[x6.gt _ (by omega)]; exact f5
  have lx:=sx.len
  rw[List.length_map] at lx
  obtain⟨sc,so⟩:=sx.cells
  refine W.seq (W.run (by simp only[am,evOp,simprocAttr,lx]<;>rfl) ?_)
  refine W.cond (t:=decide (0<xs.length)) (by simp only[am,evOp,simprocAttr]; exact congrArg AV.bool (by simp only[decide_eq_decide]; omega)) (fun q=>?_) fun q=>?_
  ·have q:0<xs.length:=of_decide_eq_true q
   obtain⟨h8,w8,r8,hc,X8⟩:=hend h6 15 0 cv f6 X6 ⟨fun h=>(by omega),fun h=>by
    exfalso
    have:=hxa.2 h.2.2.2.1
    subst this
    simp at q⟩
   refine W.seq (W.run (by simp only[am,evOp,simprocAttr,e2,sc,so,w8]<;>rfl) ?_)
   exact W.ret ⟨_,(by simp only[rs,rf16,am,evOp,simprocAttr,e2,r8]<;>rfl),hc,X8⟩
  have q:¬ 0<xs.length:=of_decide_eq_false q
  have hacy:=hxa.1 (List.length_eq_zero_iff.1 (by omega))
  refine W.skip ?_
  have hv6:=hv.ext x6
  refine W.seq (W.seq (W.reg (G.gcall 1 (by simp only[am,evOp,simprocAttr]<;>rfl) rfl (by simp only[am,evOp,simprocAttr]) (by simp only[am,evOp,simprocAttr]<;>rfl) (sources_ok hv6) fun sv h7 hq=>?_)))
  obtain⟨is,x7⟩:=hq
  refine G.run (by simp only[am,evOp,simprocAttr]<;>rfl) ?_
  have X7:=X6.trans (x7.mono X6.nx)
  have f7:h7.get h0.next=some (.cells [.int .i64 0,.int .i64 0,.nils] 3 false):=by rw[x7.gt _ (by omega)]; exact f6
  have ss:SlI h7 sv (srcM nn es):=IsSl.sl (by omega) (fun _=>rfl) is
  have ls:=ss.len
  rw[List.length_map] at ls
  refine W.seq (W.run (by simp only[am,evOp,simprocAttr,ls]<;>rfl) ?_)
  refine W.cond (t:=decide (1<(srcM nn es).length)) (by simp only[am,evOp,simprocAttr]; exact congrArg AV.bool (by simp only[decide_eq_decide]; omega)) (fun q2=>?_) fun q2=>?_
  ·have q2:1<(srcM nn es).length:=of_decide_eq_true q2
   rcases is with ⟨rfl,hz⟩|⟨sb,sn,hsb,rfl,hsg,hsl⟩
   ·exfalso
    have:=congrArg List.length hz
    rw[len_cI,List.length_nil] at this
    omega
   have hsn:sn=(srcM nn es).length:=by rw[len_cI] at hsl; omega
   have s2:slV h7 1 (.sl sb 0 sn sn) none (some (.int .i64 2)) (some (.int .i64 2))=some (.sl sb 0 2 2):=by
    have h1:bnd (.int .i64 2) sn=some 2:=bnd_nat (k:=.i64) (n:=2) (y:=sn) (by omega)
    have h2:bnd (.int .i64 2) 2=some 2:=bnd_nat (k:=.i64) (n:=2) (y:=2) (by omega)
    simp only[slV,hsg,if_true,bnds,h1,h2,Option.map_some]
    simp
   obtain⟨h8,w8,r8,hc,X8⟩:=hend h7 16 0 (.sl sb 0 2 2) f7 X7 ⟨fun h=>(by omega),fun h=>by
    exfalso
    have:=h.2.2.2.2
    rw[Int.toNat_natCast] at this
    omega⟩
   refine W.seq (W.run (by simp only[am,evOp,simprocAttr,slLA_eq,Option.map_none,s2,e2,w8]<;>rfl) ?_)
   exact W.ret ⟨_,(by simp only[rs,rf16,am,evOp,simprocAttr,e2,r8]<;>rfl),hc,X8⟩
  ·have q2:¬ 1<(srcM nn es).length:=of_decide_eq_false q2
   obtain⟨h8,w8,r8,hc,X8⟩:=hend h7 0 0 .nils f7 X7 ⟨fun _=>⟨hm,hloop,j3,hacy,by rw[Int.toNat_natCast]; omega⟩,fun _=>rfl⟩
   refine W.skip (W.seq (W.run (by simp only[am,evOp,simprocAttr,e2,w8]<;>rfl) ?_))
   exact W.ret ⟨_,(by simp only[rs,rf16,am,evOp,simprocAttr,e2,r8]<;>rfl),hc,X8⟩
end Go.Proofs.YticaalcbgikjjaaGreatDoor
