/- planar -/
import Derived.Test.YtpeemonpdlifbaaGreatVTAX
set_option linter.all false
namespace Go.Proofs.YtpeemonpdlifbaaGreat
open Go.Am
open Go.Pla (at_ Part Plc Hg Bfs Shut Kn left)
abbrev Pc:=List Nat×Int×Int
def cP (q:AV×Int×Int):List AV:=[q.1,.int .i64 q.2.1,.int .i64 q.2.2]
def PcL (h:AH) (lo:Nat) (v:AV) (ps:List Pc):Prop:=∃ qs:List (AV×Int×Int),IsSl h 3 lo v (qs.flatMap cP)∧qs.length=ps.length∧∀ (i:Nat) (q:AV×Int×Int) (p:Pc),qs[i]?=some q→ps[i]?=some p→IsSl h 1 lo q.1 (nC p.1)∧q.2=p.2∧∀ b n b' n',q.1=.sl b 0 n n→v=.sl b' 0 n' n'→b≠b'
theorem PcL.cong {h h':AH}{lo:Nat}{v:AV}{ps:List Pc} (hl:PcL h lo v ps) (hk:∀ c,lo≤c→c<h.next→h'.get c=h.get c):PcL h' lo v ps:=by
 obtain⟨qs,h1,h2,h3⟩:=hl
 exact⟨qs,h1.cong λb n e hb=>hk b hb (h1.lt e),h2,λi q p q1 q2=>⟨(h3 i q p q1 q2).1.cong λb n e hb=>hk b hb ((h3 i q p q1 q2).1.lt e),(h3 i q p q1 q2).2⟩⟩
theorem PcL.ext {h h':AH}{lo k:Nat}{v:AV}{ps:List Pc} (hl:PcL h lo v ps) (x:Ext k h h') (hk:h.next≤k):PcL h' lo v ps:=hl.cong λc _ hc=>x.gt c om
theorem Ab (qs:List (AV×Int×Int)):(qs.flatMap cP).length=qs.length*3:=gc (f:=cP) (e:=3) (λ_=>rfl) qs
theorem PcL.push {h:AH}{lo x:Nat}{a v:AV}{ps:List Pc}{xs:List Nat}{s e:Int} (hl:PcL h lo a ps) (hlo:lo≤h.next) (hv:IsSl h 1 lo v (nC xs)) (hx:h.get x=some (.cells [v,.int .i64 s,.int .i64 e] 3 false)) (hxl:lo≤x) (hxa:∀ b n,a=.sl b 0 n n→b≠x)
 (hva:∀ b n b' n',v=.sl b 0 n n→a=.sl b' 0 n' n'→b≠b') (hb:(ps.length+1)*40<be) :
 ∃ a' h',ja h 3 40 a (.sl x 0 1 1)=some (a',h')∧PcL h' lo a' (ps++[(xs,s,e)])∧Ext lo h h'∧h'.next=h.next+1∧(∀ c,c<h.next→(∀ b n,a=.sl b 0 n n→c≠b)→h'.get c=h.get c)∧(∀ b n,a'=.sl b 0 n n→h.next≤b)∧∀ c,h'.tyOf c=h.tyOf c:=by
 obtain⟨qs,h1,h2,h3⟩:=hl
 have hd:(qs.flatMap cP).length / 3=ps.length:=by rw[Ab,h2]; omega
 obtain⟨a',h',q1,q2,q3,q4,q5,q6,q7⟩:=h1.app (bytes:=40) hlo om hx hxl hxa rfl (by simp [hv.cells.2]; exact⟨rfl,rfl⟩) (by rw[hd]; exact hb) (by rw[hd]; unfold be at *; omega)
 have keep:∀ (w:AV) (cs:List AV),IsSl h 1 lo w cs→(∀ b n b' n',w=.sl b 0 n n→a=.sl b' 0 n' n'→b≠b')→IsSl h' 1 lo w cs∧∀ b n b' n',w=.sl b 0 n n→a'=.sl b' 0 n' n'→b≠b':=λw cs hw hn=>by
  refine⟨hw.cong λb n e _=>q6 b (hw.lt e) λb' n' e'=>hn b n b' n' e e',λb n b' n' e e'=>?_⟩
  have:=hw.lt e
  rw[q4] at e'
  cases e'
  omega
 refine⟨a',h',q1,⟨qs++[(v,s,e)],by rw[eH]; exact q2,by rw[aI,aI,h2]; rfl,λi w p e1 e2=>?_⟩,q3,q5,q6,(λb n e=>by rw[q4] at e; cases e; exact ae _),q7⟩
 by_cases hi:i<qs.length
 ·rw[bC hi] at e1
  rw[bC om] at e2
  obtain⟨k1,k2,k3⟩:=h3 i w p e1 e2
  obtain⟨k4,k5⟩:=keep w.1 _ k1 k3
  exact⟨k4,k2,k5⟩
 ·have hil:i<(qs++[(v,s,e)]).length:=(aK.1 e1).1
  rw[aI,aw,aP] at hil
  have hi':i=qs.length:=om
  subst hi'
  rw[aU om,eO] at e1
  rw[h2,aU om,eO] at e2
  cases e1
  cases e2
  obtain⟨k4,k5⟩:=keep v _ hv hva
  exact⟨k4,rfl,k5⟩
theorem IsSl.grow {h:AH}{lo:Nat}{v:AV}{l:List Nat} (hv:IsSl h 1 lo v (nC l)) (hlo:lo≤h.next) (hl:l.length<2 ^ 34) (x:Nat) :
 ∃ v' h',ja (h.new (.cells [.int .i64 (x:Nat)] 1 false)) 1 8 v (.sl h.next 0 1 1)=some (v',h')∧IsSl h' 1 lo v' (nC (l++[x]))∧Ext lo h h'∧h.next≤h'.next∧(∀ c,c<h.next→(∀ b n,v=.sl b 0 n n→c≠b)→h'.get c=h.get c)∧∀ b n,v'=.sl b 0 n n→h.next≤b:=by
 have x0:Ext h.next h (h.new (.cells [.int .i64 (x:Nat)] 1 false)):=Ly (ae _)
 have g0:(h.new (.cells [.int .i64 (x:Nat)] 1 false)).get h.next=some (.cells [.int .i64 (x:Nat)] 1 false):=by rw[AH.get_new,if_pos rfl]
 have n0:(h.new (.cells [.int .i64 (x:Nat)] 1 false)).next=h.next+1:=rfl
 generalize h.new (.cells [.int .i64 (x:Nat)] 1 false)=h1 at *
 have hd:(nC l).length / 1=l.length:=by rw[gT,kb]
 obtain⟨v',h',q1,q2,q3,q4,q5,q6,_⟩:=(hv.ext x0 (ae _)).app (bytes:=8) om om g0 hlo (λb n e=>by have:=hv.lt e; omega) rfl rfl (by rw[hd]; unfold be; omega) (by rw[hd]; unfold be; omega)
 exact⟨v',h',q1,by rw[rV]; exact q2,(x0.mono hlo).trans q3,om,λc hc hne=>by rw[q6 c om hne,x0.gt c hc],λb n e=>by rw[q4] at e; cases e; omega⟩
theorem IsQ.keep {h h':AH}{lo:Nat}{v:AV}{xs:List Nat} (q:IsQ h lo v xs) (hk:∀ b o n m,v=.sl b o n m→h'.get b=h.get b):IsQ h' lo v xs:=by
 obtain⟨h0,b,o,cs,h1,h2,h3⟩:=q
 exact⟨h0.cong hk,b,o,cs,h1,h2,by rw[hk b o _ _ h1]; exact h3⟩
theorem IsSl.keep {h h':AH}{lo:Nat}{v:AV}{cs:List AV} (q:IsSl h 1 lo v cs) (hk:∀ b n,v=.sl b 0 n n→h'.get b=h.get b):IsSl h' 1 lo v cs:=q.cong λb n e _=>hk b n e
theorem mP {l:List Nat}{z:Nat}:(l.map λn=>((n:Nat):Int)).any (((z:Nat):Int)==·)=decide (z∈l):=by
 rw[cW,jj,aA]
 constructor
 ·rintro⟨w,hw,h⟩
  obtain⟨a,ha,rfl⟩:=bu.1 hw
  have:((z:Nat):Int)=((a:Nat):Int):=by simpa using h
  have:z=a:=om
  rw[this]; exact ha
 ·intro h; exact⟨_,bu.2 ⟨z,h,rfl⟩,by simp⟩
def Sepq (qv atv:AV):Prop:=∀ b o n m b' n',qv=.sl b o n m→atv=.sl b' 0 n' n'→b≠b'
set_option maxHeartbeats 4000000 in
theorem CE {h:AH}{bb n db lo:Nat}{ev edv ov:AV}{E:List (Int×Int)}{Bl:List Nat}{la pa:Nat}{H V D:Nat→Bool}{fav:AV}{ps:List Pc} (u:Bu h bb n ev edv E Bl la pa H V fav) (hE:InG n E) (hL:∀ i,i<E.length→tlE E i≠hdE E i) (hn:n<2 ^ 30) (hm:E.length<2 ^ 30) (hB:∀ i∈Bl,i<E.length) (hBn:Bl.length<2 ^ 30)
 (hp:Go.Pla.Pln (grE n E hE hL) Bl) (hV:Plc (grE n E hE hL) Bl H V) {pt:Nat→Nat} (P:Part (grE n E hE hL) Bl H pt) (hS:Shut (grE n E hE hL) Bl V D) {x e0:Nat} (hx:x<n) (hvx:V x=false) (he0:e0∈Bl) (ha0:at_ (grE n E hE hL) e0 x=true)
 (gd:h.get db=some (.cells (bl n D) 1 false)) (hdb:db≠bb∧db≠la∧db≠pa) (oe:Off (λc=>c=db) ev) (oed:Off (λc=>c=db) edv) (hlo:lo≤h.next) (hdl:db<lo) (ho:PcL h lo ov ps) (hps:ps.length<2 ^ 30) :
 C prg 52 [.ptr bb 0,ov,.int .i64 (x:Nat),.sl db 0 n n] h λv h'=>Kp (λc=>c=db∨lo≤c) h h'∧∃ D',h'.get db=some (.cells (bl n D') 1 false)∧Shut (grE n E hE hL) Bl V D'∧(∀ z,D z=true→D' z=true)∧D' x=true∧(D x=true→∀ z,D' z=true→D z=true)∧((D x=true∧PcL h' lo v ps)∨(D x=false∧∃ at',PcL h' lo v (ps++[(at',((x:Nat):Int),0)])∧(∀ z,z∈at'↔Hg (grE n E hE hL) Bl H pt (pt e0) z)∧at'.Nodup∧∀ z,D' z=true→D z=false→∀ e∈Bl,at_ (grE n E hE hL) e z=true→pt e=pt e0)):=by
 have hBg:∀ i∈Bl,i<(grE n E hE hL).m:=hB
 have ix:fU ((x:Nat):Int) n=some x:=dU hx
 have rD:ar h db x 1=some [.bool (D x)]:=bq gd (lY hx)
 refine LB pf52 ?_
 refine aj (aB (Mi0) ?_)
 cases hD:D x with
 | true =>
   rw[hD] at rD
   refine aj (aj (aB (Mi3 ix @aO rD) ?_))
   refine cX (Z0) ?_
   refine aj (aB (Mi0) ?_)
   exact bG ⟨ov,(by simp only[rs,rf52,am,aF,simprocAttr]<;>rfl),Kp.refl,D,gd,hS,λ_ h=>h,hD,λ_ _ h=>h,.inl ⟨rfl,ho⟩⟩
 | false =>
   rw[hD] at rD
   refine aj (aj (aB (Mi3 ix @aO rD) ?_))
   refine dL (Z0) (bK ?_)
   obtain⟨h1,w1,x1,g1,n1⟩:=gm (h:=h) (z:=[.nils,.int .i64 0,.int .i64 0]) (cs:=[.nils,.int .i64 (x:Nat),.int .i64 0]) (e:=3) rfl
   refine aj (bT (λts h'=>h'=h1∧aY ts 0=.ptr bb 0∧aY ts 1=ov∧aY ts 2=.int .i64 (x:Nat)∧aY ts 3=.sl db 0 n n∧aY ts 9=.ptr h.next 0) (by simp only[am,aF,simprocAttr,bH,w1]) ?_)
   rintro ts h1' ⟨rfl,e0',e1,e2,e3,e9⟩
   have x2:Ext h1'.next h1' (h1'.new (.cells [.int .i64 (x:Nat)] 1 false)):=Ly (ae _)
   have g2:(h1'.new (.cells [.int .i64 (x:Nat)] 1 false)).get h1'.next=some (.cells [.int .i64 (x:Nat)] 1 false):=by rw[AH.get_new,if_pos rfl]
   refine aj (bT (λts h'=>h'=h1'.new (.cells [.int .i64 (x:Nat)] 1 false)∧aY ts 0=.ptr bb 0∧aY ts 1=ov∧aY ts 2=.int .i64 (x:Nat)∧aY ts 3=.sl db 0 n n∧aY ts 9=.ptr h.next 0∧aY ts 10=.sl h1'.next 0 1 1) (by simp only[am,aF,simprocAttr,e0',e1,e2,e3,e9]) ?_)
   rintro ts h2 ⟨rfl,e0',e1,e2,e3,e9,e10⟩
   have n2:(h1'.new (.cells [.int .i64 (x:Nat)] 1 false)).next=h.next+2:=by rw[AH.next_new,n1]
   generalize h1'.new (.cells [.int .i64 (x:Nat)] 1 false)=h2 at *
   have x12:Ext h.next h h2:=x1.trans (x2.mono om)
   have gd2:h2.get db=some (.cells (bl n D) 1 false):=by rw[x12.gt _ om]; exact gd
   have w3:=gv (v:=.bool true) gd2 (i:=x) (by rw[nX]; exact hx)
   rw[wG] at w3
   have u3:=LA (o:=.cells (bl n λj=>if j=x then true else D j) 1 false) gd2
   refine aj (bT (λts h'=>h'=h2.put db (.cells (bl n λj=>if j=x then true else D j) 1 false)∧aY ts 0=.ptr bb 0∧aY ts 1=ov∧aY ts 3=.sl db 0 n n∧aY ts 9=.ptr h.next 0∧aY ts 10=.sl h1'.next 0 1 1) (by simp only[am,aF,simprocAttr,e0',e1,e2,e3,e9,e10,ix,aO,w3]) ?_)
   rintro ts h3 ⟨rfl,e0',e1,e3,e9,e10⟩
   generalize h2.put db (.cells (bl n λj=>if j=x then true else D j) 1 false)=h3 at *
   have k3:Kp (λc=>c=db) h h3:=(x12.kp (S:=λc=>c=db) (ae _)).trans (u3.kp (S:=λc=>c=db) rfl) (λ_ _ q=>q)
   have n3:h3.next=h.next+2:=by rw[u3.nx,n2]
   have g3:h3.get h.next=some (.cells [.nils,.int .i64 (x:Nat),.int .i64 0] 3 false):=by rw[u3.ne om,x2.gt _ om]; exact g1
   have q3:IsQ h3 (h.next+1) (.sl h1'.next 0 1 1) [x]:=IsQ.one om (by rw[u3.ne om]; exact g2)
   have hst:=Bfs.start hV P hvx hD he0 ha0
   have hle:∀ z,D z=true→(if z=x then true else D z)=true:=λz h=>by split<;>simp [h]
   refine aj (cL (fW (λf ts h'=>∃ (Dn:Nat→Bool) (Q At:List Nat) (qv atv:AV),Bfs (grE n E hE hL) Bl H V pt D x e0 Dn Q At none∧f=left n Dn+Q.length∧f≤n+1∧Kp (λc=>c=db) h h'∧h'.get db=some (.cells (bl n Dn) 1 false)∧h'.get h.next=some (.cells [atv,.int .i64 (x:Nat),.int .i64 0] 3 false)∧IsSl h' 1 (h.next+1) atv (nC At)∧IsQ h' (h.next+1) qv Q∧Sepq qv atv∧h.next<h'.next∧(∀ z∈Q,z<n)∧aY ts 0=.ptr bb 0∧aY ts 1=ov∧aY ts 3=.sl db 0 n n∧aY ts 9=.ptr h.next 0∧aY ts 10=qv) ?_ (n:=left n (λz=>if z=x then true else D z)+1) ⟨_,[x],[],_,.nils,hst,rfl,?_,k3,u3.get,g3,.inl ⟨rfl,rfl⟩,q3,(λ_ _ _ _ _ _ _ e=>by cases e),om,(λz hz=>by
    have:z=x:=by simpa using hz
    rw[this]; exact hx),e0',e1,e3,e9,e10⟩))
   ·clear e0' e1 e2 e3 e9 e10
    rintro f ts h4 ⟨Dn,Q,At,qv,atv,hb,hf,hfn,k4,gd4,g4,i4,q4,sp4,hlt4,hQn,e0',e1,e3,e9,e10⟩
    have el:=q4.len
    cases Q with
    | nil =>
      refine aj (aj (aB (M2 e10 el) ?_))
      refine dL (by simp only[am,aF,simprocAttr,aP,cH,Int.lt_irrefl,decide_false]) ?_
      refine ft ⟨λ_=>?_,λe=>absurd rfl e⟩
      obtain⟨f1,f2⟩:=hb.fin hp hV P hS hD he0 ha0
      have ho4:PcL h4 lo ov ps:=ho.cong λc h1 h2=>k4.gt c h2 om
      have lt_ov:∀ b n,ov=.sl b 0 n n→b<h.next:=λb n e=>by
       obtain⟨_,h1,_⟩:=ho; exact h1.lt e
      have rp:ar h4 h.next 0 3=some [atv,.int .i64 (x:Nat),.int .i64 0]:=by rw[bg g4]; rfl
      have x5:Ext h4.next h4 (h4.new (.cells [atv,.int .i64 (x:Nat),.int .i64 0] 3 false)):=Ly (ae _)
      have g5:(h4.new (.cells [atv,.int .i64 (x:Nat),.int .i64 0] 3 false)).get h4.next=some (.cells [atv,.int .i64 (x:Nat),.int .i64 0] 3 false):=by rw[AH.get_new,if_pos rfl]
      have n4:=k4.nx
      obtain⟨v',h6,a6,p6,x6,n6,fr6,_,ty6⟩:=(ho4.ext x5 (ae _)).push (v:=atv) (x:=h4.next) (xs:=At) (s:=((x:Nat):Int)) (e:=0) (by have:=x5.nx; omega) ((i4.mono om).ext x5 (ae _)) g5 om (λb n e=>by have:=lt_ov b n e; omega) (λb n b' n' e e'=>by
       have h1:=lt_ov b' n' e'
       rcases i4 with ⟨h2,_⟩|⟨b2,n2,h2,h3,_⟩
       ·rw[h2] at e; cases e
       ·rw[h3] at e; cases e; omega) (by unfold be; omega)
      refine aj (bT (λts h'=>h'=h6∧aY ts 8=v') (by simp only[am,aF,simprocAttr,e1,e9,rp,i4.cells.1,i4.cells.2,a6]) ?_)
      rintro ts h' ⟨rfl,e8⟩
      have kk:Kp (λc=>c=db∨lo≤c) h h':=(k4.mono λ_ _ q=>.inl q).trans ((x5.kp (S:=λc=>c=db∨lo≤c) (ae _)).trans ⟨by rw[n6]; omega,λc _ hc=>x6.gt c (by
       have:¬ lo≤c:=λh=>hc (.inr h)
       omega),λc _=>ty6 c⟩ (λ_ _ q=>q)) (λ_ _ q=>q)
      refine bG ⟨v',(by simp only[rs,rf52,am,aF,simprocAttr,e8]<;>rfl),kk,Dn,?_,f2,hb.sub,hb.x,(λh=>by cases h),.inr ⟨rfl,At,p6,f1,hb.nd,λz h1 h2=>(hb.ins z h1 h2).2⟩⟩
      rw[x6.gt db om,x5.gt db om]; exact gd4
    | cons y Q =>
      have hpop:=hb.pop
      obtain⟨hyd,hyD⟩:=hb.que y (by simp)
      obtain⟨hyv,hyp⟩:=hb.ins y hyd hyD
      have hyn:y<n:=hQn y (by simp)
      rw[aw] at el
      refine aj (aj (aB (M2 e10 el) ?_))
      have dz:decide ((0:Int)<((Q.length+1:Nat):Int))=true:=by rw[aA]; omega
      refine cX (Z1 dz) (bK (cL ?_))
      obtain⟨qb,qo,ha,hrd⟩:=q4.head
      obtain⟨qv',hstq,q5⟩:=q4.tail
      have sp5:Sepq qv' atv:=λb o m c b' n' e e'=>by
       obtain⟨_,b1,o1,cs1,e1,_,g1⟩:=q4
       rw[e1] at hstq
       simp only[slV,g1,if_true] at hstq
       obtain⟨r,_,hr⟩:=aD.1 hstq
       rw[← hr] at e
       cases e
       exact sp4 _ _ _ _ b' n' e1 e'
      have u4:Bu h4 bb n ev edv E Bl la pa H V fav:=u.kp k4 (Ne.symm hdb.1) (Ne.symm hdb.2.1) (Ne.symm hdb.2.2) oe oed
      have rb:ar h4 bb 2 1=some [edv]:=bq u4.o rfl
      have lb:=u4.b.len
      rw[ak,ak] at lb
      refine aj (aB (M3 e10 ha hrd) ?_)
      refine aj (aB (by simp only[am,aF,simprocAttr,eF,bW,e10,hstq]<;>rfl) ?_)
      refine aj (aB (M3 e0' rb lb) ?_)
      refine fB (α:=(Nat→Bool)×List Nat×List Nat×AV×AV) (N:=Bl.length) (λ_ a=>[(39,edv),(0,.ptr bb 0),(1,ov),(3,.sl db 0 n n),(9,.ptr h.next 0),(10,a.2.2.2.1),(11,.int .i64 (y:Nat))])
       (λk a h'=>Bfs (grE n E hE hL) Bl H V pt D x e0 a.1 a.2.1 a.2.2.1 (some (y,Bl.drop k))∧left n a.1+a.2.1.length≤left n Dn+Q.length∧Kp (λc=>c=db) h h'∧h'.get db=some (.cells (bl n a.1) 1 false)∧h'.get h.next=some (.cells [a.2.2.2.2,.int .i64 (x:Nat),.int .i64 0] 3 false)∧IsSl h' 1 (h.next+1) a.2.2.2.2 (nC a.2.2.1)∧IsQ h' (h.next+1) a.2.2.2.1 a.2.1∧Sepq a.2.2.2.1 a.2.2.2.2∧h.next<h'.next∧∀ z∈a.2.1,z<n)
       (Dn,Q,At,qv',atv) (λ_ _=>rfl) om (H4 e0' e1 e3 e9) ⟨hpop,ae _,k4,gd4,g4,i4,q5,sp5,hlt4,λz hz=>hQn z (br _ hz)⟩ ?_ ?_
      ·clear e0' e1 e3 e9 e10 rb lb
       rintro k ⟨Dm,Qm,Am,qm,am'⟩ ts h5 hk ⟨j1,j2,j3,j4,j5,j6,j7,j8,j9,j10⟩ ⟨ei,en,f39,f0,f1,f3,f9,f10,f11,-⟩
       simp only at ei en f39 f0 f1 f3 f9 f10 f11 j1 j2 j3 j4 j5 j6 j7 j8 j10
       have hdk:Bl.drop k=Bl[k]::Bl.drop (k+1):=bX hk
       have hBk:Bl[k]∈Bl:=aR hk
       have hik:=hB _ hBk
       generalize hi:Bl[k]=i at *
       rw[hdk] at j1
       have u5:Bu h5 bb n ev edv E Bl la pa H V fav:=u.kp j3 (Ne.symm hdb.1) (Ne.symm hdb.2.1) (Ne.symm hdb.2.2) oe oed
       obtain⟨b5,o5,a5,r5,_⟩:=u5.b.at1 (i:=k) (y:=.int .i64 (i:Nat)) (by rw[aG,aG,ah hk,hi]; rfl)
       refine aj (aB (M4 f39 ei a5 r5) ?_)
       have hC:=lz u5 hE (show n<2 ^ 40 by omega) hik hyn
       have n3:=j3.nx
       cases hI:kB E i y with
       | false =>
         rw[hI] at hC
         refine aj (bO (bt 3 (M2 f0 f11) rfl (Z2 f0 f11) (M2 f0 f11) (hC) λv h6 hq=>?_))
         obtain⟨rfl,x6⟩:=hq
         refine bI (M0) ?_
         have lt_db:=AH.lt_of_get j4
         have hnx:=j1.next (Dn':=Dm) (Q':=Qm) (At':=Am) (λ_ h=>h) (λ_ h=>h) (λ_ h=>h) (λh=>by rw[iI hik,hI] at h; cases h) (λ_ h=>.inl h) (λ_ h=>.inl h) (λ_ h=>.inl h) j1.nd
         refine cL (aj (aB (by simp only[am,aF,simprocAttr,bQ]<;>rfl) ?_))
         refine cX (by simp only[am,aF,simprocAttr,bQ]) (bK ?_)
         exact⟨(Dm,Qm,Am,qm,am'),⟨hnx,j2,j3.trans (x6.kp (S:=λc=>c=db) (ae _)) (λ_ _ q=>q),by rw[x6.gt _ lt_db]; exact j4,by rw[x6.gt _ j9]; exact j5,j6.ext x6 (ae _),j7.ext x6 (ae _),j8,cA j9 x6.nx,j10⟩,by simp only[hl,am,aF,simprocAttr,ei,en,f39,f0,f1,f3,f9,f10,f11]⟩
       | true =>
         obtain⟨z,hz⟩:∃ z,z=(grE n E hE hL).oth i y:=⟨_,rfl⟩
         have hzo:mf E i y=((z:Nat):Int):=by rw[hz]; exact Fb hI
         have hat:at_ (grE n E hE hL) i y=true:=by rw[iI hik]; exact hI
         obtain⟨hatz,_⟩:=Go.Pla.oth_at (hBg i hBk) hat
         rw[← hz] at hatz
         have hzn:z<n:=Go.Pla.at_lt (hBg i hBk) hatz
         rw[hI,hzo] at hC
         refine aj (bO (bt 3 (M2 f0 f11) rfl (Z2 f0 f11) (M2 f0 f11) (hC) λv h6 hq=>?_))
         obtain⟨rfl,x6⟩:=hq
         refine bI (M0) ?_
         have lt_db:=AH.lt_of_get j4
         have k6:Kp (λc=>c=db) h h6:=j3.trans (x6.kp (S:=λc=>c=db) (ae _)) (λ_ _ q=>q)
         have gd6:h6.get db=some (.cells (bl n Dm) 1 false):=by rw[x6.gt _ lt_db]; exact j4
         have g6:h6.get h.next=some (.cells [am',.int .i64 (x:Nat),.int .i64 0] 3 false):=by rw[x6.gt _ j9]; exact j5
         have i6:=j6.ext x6 (ae _)
         have q6:=j7.ext x6 (ae _)
         have lt6:=cA j9 x6.nx
         have u6:Bu h6 bb n ev edv E Bl la pa H V fav:=u.kp k6 (Ne.symm hdb.1) (Ne.symm hdb.2.1) (Ne.symm hdb.2.2) oe oed
         refine cL (aj (aB (M1 @cr) ?_))
         refine dL (Z1 @cr) ?_
         have r4:ar h6 bb 4 1=some [.sl pa 0 n n]:=bq u6.o rfl
         have iz:fU ((z:Nat):Int) n=some z:=dU hzn
         have rv:ar h6 pa z 1=some [.bool (V z)]:=bq u6.v (lY hzn)
         have Qlen:Qm.length<2 ^ 34:=by rw[aw] at hf; omega
         cases hvz:V z with
         | true =>
           rw[hvz] at rv
           refine aj (aB (M5 f0 r4 iz @aO rv) ?_)
           refine cX (Z0) ?_
           have rp0:ar h6 h.next 0 1=some [am']:=bq g6 rfl
           have hAl:Am.length<2 ^ 34:=by
            have:=Go.Pla.nd_lt j1.nd (n:=n) λw hw=>by
             obtain⟨e,he,_,_,ha,_⟩:=j1.hgs w hw
             exact Go.Pla.at_lt (hBg e he) ha
            omega
           have hct:=sG (y:=((z:Nat):Int)) (eu i6) (by rw[ak]; omega)
           rw[mP] at hct
           refine aj (bO (bt 3 (M2 f9 rp0) rfl (Z2 f9 rp0) (M2 f9 rp0) (hct) λv h7 hq=>?_))
           obtain⟨rfl,x7⟩:=hq
           have lt_db6:=AH.lt_of_get gd6
           have k7:Kp (λc=>c=db) h h7:=k6.trans (x7.kp (S:=λc=>c=db) (ae _)) (λ_ _ q=>q)
           have gd7:h7.get db=some (.cells (bl n Dm) 1 false):=by rw[x7.gt _ lt_db6]; exact gd6
           have g7:h7.get h.next=some (.cells [am',.int .i64 (x:Nat),.int .i64 0] 3 false):=by rw[x7.gt _ lt6]; exact g6
           have i7:=i6.ext x7 (ae _)
           have q7:=q6.ext x7 (ae _)
           have lt7:=cA lt6 x7.nx
           by_cases hin:z∈Am
           ·rw[aL hin]
            refine bI (M1 @cr) ?_
            refine dL (Z1 @cr) (bK ?_)
            have hnx:=j1.next (Dn':=Dm) (Q':=Qm) (At':=Am) (λ_ h=>h) (λ_ h=>h) (λ_ h=>h) (λ_=>by rw[← hz]; unfold Kn; rw[if_pos hvz]; exact hin) (λ_ h=>.inl h) (λ_ h=>.inl h) (λ_ h=>.inl h) j1.nd
            exact⟨(Dm,Qm,Am,qm,am'),⟨hnx,j2,k7,gd7,g7,i7,q7,j8,lt7,j10⟩,by simp only[hl,am,aF,simprocAttr,ei,en,f39,f0,f1,f3,f9,f10,f11]⟩
           ·rw[aJ hin]
            refine bI (by simp only[am,aF,simprocAttr,bQ]<;>rfl) ?_
            refine cX (by simp only[am,aF,simprocAttr,bQ]) ?_
            have rp1:ar h7 h.next 0 1=some [am']:=bq g7 rfl
            obtain⟨av,h8,a8,i8,x8,n8,fr8,bd8⟩:=IsSl.grow i7 om hAl z
            have g8:h8.get h.next=some (.cells [am',.int .i64 (x:Nat),.int .i64 0] 3 false):=by rw[x8.gt _ om]; exact g7
            have w9:bZ h8 h.next 0 [av]=some (h8.put h.next (.cells [av,.int .i64 (x:Nat),.int .i64 0] 3 false)):=gv (v:=av) g8 (i:=0) (by simp)
            have u9:=LA (o:=.cells ([av,AV.int .i64 (x:Nat),AV.int .i64 0]) 3 false) g8
            refine bT (λts h'=>h'=h8.put h.next (.cells ([av,AV.int .i64 (x:Nat),AV.int .i64 0]) 3 false)∧Held [(41,.int .i64 (k:Nat)),(40,.int .i64 (Bl.length:Nat)),(39,edv),(0,.ptr bb 0),(1,ov),(3,.sl db 0 n n),(9,.ptr h.next 0),(10,qm),(11,.int .i64 (y:Nat))] ts) (by simp only[am,aF,simprocAttr,ei,en,f39,f0,f1,f3,f9,f10,f11,rp1,a8,i8.cells.1,i8.cells.2,w9,cz,cK]) ?_
            rintro ts h9 ⟨rfl,hh⟩
            generalize h8.put h.next (.cells ([av,AV.int .i64 (x:Nat),AV.int .i64 0]) 3 false)=h9 at *
            have hfr:∀ e∈Bl,at_ (grE n E hE hL) e y=true→H e=false:=hV.fresh hyv
            obtain⟨m,hm',hma,hmH⟩:=(hV z).1 hvz
            have hnx:=j1.next (Dn':=Dm) (Q':=Qm) (At':=Am++[z]) (λ_ h=>h) (λ_ h=>aZ _ h) (λ_ h=>h) (λ_=>by rw[← hz]; unfold Kn; rw[if_pos hvz]; simp) (λ_ h=>.inl h) (λ_ h=>.inl h) (λw hw=>by
             rcases aC.1 hw with h|h
             ·exact .inl h
             ·have:w=z:=by simpa using h
              subst this
              exact .inr ⟨i,hBk,hfr i hBk hat,hyp i hBk hat,hatz,m,hm',hma,hmH⟩) (by
             rw[aN]
             refine⟨j1.nd,by simp,λa ha b hb=>?_⟩
             have:b=z:=by simpa using hb
             subst this; exact λe=>hin (e▸ha))
            have n7:=x7.nx
            have lt_db7:=AH.lt_of_get gd7
            refine⟨(Dm,Qm,Am++[z],qm,av),⟨hnx,j2,?_,?_,u9.get,?_,?_,?_,?_,j10⟩,hh⟩
            ·exact⟨by have:=k7.nx; have:=x8.nx; rw[u9.nx]; omega,λc hc hs=>by rw[u9.ne om,x8.gt c om,k7.gt c hc hs],λc hc=>by rw[u9.ty c,x8.ty c om,k7.ty c hc]⟩
            ·rw[u9.ne om,x8.gt _ om]; exact gd7
            ·exact i8.cong λb m e hb=>u9.ne om
            ·exact (q7.keep λb o m m' e=>by
              have:h9.get b=h7.get b:=by
               obtain⟨_,b1,o1,cs1,e1,hb1,gg⟩:=q7
               rw[e1] at e; cases e
               rw[u9.ne om,fr8 _ (AH.lt_of_get gg) λb' n' e'=>j8 _ _ _ _ b' n' e1 e']
              exact this)
            ·intro b o m m' b' n' e e'
             have h1:=bd8 b' n' e'
             obtain⟨_,b1,o1,cs1,e1,hb1,gg⟩:=q7
             rw[e1] at e; cases e
             have:=AH.lt_of_get gg
             omega
            ·rw[u9.nx]; omega
         | false =>
           rw[hvz] at rv
           refine aj (aB (M5 f0 r4 iz @aO rv) ?_)
           refine dL (Z0) ?_
           have rd:ar h6 db z 1=some [.bool (Dm z)]:=bq gd6 (lY hzn)
           cases hdz:Dm z with
           | true =>
             rw[hdz] at rd
             refine aj (aB (M5 f3 iz @aO rd @cr) ?_)
             refine dL (Z1 @cr) (bK ?_)
             have hnx:=j1.next (Dn':=Dm) (Q':=Qm) (At':=Am) (λ_ h=>h) (λ_ h=>h) (λ_ h=>h) (λ_=>by rw[← hz]; unfold Kn; rw[if_neg (by rw[hvz]; simp)]; exact hdz) (λ_ h=>.inl h) (λ_ h=>.inl h) (λ_ h=>.inl h) j1.nd
             exact⟨(Dm,Qm,Am,qm,am'),⟨hnx,j2,k6,gd6,g6,i6,q6,j8,lt6,j10⟩,by simp only[hl,am,aF,simprocAttr,ei,en,f39,f0,f1,f3,f9,f10,f11]⟩
           | false =>
             rw[hdz] at rd
             refine aj (aB (by simp only[am,aF,simprocAttr,f3,iz,aO,rd,bQ]<;>rfl) ?_)
             refine cX (by simp only[am,aF,simprocAttr,bQ]) ?_
             have w7:=gv (v:=.bool true) gd6 (i:=z) (by rw[nX]; exact hzn)
             rw[wG] at w7
             have u7:=LA (o:=.cells (bl n λj=>if j=z then true else Dm j) 1 false) gd6
             refine aj (bT (λts h'=>h'=h6.put db (.cells (bl n λj=>if j=z then true else Dm j) 1 false)∧Held [(41,.int .i64 (k:Nat)),(40,.int .i64 (Bl.length:Nat)),(39,edv),(0,.ptr bb 0),(1,ov),(3,.sl db 0 n n),(9,.ptr h.next 0),(10,qm),(11,.int .i64 (y:Nat)),(14,.int .i64 (z:Nat))] ts) (by simp only[am,aF,simprocAttr,ei,en,f39,f0,f1,f3,f9,f10,f11,iz,aO,w7,cz,cK]) ?_)
             rintro ts h7 ⟨rfl,ei,en,f39,f0,f1,f3,f9,f10,f11,f14,-⟩
             generalize h6.put db (.cells (bl n λj=>if j=z then true else Dm j) 1 false)=h7 at *
             have n7:=u7.nx
             have q7:=q6.cong λc hc _=>u7.ne (show c≠db by omega)
             have i7:=i6.cong λb m e hb=>u7.ne (show b≠db by omega)
             obtain⟨qz,h8,a8,q8,x8,n8,fr8,bd8⟩:=q7.push om Qlen z
             refine bT (λts h'=>h'=h8∧Held [(41,.int .i64 (k:Nat)),(40,.int .i64 (Bl.length:Nat)),(39,edv),(0,.ptr bb 0),(1,ov),(3,.sl db 0 n n),(9,.ptr h.next 0),(10,qz),(11,.int .i64 (y:Nat))] ts) (by simp only[am,aF,simprocAttr,ei,en,f39,f0,f1,f3,f9,f10,f11,f14,a8,cz,cK]) ?_
             rintro ts h8' ⟨rfl,hh⟩
             have hDz:D z=false:=by
              cases h:D z
              ·rfl
              ·rw[j1.sub z h] at hdz; cases hdz
             have hfr:∀ e∈Bl,at_ (grE n E hE hL) e z=true→H e=false:=hV.fresh hvz
             have hnx:=j1.next (Dn':=λj=>if j=z then true else Dm j) (Q':=Qm++[z]) (At':=Am) (λw h=>by split; rfl; exact h) (λ_ h=>h) (λ_ h=>aZ _ h) (λ_=>by rw[← hz]; unfold Kn; rw[if_neg (by rw[hvz]; simp)]; simp) (λw hw=>by
              rcases aC.1 hw with h|h
              ·exact .inl h
              ·have:w=z:=by simpa using h
               subst this; exact .inr ⟨by simp,hDz⟩) (λw hw=>by
              by_cases q:w=z
              ·subst q
               exact .inr ⟨by simp,λ_=>⟨hvz,λe he ha=>(P.same w hfr e he i hBk ha hatz).trans (hyp i hBk hat)⟩⟩
              ·rw[if_neg q] at hw
               exact .inl hw) (λ_ h=>.inl h) j1.nd
             have hls:=Go.Pla.left_step hzn hdz
             refine⟨((λj=>if j=z then true else Dm j),Qm++[z],Am,qz,am'),⟨hnx,by
              have e:(Qm++[z]).length=Qm.length+1:=by simp
              show left n (λj=>if j=z then true else Dm j)+(Qm++[z]).length≤left n Dn+Q.length
              omega,?_,?_,?_,?_,q8,?_,om,λw hw=>?_⟩,hh⟩
             ·exact⟨by have:=k6.nx; have:=x8.nx; omega,λc hc hs=>by rw[x8.gt c om,u7.ne hs,k6.gt c hc hs],λc hc=>by rw[x8.ty c om,u7.ty c,k6.ty c hc]⟩
             ·rw[x8.gt _ om]; exact u7.get
             ·rw[x8.gt _ om,u7.ne om]; exact g6
             ·refine IsSl.keep i7 λb m e=>fr8 b (i7.lt e) λb' o' n' m' e'=>?_
              exact λq=>j8 b' o' n' m' b m e' e q.symm
             ·intro b o m m' b' n' e e'
              have h1:=bd8 b o m m' e
              have:=i7.lt e'
              omega
             ·rcases aC.1 hw with h|h
              ·exact j10 w h
              ·have:w=z:=by simpa using h
               rw[this]; exact hzn
      ·rintro⟨Dm,Qm,Am,qm,am'⟩ ts h5 ⟨j1,j2,j3,j4,j5,j6,j7,j8,j9,j10⟩ ⟨f39,f0,f1,f3,f9,f10,f11,-⟩
       simp only at f39 f0 f1 f3 f9 f10 f11 j1 j2 j3 j4 j5 j6 j7 j8 j10
       rw[dm (ae _)] at j1
       rw[aw] at hf
       exact⟨_,om,Dm,Qm,Am,qm,am',j1.end,rfl,om,j3,j4,j5,j6,j7,j8,j9,j10,f0,f1,f3,f9,f10⟩
   ·have:left n (λz=>if z=x then true else D z)≤n:=by
     unfold left
     have:=ep (λz=>!(if z=x then true else D z)) (List.range n)
     rw[bF] at this; exact this
    omega
end Go.Proofs.YtpeemonpdlifbaaGreat
