/-
  Drawn orders fixed beforehand; weakest preconditions over the clean machine.
-/
import Derived.Test.YtpeemonpdlifbaaQAmDraw
set_option linter.all false
namespace Go.Am
def clsAt (ops:List ROper) (i:Nat):Nat:=match ops[i]? with
 | some o=>o.op.cls
 | none=>0
def pick1 (es:List (List Nat)) (done:List Nat) (f:Nat→Bool):List Nat→Option Nat
 | []=>none
 | i::r=>if f i&&(es.getD i []).all (done.contains ·) then some i else pick1 es done f r
def orElse (x y:Option Nat):Option Nat:=match x with
 | some i=>some i
 | none=>y
def sched (ops:List ROper) (es bef:List (List Nat)):Nat→List Nat→List Nat→List Nat
 | 0,done,_=>done
 | n+1,done,rest =>
   match orElse (pick1 es done (fun i=>clsAt ops i<2) rest) (orElse (pick1 es done (fun i=>clsAt ops i==3) rest)
    (orElse (pick1 es done (fun i=>match rest.find? (fun k=>clsAt ops k==3) with|some k=>(bef.getD k []).contains i|none=>false) rest) (pick1 es done (fun _=>true) rest))) with
   | some i=>sched ops es bef n (done++[i]) (rest.filter (· != i))
   | none=>done
def clOf (ops:List ROper) (bef:List (List Nat)) (l0:List Nat):List (List Nat) :=
 (List.range ops.length).map fun x=>if clsAt ops x==3 then (l0.takeWhile (· != x)).filter (fun y=>clsAt ops y==1&&!((bef.getD x []).contains y)) else []
def tryK (kn:Nat) (ops:List ROper) (es cl:List (List Nat)) (l0:List Nat):Option (List ROper):=if okK kn ops cl es l0 then some (l0.map (gK ops cl)) else none
def fixD (kn:Nat) (ops:List ROper) (es:List (List Nat)):Option (List ROper) :=
 match tryK kn ops es (clOf ops (befs [] es) (List.range ops.length)) (List.range ops.length) with
 | some l=>some l
 | none=>tryK kn ops es (clOf ops (befs [] es) (sched ops es (befs [] es) ops.length [] (List.range ops.length))) (sched ops es (befs [] es) ops.length [] (List.range ops.length))
def regOf (kn:Nat) (l:List ROper):RC:=if kn=0 then .reg l else .regK kn l
def detC:RC→Option RC
 | .regD kn ops es=>match fixD kn ops es with
   | some l=>some (regOf kn l)
   | none=>none
 | .seq a b=>match detC a,detC b with
   | some a,some b=>some (.seq a b)
   | _,_=>none
 | .cond c a b=>match detC a,detC b with
   | some a,some b=>some (.cond c a b)
   | _,_=>none
 | .block id c=>(detC c).map (.block id)
 | .loop c=>(detC c).map .loop
 | .rangeF fn p f ps a b=>match detC a,detC b with
   | some a,some b=>some (.rangeF fn p f ps a b)
   | _,_=>none
 | .reg ops=>some (.reg ops)
 | .regK kn ops=>some (.regK kn ops)
 | .skip=>some .skip
 | .exit id=>some (.exit id)
 | .ret=>some .ret
 | .bad=>some .bad
theorem tryK_spec {kn:Nat}{ops:List ROper}{es cl:List (List Nat)}{l0:List Nat}{l:List ROper} (h:tryK kn ops es cl l0=some l):okK kn ops cl es l0=true∧l=l0.map (gK ops cl):=by
 unfold tryK at h
 split at h
 ·rename_i hk
  exact⟨hk,(Option.some.inj h).symm⟩
 ·cases h
theorem fixD_spec {kn:Nat}{ops:List ROper}{es:List (List Nat)}{l:List ROper} (h:fixD kn ops es=some l):∃ cl l0,okK kn ops cl es l0=true∧l=l0.map (gK ops cl):=by
 unfold fixD at h
 split at h
 ·rename_i hk
  simp only[Option.some.injEq] at h
  subst h
  exact⟨_,_,tryK_spec hk⟩
 ·exact⟨_,_,tryK_spec h⟩
theorem regOf_cases (kn:Nat) (l:List ROper):(kn=0∧regOf kn l=.reg l)∨regOf kn l=.regK kn l:=by
 unfold regOf
 split
 ·exact .inl ⟨‹_›,rfl⟩
 ·exact .inr rfl
def detF (f:RF):Option RF:=(detC f.body).map fun b=>{ f with body:=b}
def Det (P P':RP):Prop:=∀ f rf',P' f=some rf'→∃ rf,P f=some rf∧detF rf=some rf'
def DetTo (P:RP):Task→Tm→AH→(Out→Prop)→Prop
 | .code c',ts,h,r=>∀ c,detC c=some c'→BS P (.code c) ts h r
 | t,ts,h,r=>BS P t ts h r
theorem detC_inv {c c':RC} (h:detC c=some c'):(∃ kn ops es l,c=.regD kn ops es∧fixD kn ops es=some l∧c'=regOf kn l)∨(∃ a b a' b',c=.seq a b∧c'=.seq a' b'∧detC a=some a'∧detC b=some b') ∨
 (∃ v a b a' b',c=.cond v a b∧c'=.cond v a' b'∧detC a=some a'∧detC b=some b')∨(∃ id a a',c=.block id a∧c'=.block id a'∧detC a=some a')∨(∃ a a',c=.loop a∧c'=.loop a'∧detC a=some a') ∨
 (∃ fn p f ps a b a' b',c=.rangeF fn p f ps a b∧c'=.rangeF fn p f ps a' b'∧detC a=some a'∧detC b=some b')∨(c=c'∧(match c with|.reg _|.regK _ _|.skip|.exit _|.ret|.bad=>true|_=>false)=true):=by
 cases c<;>simp only[detC] at h
 case regD kn o es =>
  split at h
  ·rename_i l hl
   exact .inl ⟨_,_,_,l,rfl,hl,(Option.some.inj h).symm⟩
  ·cases h
 case seq x y =>
  split at h
  ·rename_i h1 h2
   exact .inr (.inl ⟨_,_,_,_,rfl,(Option.some.inj h).symm,h1,h2⟩)
  ·cases h
 case cond w x y =>
  split at h
  ·rename_i h1 h2
   exact .inr (.inr (.inl ⟨_,_,_,_,_,rfl,(Option.some.inj h).symm,h1,h2⟩))
  ·cases h
 case block i x =>
  rw[Option.map_eq_some_iff] at h
  obtain⟨y,h1,h2⟩:=h
  exact .inr (.inr (.inr (.inl ⟨_,_,_,rfl,h2.symm,h1⟩)))
 case loop x =>
  rw[Option.map_eq_some_iff] at h
  obtain⟨y,h1,h2⟩:=h
  exact .inr (.inr (.inr (.inr (.inl ⟨_,_,rfl,h2.symm,h1⟩))))
 case rangeF f0 p0 g0 q0 x y =>
  split at h
  ·rename_i h1 h2
   exact .inr (.inr (.inr (.inr (.inr (.inl ⟨_,_,_,_,_,_,_,_,rfl,(Option.some.inj h).symm,h1,h2⟩)))))
  ·cases h
 all_goals exact .inr (.inr (.inr (.inr (.inr (.inr ⟨Option.some.inj h,rfl⟩)))))
theorem regOf_ne {kn:Nat}{l:List ROper}{c:RC} (h:c=regOf kn l):(∃ ops,c=.reg ops)∨∃ k ops,c=.regK k ops:=by
 rcases regOf_cases kn l with ⟨_,e⟩|e
 ·exact .inl ⟨_,h.trans e⟩
 ·exact .inr ⟨_,_,h.trans e⟩
theorem detC_reg {c:RC}{ops:List ROper} (h:detC c=some (.reg ops)):c=.reg ops∨∃ ops0 es cl l0,c=.regD 0 ops0 es∧ops=l0.map (gK ops0 cl)∧okK 0 ops0 cl es l0=true:=by
 rcases detC_inv h with ⟨kn,o,es,l,rfl,h1,h2⟩|⟨_,_,_,_,_,e,_⟩|⟨_,_,_,_,_,_,e,_⟩|⟨_,_,_,_,e,_⟩|⟨_,_,_,e,_⟩|⟨_,_,_,_,_,_,_,_,_,e,_⟩|⟨rfl,_⟩
 ·rcases regOf_cases kn l with ⟨rfl,e⟩|e
  ·rw[e] at h2
   simp only[RC.reg.injEq] at h2
   subst h2
   obtain⟨cl,l0,k1,k2⟩:=fixD_spec h1
   exact .inr ⟨_,_,_,_,rfl,k2,k1⟩
  ·rw[e] at h2; cases h2
 all_goals first|(cases e; done)|exact .inl rfl
theorem detC_regK {c:RC}{kn:Nat}{ops:List ROper} (h:detC c=some (.regK kn ops)):c=.regK kn ops∨∃ ops0 es cl l0,c=.regD kn ops0 es∧ops=l0.map (gK ops0 cl)∧okK kn ops0 cl es l0=true:=by
 rcases detC_inv h with ⟨kn',o,es,l,rfl,h1,h2⟩|⟨_,_,_,_,_,e,_⟩|⟨_,_,_,_,_,_,e,_⟩|⟨_,_,_,_,e,_⟩|⟨_,_,_,e,_⟩|⟨_,_,_,_,_,_,_,_,_,e,_⟩|⟨rfl,_⟩
 ·rcases regOf_cases kn' l with ⟨rfl,e⟩|e
  ·rw[e] at h2; cases h2
  ·rw[e] at h2
   simp only[RC.regK.injEq] at h2
   obtain⟨rfl,rfl⟩:=h2
   obtain⟨cl,l0,k1,k2⟩:=fixD_spec h1
   exact .inr ⟨_,_,_,_,rfl,k2,k1⟩
 all_goals first|(cases e; done)|exact .inl rfl
theorem detC_regD {c:RC}{kn:Nat}{ops:List ROper}{es:List (List Nat)} (h:detC c=some (.regD kn ops es)):False:=by
 rcases detC_inv h with ⟨_,o,_,l,rfl,h1,h2⟩|⟨_,_,_,_,_,e,_⟩|⟨_,_,_,_,_,_,e,_⟩|⟨_,_,_,_,e,_⟩|⟨_,_,_,e,_⟩|⟨_,_,_,_,_,_,_,_,_,e,_⟩|⟨rfl,e⟩
 ·rcases regOf_ne h2 with ⟨_,e⟩|⟨_,_,e⟩<;>cases e
 all_goals cases e
theorem detC_seq {c a b:RC} (h:detC c=some (.seq a b)):∃ x y,c=.seq x y∧detC x=some a∧detC y=some b:=by
 rcases detC_inv h with ⟨_,o,_,l,rfl,h1,h2⟩|⟨_,_,_,_,rfl,e,k1,k2⟩|⟨_,_,_,_,_,_,e,_⟩|⟨_,_,_,_,e,_⟩|⟨_,_,_,e,_⟩|⟨_,_,_,_,_,_,_,_,_,e,_⟩|⟨rfl,e⟩
 ·rcases regOf_ne h2 with ⟨_,e⟩|⟨_,_,e⟩<;>cases e
 ·cases e; exact⟨_,_,rfl,k1,k2⟩
 all_goals cases e
theorem detC_cond {c a b:RC}{v:RO} (h:detC c=some (.cond v a b)):∃ x y,c=.cond v x y∧detC x=some a∧detC y=some b:=by
 rcases detC_inv h with ⟨_,o,_,l,rfl,h1,h2⟩|⟨_,_,_,_,_,e,_⟩|⟨_,_,_,_,_,rfl,e,k1,k2⟩|⟨_,_,_,_,e,_⟩|⟨_,_,_,e,_⟩|⟨_,_,_,_,_,_,_,_,_,e,_⟩|⟨rfl,e⟩
 ·rcases regOf_ne h2 with ⟨_,e⟩|⟨_,_,e⟩<;>cases e
 ·cases e
 ·cases e; exact⟨_,_,rfl,k1,k2⟩
 all_goals cases e
theorem detC_block {c a:RC}{id:Nat} (h:detC c=some (.block id a)):∃ x,c=.block id x∧detC x=some a:=by
 rcases detC_inv h with ⟨_,o,_,l,rfl,h1,h2⟩|⟨_,_,_,_,_,e,_⟩|⟨_,_,_,_,_,_,e,_⟩|⟨_,_,_,rfl,e,k1⟩|⟨_,_,_,e,_⟩|⟨_,_,_,_,_,_,_,_,_,e,_⟩|⟨rfl,e⟩
 ·rcases regOf_ne h2 with ⟨_,e⟩|⟨_,_,e⟩<;>cases e
 ·cases e
 ·cases e
 ·cases e; exact⟨_,rfl,k1⟩
 all_goals cases e
theorem detC_loop {c a:RC} (h:detC c=some (.loop a)):∃ x,c=.loop x∧detC x=some a:=by
 rcases detC_inv h with ⟨_,o,_,l,rfl,h1,h2⟩|⟨_,_,_,_,_,e,_⟩|⟨_,_,_,_,_,_,e,_⟩|⟨_,_,_,_,e,_⟩|⟨_,_,rfl,e,k1⟩|⟨_,_,_,_,_,_,_,_,_,e,_⟩|⟨rfl,e⟩
 ·rcases regOf_ne h2 with ⟨_,e⟩|⟨_,_,e⟩<;>cases e
 ·cases e
 ·cases e
 ·cases e
 ·cases e; exact⟨_,rfl,k1⟩
 all_goals cases e
theorem detC_range {c a b:RC}{fn:FuncId}{p:List Bool}{f:RO}{ps:List Nat} (h:detC c=some (.rangeF fn p f ps a b)):∃ x y,c=.rangeF fn p f ps x y∧detC x=some a∧detC y=some b:=by
 rcases detC_inv h with ⟨_,o,_,l,rfl,h1,h2⟩|⟨_,_,_,_,_,e,_⟩|⟨_,_,_,_,_,_,e,_⟩|⟨_,_,_,_,e,_⟩|⟨_,_,_,e,_⟩|⟨_,_,_,_,_,_,_,_,rfl,e,k1,k2⟩|⟨rfl,e⟩
 ·rcases regOf_ne h2 with ⟨_,e⟩|⟨_,_,e⟩<;>cases e
 ·cases e
 ·cases e
 ·cases e
 ·cases e
 ·cases e; exact⟨_,_,rfl,k1,k2⟩
 all_goals cases e
theorem detC_end {c a:RC} (h:detC c=some a) (ha:a=.skip∨a=.ret∨∃ i,a=.exit i):c=a:=by
 rcases detC_inv h with ⟨_,o,_,l,rfl,h1,h2⟩|⟨_,_,_,_,_,e,_⟩|⟨_,_,_,_,_,_,e,_⟩|⟨_,_,_,_,e,_⟩|⟨_,_,_,e,_⟩|⟨_,_,_,_,_,_,_,_,_,e,_⟩|⟨e,_⟩
 ·rcases regOf_ne h2 with ⟨_,e⟩|⟨_,_,e⟩<;>(rw[e] at ha; simp at ha)
 all_goals first|exact e|(rw[e] at ha; simp at ha)
theorem detC_node:∀ (p:List Bool) {c c' d':RC},detC c=some c'→c'.node p=some d'→∃ d,c.node p=some d∧detC d=some d'
 | [],c,c',d',h,hd=>by
   simp only[RC.node,Option.some.injEq] at hd
   subst hd
   exact⟨c,by simp [RC.node],h⟩
 | b::p,c,c',d',h,hd=>by
   cases c' with
   | seq x y =>
     obtain⟨x',y',rfl,h1,h2⟩:=detC_seq h
     cases b
     ·obtain⟨d,e1,e2⟩:=detC_node p h1 (by simpa [RC.node] using hd)
      exact⟨d,by simpa [RC.node] using e1,e2⟩
     ·obtain⟨d,e1,e2⟩:=detC_node p h2 (by simpa [RC.node] using hd)
      exact⟨d,by simpa [RC.node] using e1,e2⟩
   | cond v x y =>
     obtain⟨x',y',rfl,h1,h2⟩:=detC_cond h
     cases b
     ·obtain⟨d,e1,e2⟩:=detC_node p h1 (by simpa [RC.node] using hd)
      exact⟨d,by simpa [RC.node] using e1,e2⟩
     ·obtain⟨d,e1,e2⟩:=detC_node p h2 (by simpa [RC.node] using hd)
      exact⟨d,by simpa [RC.node] using e1,e2⟩
   | block i x =>
     obtain⟨x',rfl,h1⟩:=detC_block h
     cases b
     ·obtain⟨d,e1,e2⟩:=detC_node p h1 (by simpa [RC.node] using hd)
      exact⟨d,by simpa [RC.node] using e1,e2⟩
     ·simp [RC.node] at hd
   | loop x =>
     obtain⟨x',rfl,h1⟩:=detC_loop h
     cases b
     ·obtain⟨d,e1,e2⟩:=detC_node p h1 (by simpa [RC.node] using hd)
      exact⟨d,by simpa [RC.node] using e1,e2⟩
     ·simp [RC.node] at hd
   | _=>simp [RC.node] at hd
theorem det_mark {P Q:RP} (hd:Det P Q) {f:FuncId}{k:Nat} (a:Q f=some ⟨[],.exit k⟩):P f=some ⟨[],.exit k⟩:=by
 obtain⟨rf,h1,h2⟩:=hd _ _ a
 unfold detF at h2
 rw[Option.map_eq_some_iff] at h2
 obtain⟨x,h3,h4⟩:=h2
 have e1:x=.exit k:=congrArg RF.body h4
 subst e1
 have e2:=detC_end h3 (.inr (.inr ⟨_,rfl⟩))
 rw[h1,← h4,← e2]
theorem det_bs {P P':RP} (hd:Det P P') {t:Task}{ts:Tm}{h:AH}{r:Out→Prop} (hb:BS P' t ts h r):DetTo P t ts h r:=by
 induction hb with
 | nil a=>exact .nil a
 | skipped a _ ih=>exact .skipped a ih
 | op a b c _ ih=>exact .op a b c ih
 | any a b c k _ ih=>exact .any a b c k ih
 | call a b _ k _ i1 i2=>exact .call a b i1 k i2
 | callv a b c _ k _ i1 i2=>exact .callv a b c i1 k i2
 | yield a b c _ k _ i1 i2=>exact .yield a b c i1 k i2
 | skip a=>intro c hc; rw[detC_end hc (.inl rfl)]; exact .skip a
 | reg hb ih =>
   intro c hc
   rcases detC_reg hc with rfl|⟨o,es,cl,l0,rfl,rfl,hk⟩
   ·exact .reg ih
   ·exact BS.draw hk ih
 | regD=>exact fun c hc=>(detC_regD hc).elim
 | regK hb ih =>
   intro c hc
   rcases detC_regK hc with rfl|⟨o,es,cl,l0,rfl,rfl,hk⟩
   ·exact .regK ih
   ·exact BS.draw hk ih
 | seq _ _ hx hr i1 i2 =>
   intro c hc
   obtain⟨x,y,rfl,h1,h2⟩:=detC_seq hc
   exact .seq (i1 _ h1) (fun ts' h' hs=>i2 ts' h' hs _ h2) hx hr
 | @cond v a b ts h t r hv _ i1 =>
   intro c hc
   obtain⟨x,y,rfl,h1,h2⟩:=detC_cond hc
   refine .cond hv ?_
   cases t
   ·exact i1 _ h2
   ·exact i1 _ h1
 | block _ hs i1 =>
   intro c hc
   obtain⟨x,rfl,h1⟩:=detC_block hc
   exact .block (i1 _ h1) hs
 | loop _ _ hx hr i1 i2 =>
   intro c hc
   obtain⟨x,rfl,h1⟩:=detC_loop hc
   exact .loop (i1 _ h1) (fun ts' h' hs=>i2 ts' h' hs _ hc) hx hr
 | rangeF hf _ he i1 =>
   intro c hc
   obtain⟨x,y,rfl,h1,h2⟩:=detC_range hc
   exact .rangeF hf i1 he
 | exit a=>intro c hc; rw[detC_end hc (.inr (.inr ⟨_,rfl⟩))]; exact .exit a
 | ret a=>intro c hc; rw[detC_end hc (.inr (.inl rfl))]; exact .ret a
 | srt a b c d e=>exact .srt (det_mark hd a) b c d e
 | srf a b c d e k=>exact .srf (det_mark hd a) b c d e k
 | func hf _ hx hr i1 =>
   obtain⟨rf,h1,h2⟩:=hd _ _ hf
   unfold detF at h2
   rw[Option.map_eq_some_iff] at h2
   obtain⟨b,h3,rfl⟩:=h2
   exact .func h1 (i1 _ h3) hx hr
 | round hg hal hrf hn _ h2 _ h4 i1 i2 =>
   obtain⟨rf,g1,g2⟩:=hd _ _ hrf
   unfold detF at g2
   rw[Option.map_eq_some_iff] at g2
   obtain⟨b,g3,rfl⟩:=g2
   obtain⟨d,e1,e2⟩:=detC_node _ g3 hn
   obtain⟨x,y,rfl,q1,q2⟩:=detC_range e2
   exact .round hg hal g1 e1 (i1 _ q1) h2 (fun ts1 h1 f1 p1 t1 s1 hs hg=>i2 ts1 h1 f1 p1 t1 s1 hs hg _ q2) h4
def C (P:RP) (f:FuncId) (args:List AV) (h:AH) (Q:AV→AH→Prop):Prop:=BS P (.call f args) .nil h fun o=>∃ v h',o=.val v h'∧Q v h'
theorem C.mono {P:RP}{f:FuncId}{args:List AV}{h:AH}{Q Q':AV→AH→Prop} (hc:C P f args h Q) (hq:∀ v h',Q v h'→Q' v h'):C P f args h Q' :=
 BS.mono hc fun _ ⟨v,h',a,b⟩=>⟨v,h',a,hq v h' b⟩
def Y (P:RP) (b:Nat) (args:List AV) (h:AH) (Q:AV→AH→Prop):Prop:=BS P (.round b args) .nil h fun o=>∃ v h',o=.val v h'∧Q v h'
theorem Y.mono {P:RP}{f:Nat}{args:List AV}{h:AH}{Q Q':AV→AH→Prop} (hc:Y P f args h Q) (hq:∀ v h',Q v h'→Q' v h'):Y P f args h Q' :=
 BS.mono hc fun _ ⟨v,h',a,b⟩=>⟨v,h',a,hq v h' b⟩
def wop (P:RP) (b:Nat) (ts:Tm) (h:AH) (K:AV→AH→Prop) (o:ROper):Prop :=
 match o.op with
 | .call f args=>C P f (args.map (RO.ev ts)) h K
 | .callv x args=>(∃ f caps,RO.ev ts x=.fn f caps∧C P f (args.map (RO.ev ts)++caps) h K)∨∃ b,RO.ev ts x=.yld b∧Y P b (args.map (RO.ev ts)) h K
 | .nxM x=>∃ as,nxMA h (RO.ev ts x)=some as∧∀ v h',(v,h')∈as→K v h'
 | _=>∃ v h',evN b (RO.ev ts) h o=some (v,h')∧K v h'
def wops (P:RP) (b:Nat):List ROper→Tm→AH→(Tm→AH→Prop)→Prop
 | [],ts,h,K=>K ts h
 | o::l,ts,h,K =>
   match wanted ts o.guard with
   | some true=>wop P b ts h (fun v h'=>wops P b l (dput ts o.dst v) h' K∧chks (dput ts o.dst v) h' o.cs=true) o
   | some false=>wops P b l (dput ts o.dst .un) h K
   | none=>False
theorem wops_sound {P:RP}{b:Nat}:∀ (l:List ROper) {ts:Tm}{h:AH}{K:Tm→AH→Prop},wops P b l ts h K→BS P (.ops b l) ts h fun o=>∃ ts' h',o=.norm ts' h'∧K ts' h'
 | [],ts,h,_,hw=>.nil ⟨ts,h,rfl,hw⟩
 | o::l,ts,h,K,hw=>by
   unfold wops at hw
   split at hw
   ·rename_i hg
    have key:SV P b o ts h fun v h'=>wops P b l (dput ts o.dst v) h' K:=by
     refine .inr ⟨hg,?_⟩
     unfold wop at hw
     split at hw
     ·rename_i f args ho
      exact .inr (.inr (.inl ⟨f,args,_,ho,hw,fun v h' ⟨_,_,e,q⟩=>by cases e; exact q⟩))
     ·rename_i x args ho
      rcases hw with ⟨f,caps,hx,hc⟩|⟨b,hx,hc⟩
      ·exact .inr (.inr (.inr (.inl ⟨x,args,f,caps,_,ho,hx,hc,fun v h' ⟨_,_,e,q⟩=>by cases e; exact q⟩)))
      ·exact .inr (.inr (.inr (.inr ⟨x,args,b,_,ho,hx,hc,fun v h' ⟨_,_,e,q⟩=>by cases e; exact q⟩)))
     ·rename_i x ho
      obtain⟨as,h1,h2⟩:=hw
      exact .inr (.inl ⟨x,as,ho,h1,h2⟩)
     ·obtain⟨v,h',a,q⟩:=hw
      exact .inl ⟨v,h',a,q⟩
    exact BS.step key fun v h1 q=>wops_sound l q
   ·rename_i hg
    exact .skipped hg (wops_sound l hw)
   ·exact hw.elim
def fin (Kn Kr:Tm→AH→Prop) (Kx:Nat→Tm→AH→Prop):Out→Prop
 | .norm ts h=>Kn ts h
 | .exit id ts h=>Kx id ts h
 | .ret ts h=>Kr ts h
 | .val _ _=>False
def W (P:RP):RC→Tm→AH→(Tm→AH→Prop)→(Tm→AH→Prop)→(Nat→Tm→AH→Prop)→Prop
 | .skip,ts,h,Kn,_,_=>Kn ts h
 | .reg ops,ts,h,Kn,_,_=>wops P h.next ops ts h Kn
 | .regD kn ops es,ts,h,Kn,Kr,Kx=>BS P (.code (.regD kn ops es)) ts h (fin Kn Kr Kx)
 | .regK kn ops,ts,h,Kn,_,_=>wops P h.next ops ts (h.keep kn) Kn
 | .seq a b,ts,h,Kn,Kr,Kx=>W P a ts h (fun ts h=>W P b ts h Kn Kr Kx) Kr Kx
 | .cond c a b,ts,h,Kn,Kr,Kx=>(RO.ev ts c=.bool true∧W P a ts h Kn Kr Kx)∨(RO.ev ts c=.bool false∧W P b ts h Kn Kr Kx)
 | .block id c,ts,h,Kn,Kr,Kx=>W P c ts h Kn Kr (fun i ts h=>(i=id→Kn ts h)∧(i≠id→Kx i ts h))
 | .loop c,ts,h,Kn,Kr,Kx=>BS P (.code (.loop c)) ts h (fin Kn Kr Kx)
 | .rangeF fn p f ps a b,ts,h,Kn,Kr,Kx=>BS P (.code (.rangeF fn p f ps a b)) ts h (fin Kn Kr Kx)
 | .exit id,ts,h,_,_,Kx=>Kx id ts h
 | .ret,ts,h,_,Kr,_=>Kr ts h
 | .bad,_,_,_,_,_=>False
theorem W_sound {P:RP}:∀ (c:RC) {ts:Tm}{h:AH}{Kn Kr:Tm→AH→Prop}{Kx:Nat→Tm→AH→Prop},W P c ts h Kn Kr Kx→BS P (.code c) ts h (fin Kn Kr Kx)
 | .skip,ts,h,_,_,_,hw=>.skip hw
 | .reg ops,_,_,_,_,_,hw=>.reg ((wops_sound ops hw).mono fun o ⟨ts',h',a,b⟩=>by subst a; exact b)
 | .regD _ _ _,_,_,_,_,_,hw=>hw
 | .regK _ ops,_,_,_,_,_,hw=>.regK ((wops_sound ops hw).mono fun o ⟨ts',h',a,b⟩=>by subst a; exact b)
 | .seq a b,ts,h,Kn,Kr,Kx,hw=>.seq (W_sound a hw) (fun ts' h' q=>W_sound b q) (fun _ _ _ q=>q) (fun _ _ q=>q)
 | .cond c a b,ts,h,_,_,_,hw=>by
   rcases hw with ⟨h1,h2⟩|⟨h1,h2⟩
   ·exact .cond h1 (W_sound a h2)
   ·exact .cond h1 (W_sound b h2)
 | .block id c,ts,h,Kn,Kr,Kx,hw=>by
   refine .block (W_sound c hw) fun o ho=>?_
   cases o with
   | exit i ts' h' =>
     simp only[Out.unblock]
     split
     ·rename_i e; exact ho.1 e
     ·rename_i e; exact ho.2 e
   | norm=>exact ho
   | ret=>exact ho
   | val=>exact ho
 | .loop _,_,_,_,_,_,hw=>hw
 | .rangeF _ _ _ _ _ _,_,_,_,_,_,hw=>hw
 | .exit id,ts,h,_,_,_,hw=>.exit hw
 | .ret,ts,h,_,_,_,hw=>.ret hw
 | .bad,_,_,_,_,_,hw=>hw.elim
theorem W.loop {P:RP}{c:RC}{Kn Kr:Tm→AH→Prop}{Kx:Nat→Tm→AH→Prop} (I:Nat→Tm→AH→Prop) (hs:∀ n ts h,I n ts h→W P c ts h (fun ts' h'=>∃ m,m<n∧I m ts' h') Kr Kx) {n:Nat}{ts:Tm}{h:AH} (hi:I n ts h):W P (.loop c) ts h Kn Kr Kx:=by
 induction n using Nat.strongRecOn generalizing ts h with
 | _ n ih =>
   refine BS.loop (W_sound c (hs n ts h hi)) ?_ (fun _ _ _ q=>q) (fun _ _ q=>q)
   rintro ts' h' ⟨m,hm,hi'⟩
   exact ih m hm hi'
theorem C.func {P:RP}{f:FuncId}{args:List AV}{h:AH}{Q:AV→AH→Prop}{rf:RF} (hf:P f=some rf)
 (hw:W P rf.body (initTm 0 args) h (fun ts h'=>∃ v,results rf ts h'=some v∧Q v h') (fun ts h'=>∃ v,results rf ts h'=some v∧Q v h') (fun _ _ _=>False)):C P f args h Q:=by
 refine BS.func hf (W_sound _ hw) (fun _ _ _ q=>q) ?_
 rintro ts' h' (⟨v,a,b⟩|⟨v,a,b⟩)
 ·exact⟨v,a,v,h',rfl,b⟩
 ·exact⟨v,a,v,h',rfl,b⟩
end Go.Am
