/- Rows of numbers that are written to -/
import Derived.Test.YtmibmlioidpogaaGreatDoorVAmS
import Derived.Sort.AssemblyPlain
import Derived.IntWalk
set_option linter.all false
namespace Go.Am
open Go.Sort (swp)
variable {K:Tm->AH->Prop}{P:RP}{Q:AV->AH->Prop}{args:List RO}{b i n o:Nat}{cs vs:List AV}{d:Array Int}{f:FuncId}{g:Option (Nat×Bool)}{h h':AH}{l l2:List ROper}{nm:Option Nat}{s:Option (Tm×AH)}{ts:Tm}{x:Int}
def ij(d:Array Int):List AV:=d.toList.map (AV.int .i64)
theorem gR(d:Array Int):(ij d).length=d.size:=by simp[ij]
def lA(cs:List AV)(o:Nat)(d:Array Int):AO:=.cells (dH cs o (ij d)) 1 false
theorem mL(hr:o+vs.length<=cs.length)(h:(cs.drop o).take vs.length=vs):dH cs o vs=cs:=by
 unfold dH;have h2:cs.drop (o+vs.length)=(cs.drop o).drop vs.length:=by rw[LR]
 rw[h2]
 conv=>lhs;lhs;rhs;rw[<-h]
 rw[bD,cT,cT]
theorem ko(hr:o+vs.length<=cs.length):(dH cs o vs).length=cs.length:=by
 simp only[dH,aC,bB,cH];omega
theorem gH(hr:o+vs.length<=cs.length)(i:Nat):(dH cs o vs)[i]?=if o<=i/\i<o+vs.length then vs[i-o]? else cs[i]?:=by
 unfold dH;by_cases h1:i<o
 .rw[bD,bC (by rw[bB];omega),cF,if_pos h1,if_neg om]
 .have hl:(cs.take o).length=o:=by rw[bB];omega
  by_cases h2:i<o+vs.length
  .rw[if_pos ⟨om,h2⟩,bD,aX om,hl,bC om]
  .rw[if_neg om,aX (by rw[aC];omega),aC,hl,eN];congr 1;omega
theorem tD{v:AV}(hr:o+vs.length<=cs.length)(hi:i<vs.length):dH (dH cs o vs) (o+i) [v]=dH cs o (vs.set i v):=by
 have hr2:o+(vs.set i v).length<=cs.length:=by rw[cn];exact hr
 have hl:=ko hr;refine du λk=>?_;rw[gH (by rw[hl];simp only[aq,aK];omega),gH hr2,gH hr,cn];simp only[aq,aK];by_cases e:k=o+i
 .subst e;rw[if_pos ⟨ab _,om⟩,if_pos ⟨om,om⟩];have e1:o+i-(o+i)=0:=om;have e2:o+i-o=i:=om;rw[e1,e2,cL om];rfl
 .rw[if_neg om];by_cases h1:o<=k/\k<o+vs.length
  .rw[if_pos h1,if_pos h1,cG om]
  .rw[if_neg h1,if_neg h1]
theorem JF(hi:i<d.size):(ij d)[i]?=some (.int .i64 d[i]!):=by
 unfold ij;rw[aE,eB,eW hi];simp only[aF,getElem!_pos,hi]
theorem Gq:(ij d).set i (.int .i64 x)=ij (d.setIfInBounds i x):=by
 unfold ij;rw[Array.toList_setIfInBounds,tB]
theorem Fg(hg:h.get b=some (lA cs o d))(hr:o+d.size<=cs.length)(hi:i<d.size):ak h b (o+i) 1=some [.int .i64 d[i]!]:=by
 have hr':o+(ij d).length<=cs.length:=by rw[gR];exact hr
 have hk:(dH cs o (ij d))[o+i]?=some (.int .i64 d[i]!):=by
  rw[gH hr',if_pos ⟨om,by rw[gR];omega⟩];have e2:o+i-o=i:=om;rw[e2,JF hi]
 obtain⟨hlt,hk⟩:=aG.1 hk;rw[aU hg,if_pos om,bT hlt,hk];rfl
theorem Ej(hg:h.get b=some (lA cs o d))(hr:o+d.size<=cs.length)(hi:i<d.size) :
 ∃h',bV h b (o+i) [.int .i64 x]=some h'/\Upd h h' b (lA cs o (d.setIfInBounds i x)):=by
 have hr':o+(ij d).length<=cs.length:=by rw[gR];exact hr
 have e:dH (dH cs o (ij d)) (o+i) [.int .i64 x]=dH cs o (ij (d.setIfInBounds i x)):=by rw[tD hr' (by rw[gR];exact hi),Gq]
 refine⟨_,?_,Md hg⟩;rw[eL hg,if_pos (by rw[ko hr'];simp only[aq,aK];omega),e];rfl
theorem Ib{j:Nat}(hg:h.get b=some (lA cs o d))(hr:o+d.size<=cs.length)(hi:i<d.size)(hj:j<d.size) :
 ∃h1 h2,bV h b (o+i) [.int .i64 d[j]!]=some h1/\bV h1 b (o+j) [.int .i64 d[i]!]=some h2/\Upd h h2 b (lA cs o (swp d i j)):=by
 obtain⟨h1,w1,u1⟩:=Ej (x:=d[j]!) hg hr hi;obtain⟨h2,w2,u2⟩:=Ej (x:=d[i]!) (i:=j) u1.get (by simpa using hr) (by simpa using hj);exact⟨h1,h2,w1,w2,u1.trans u2⟩
theorem Cm(d:Array Int)(i j:Nat):(swp d i j).size=d.size:=Sort.size_swp d i j
structure Mod(n:Nat)(h h':AH)(s:Nat)(o:AO):Prop where
 nx:h.next<=h'.next
 get:h'.get s=some o
 gt:∀c,c≠s->c<n->h'.get c=h.get c
 ty:∀c,c<n->h'.tyOf c=h.tyOf c
theorem Upd.mod{s:Nat}{o:AO}(a:Upd h h' s o):Mod n h h' s o:=⟨by rw[a.nx];exact ab _,a.get,λc hc _=>a.ne hc,λc _=>a.ty c⟩
theorem Mod.mono{m:Nat}{s:Nat}{o:AO}(a:Mod n h h' s o)(hm:m<=n):Mod m h h' s o:=⟨a.nx,a.get,λc hc hn=>a.gt c hc om,λc hn=>a.ty c om⟩
theorem Mod.toExt{s:Nat}{o:AO}(a:Mod n h h' s o)(hs:n<=s):Ext n h h':=⟨a.nx,λc hc=>a.gt c om hc,a.ty⟩
theorem dL{i:Nat}(hi:i<n):gh ((i:Nat):Int) n=some i:=by
 unfold gh;rw[if_pos ⟨om,om⟩];simp
theorem fW{z:Int}(h1:-9223372036854775808<=z)(h2:z<=9223372036854775807):IntKind.i64.wrap z=z:=IntWalk.i64_in z ⟨h1,h2⟩
theorem aV{d:Option Nat}(n:Nat)
 (hs:kM b (l.take n) s=some (ts,h)) (hd:l.drop n=⟨d,.call f args,g,nm,[]⟩::l2) (hw:wanted ts g=some true) (ha:args.map (RO.ev ts)=vs) (hc:C P f vs h Q)
 (hk:∀v h',Q v h'->G P b l2 (some (dE ts d v,h')) K):G P b l s K:=by
 subst ha;rw[<-cT n l];refine qQ ?_;rw[hs,hd];exact Cg hw (hc.mono hk)
theorem jc{d:Option Nat}
 (hw:wanted ts g=some true) (ha:args.map (RO.ev ts)=vs) (hc:C P f vs h Q) (hk:∀v h',Q v h'->G P b l (some (dE ts d v,h')) K):G P b (⟨d,.call f args,g,nm,[]⟩::l) (some (ts,h)) K:=by
 subst ha;exact Cg hw (hc.mono hk)
theorem ja{d:Option Nat}(n:Nat)
 (hs:kM b (l.take n) s=some (ts,h)) (hd:l.drop n=⟨d,.call f args,g,nm,[]⟩::l2) (hw:wanted ts g=some false)
 (hk:G P b l2 (some (dE ts d .un,h)) K):G P b l s K:=by
 rw[<-cT n l];refine qQ ?_;rw[hs,hd];refine LU ?_;rw[mK,hw];exact hk
end Go.Am
