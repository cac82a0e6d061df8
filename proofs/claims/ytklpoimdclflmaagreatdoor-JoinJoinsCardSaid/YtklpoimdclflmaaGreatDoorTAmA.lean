/- Rows of numbers that are written to -/
import Derived.Test.YtklpoimdclflmaaGreatDoorTAmS
import Derived.Sort.AssemblyPlain
import Derived.IntWalk
set_option linter.all false
namespace Go.Am
open Go.Sort (swp)
variable {K:Tm->AH->Prop}{P:RP}{Q:AV->AH->Prop}{args:List RO}{b i n o:Nat}{cs vs:List AV}{d:Array Int}{f:FuncId}{g:Option (Nat×Bool)}{h h':AH}{l l2:List ROper}{nm:Option Nat}{s:Option (Tm×AH)}{ts:Tm}{x:Int}
def iR(d:Array Int):List AV:=d.toList.map (AV.int .i64)
def im(d:Array Int):(iR d).length=d.size:=by simp[iR]
def jT(cs:List AV)(o:Nat)(d:Array Int):AO:=.cells (dG cs o (iR d)) 1 false
def oO(hr:o+vs.length<=cs.length)(h:(cs.drop o).take vs.length=vs):dG cs o vs=cs:=by
 unfold dG;have h2:cs.drop (o+vs.length)=(cs.drop o).drop vs.length:=by rw[NX]
 rw[h2]
 conv=>lhs;lhs;rhs;rw[<-h]
 rw[bL,cH,cH]
def iK(hr:o+vs.length<=cs.length):(dG cs o vs).length=cs.length:=by
 simp only[dG,aJ,aS,cI];omega
def fE(hr:o+vs.length<=cs.length)(i:Nat):(dG cs o vs)[i]?=if o<=i/\i<o+vs.length then vs[i-o]? else cs[i]?:=by
 unfold dG;by_cases h1:i<o
 .rw[bL,bC (by rw[aS];omega),cS,if_pos h1,if_neg om]
 .have hl:(cs.take o).length=o:=by rw[aS];omega
  by_cases h2:i<o+vs.length
  .rw[if_pos ⟨om,h2⟩,bL,bw om,hl,bC om]
  .rw[if_neg om,bw (by rw[aJ];omega),aJ,hl,fS];congr 1;omega
def vZ{v:AV}(hr:o+vs.length<=cs.length)(hi:i<vs.length):dG (dG cs o vs) (o+i) [v]=dG cs o (vs.set i v):=by
 have hr2:o+(vs.set i v).length<=cs.length:=by rw[cx];exact hr
 have hl:=iK hr;refine cV λk=>?_;rw[fE (by rw[hl];simp only[bd,bm];omega),fE hr2,fE hr,cx];simp only[bd,bm];by_cases e:k=o+i
 .subst e;rw[if_pos ⟨ab _,om⟩,if_pos ⟨om,om⟩];have e1:o+i-(o+i)=0:=om;have e2:o+i-o=i:=om;rw[e1,e2,dP om];rfl
 .rw[if_neg om];by_cases h1:o<=k/\k<o+vs.length
  .rw[if_pos h1,if_pos h1,dq om]
  .rw[if_neg h1,if_neg h1]
def LW(hi:i<d.size):(iR d)[i]?=some (.int .i64 d[i]!):=by
 unfold iR;rw[aV,eJ,eZ hi];simp only[aQ,getElem!_pos,hi]
def IM:(iR d).set i (.int .i64 x)=iR (d.setIfInBounds i x):=by
 unfold iR;rw[Array.toList_setIfInBounds,vV]
def sC(hg:h.get b=some (jT cs o d))(hr:o+d.size<=cs.length)(hi:i<d.size):ai h b (o+i) 1=some [.int .i64 d[i]!]:=by
 have hr':o+(iR d).length<=cs.length:=by rw[im];exact hr
 have hk:(dG cs o (iR d))[o+i]?=some (.int .i64 d[i]!):=by
  rw[fE hr',if_pos ⟨om,by rw[im];omega⟩];have e2:o+i-o=i:=om;rw[e2,LW hi]
 obtain⟨hlt,hk⟩:=au.1 hk;rw[aR hg,if_pos om,cj hlt,hk];rfl
def BO(hg:h.get b=some (jT cs o d))(hr:o+d.size<=cs.length)(hi:i<d.size) :
 ∃h',bP h b (o+i) [.int .i64 x]=some h'/\Upd h h' b (jT cs o (d.setIfInBounds i x)):=by
 have hr':o+(iR d).length<=cs.length:=by rw[im];exact hr
 have e:dG (dG cs o (iR d)) (o+i) [.int .i64 x]=dG cs o (iR (d.setIfInBounds i x)):=by rw[vZ hr' (by rw[im];exact hi),IM]
 refine⟨_,?_,Oi hg⟩;rw[dw hg,if_pos (by rw[iK hr'];simp only[bd,bm];omega),e];rfl
def Kv{j:Nat}(hg:h.get b=some (jT cs o d))(hr:o+d.size<=cs.length)(hi:i<d.size)(hj:j<d.size) :
 ∃h1 h2,bP h b (o+i) [.int .i64 d[j]!]=some h1/\bP h1 b (o+j) [.int .i64 d[i]!]=some h2/\Upd h h2 b (jT cs o (swp d i j)):=by
 obtain⟨h1,w1,u1⟩:=BO (x:=d[j]!) hg hr hi;obtain⟨h2,w2,u2⟩:=BO (x:=d[i]!) (i:=j) u1.get (by simpa using hr) (by simpa using hj);exact⟨h1,h2,w1,w2,u1.trans u2⟩
def EB(d:Array Int)(i j:Nat):(swp d i j).size=d.size:=Sort.size_swp d i j
structure Mod(n:Nat)(h h':AH)(s:Nat)(o:AO):Prop where
 nx:h.next<=h'.next
 get:h'.get s=some o
 gt:∀c,c≠s->c<n->h'.get c=h.get c
 ty:∀c,c<n->h'.tyOf c=h.tyOf c
def Upd.mod{s:Nat}{o:AO}(a:Upd h h' s o):Mod n h h' s o:=⟨by rw[a.nx];exact ab _,a.get,λc hc _=>a.ne hc,λc _=>a.ty c⟩
def Mod.mono{m:Nat}{s:Nat}{o:AO}(a:Mod n h h' s o)(hm:m<=n):Mod m h h' s o:=⟨a.nx,a.get,λc hc hn=>a.gt c hc om,λc hn=>a.ty c om⟩
def Mod.toExt{s:Nat}{o:AO}(a:Mod n h h' s o)(hs:n<=s):Ext n h h':=⟨a.nx,λc hc=>a.gt c om hc,a.ty⟩
def cK{i:Nat}(hi:i<n):fe ((i:Nat):Int) n=some i:=by
 unfold fe;rw[if_pos ⟨om,om⟩];simp
def fU{z:Int}(h1:-9223372036854775808<=z)(h2:z<=9223372036854775807):IntKind.i64.wrap z=z:=IntWalk.i64_in z ⟨h1,h2⟩
def bj{d:Option Nat}(n:Nat)
 (hs:lF b (l.take n) s=some (ts,h)) (hd:l.drop n=⟨d,.call f args,g,nm,[]⟩::l2) (hw:wanted ts g=some true) (ha:args.map (RO.ev ts)=vs) (hc:C P f vs h Q)
 (hk:∀v h',Q v h'->G P b l2 (some (dH ts d v,h')) K):G P b l s K:=by
 subst ha;rw[<-cH n l];refine tO ?_;rw[hs,hd];exact zE hw (hc.mono hk)
def jW{d:Option Nat}
 (hw:wanted ts g=some true) (ha:args.map (RO.ev ts)=vs) (hc:C P f vs h Q) (hk:∀v h',Q v h'->G P b l (some (dH ts d v,h')) K):G P b (⟨d,.call f args,g,nm,[]⟩::l) (some (ts,h)) K:=by
 subst ha;exact zE hw (hc.mono hk)
def fB{d:Option Nat}(n:Nat)
 (hs:lF b (l.take n) s=some (ts,h)) (hd:l.drop n=⟨d,.call f args,g,nm,[]⟩::l2) (hw:wanted ts g=some false)
 (hk:G P b l2 (some (dH ts d .un,h)) K):G P b l s K:=by
 rw[<-cH n l];refine tO ?_;rw[hs,hd];refine MU ?_;rw[oN,hw];exact hk
end Go.Am
