/- Rows of numbers that are written to -/
import Derived.Test.YtlolkmcdimgplaaGreatVAmS
import Derived.Sort.AssemblyPlain
import Derived.IntWalk
set_option linter.all false
namespace Go.Am
open Go.Sort (swp)
variable {K:Tm->AH->Prop}{P:RP}{Q:AV->AH->Prop}{args:List RO}{b i n o:Nat}{cs vs:List AV}{d:Array Int}{f:FuncId}{g:Option (Nat×Bool)}{h h':AH}{l l2:List ROper}{nm:Option Nat}{s:Option (Tm×AH)}{ts:Tm}{x:Int}
def iJ(d:Array Int):List AV:=d.toList.map (AV.int .i64)
theorem iU(d:Array Int):(iJ d).length=d.size:=by simp[iJ]
def nu(cs:List AV)(o:Nat)(d:Array Int):AO:=.cells (dD cs o (iJ d)) 1 false
theorem sa(hr:o+vs.length<=cs.length)(h:(cs.drop o).take vs.length=vs):dD cs o vs=cs:=by
 unfold dD;have h2:cs.drop (o+vs.length)=(cs.drop o).drop vs.length:=by rw[Nm]
 rw[h2]
 conv=>lhs;lhs;rhs;rw[<-h]
 rw[bO,cm,cm]
theorem kX(hr:o+vs.length<=cs.length):(dD cs o vs).length=cs.length:=by
 simp only[dD,aB,bK,dr];omega
theorem gR(hr:o+vs.length<=cs.length)(i:Nat):(dD cs o vs)[i]?=if o<=i/\i<o+vs.length then vs[i-o]? else cs[i]?:=by
 unfold dD;by_cases h1:i<o
 .rw[bO,bA (by rw[bK];omega),cM,if_pos h1,if_neg om]
 .have hl:(cs.take o).length=o:=by rw[bK];omega
  by_cases h2:i<o+vs.length
  .rw[if_pos ⟨om,h2⟩,bO,aV om,hl,bA om]
  .rw[if_neg om,aV (by rw[aB];omega),aB,hl,eK];congr 1;omega
theorem vp{v:AV}(hr:o+vs.length<=cs.length)(hi:i<vs.length):dD (dD cs o vs) (o+i) [v]=dD cs o (vs.set i v):=by
 have hr2:o+(vs.set i v).length<=cs.length:=by rw[dh];exact hr
 have hl:=kX hr;refine dI λk=>?_;rw[gR (by rw[hl];simp only[ar,aU];omega),gR hr2,gR hr,dh];simp only[ar,aU];by_cases e:k=o+i
 .subst e;rw[if_pos ⟨ab _,om⟩,if_pos ⟨om,om⟩];have e1:o+i-(o+i)=0:=om;have e2:o+i-o=i:=om;rw[e1,e2,cK om];rfl
 .rw[if_neg om];by_cases h1:o<=k/\k<o+vs.length
  .rw[if_pos h1,if_pos h1,cQ om]
  .rw[if_neg h1,if_neg h1]
theorem KZ(hi:i<d.size):(iJ d)[i]?=some (.int .i64 d[i]!):=by
 unfold iJ;rw[aG,eC,eS hi];simp only[aC,getElem!_pos,hi]
theorem HQ:(iJ d).set i (.int .i64 x)=iJ (d.setIfInBounds i x):=by
 unfold iJ;rw[Array.toList_setIfInBounds,pq]
theorem GO(hg:h.get b=some (nu cs o d))(hr:o+d.size<=cs.length)(hi:i<d.size):aA h b (o+i) 1=some [.int .i64 d[i]!]:=by
 have hr':o+(iJ d).length<=cs.length:=by rw[iU];exact hr
 have hk:(dD cs o (iJ d))[o+i]?=some (.int .i64 d[i]!):=by
  rw[gR hr',if_pos ⟨om,by rw[iU];omega⟩];have e2:o+i-o=i:=om;rw[e2,KZ hi]
 obtain⟨hlt,hk⟩:=aF.1 hk;rw[bI hg,if_pos om,cn hlt,hk];rfl
theorem FU(hg:h.get b=some (nu cs o d))(hr:o+d.size<=cs.length)(hi:i<d.size) :
 ∃h',cj h b (o+i) [.int .i64 x]=some h'/\Upd h h' b (nu cs o (d.setIfInBounds i x)):=by
 have hr':o+(iJ d).length<=cs.length:=by rw[iU];exact hr
 have e:dD (dD cs o (iJ d)) (o+i) [.int .i64 x]=dD cs o (iJ (d.setIfInBounds i x)):=by rw[vp hr' (by rw[iU];exact hi),HQ]
 refine⟨_,?_,Nv hg⟩;rw[ez hg,if_pos (by rw[kX hr'];simp only[ar,aU];omega),e];rfl
theorem JB{j:Nat}(hg:h.get b=some (nu cs o d))(hr:o+d.size<=cs.length)(hi:i<d.size)(hj:j<d.size) :
 ∃h1 h2,cj h b (o+i) [.int .i64 d[j]!]=some h1/\cj h1 b (o+j) [.int .i64 d[i]!]=some h2/\Upd h h2 b (nu cs o (swp d i j)):=by
 obtain⟨h1,w1,u1⟩:=FU (x:=d[j]!) hg hr hi;obtain⟨h2,w2,u2⟩:=FU (x:=d[i]!) (i:=j) u1.get (by simpa using hr) (by simpa using hj);exact⟨h1,h2,w1,w2,u1.trans u2⟩
theorem DT(d:Array Int)(i j:Nat):(swp d i j).size=d.size:=Sort.size_swp d i j
structure Mod(n:Nat)(h h':AH)(s:Nat)(o:AO):Prop where
 nx:h.next<=h'.next
 get:h'.get s=some o
 gt:∀c,c≠s->c<n->h'.get c=h.get c
 ty:∀c,c<n->h'.tyOf c=h.tyOf c
theorem Upd.mod{s:Nat}{o:AO}(a:Upd h h' s o):Mod n h h' s o:=⟨by rw[a.nx];exact ab _,a.get,λc hc _=>a.ne hc,λc _=>a.ty c⟩
theorem Mod.mono{m:Nat}{s:Nat}{o:AO}(a:Mod n h h' s o)(hm:m<=n):Mod m h h' s o:=⟨a.nx,a.get,λc hc hn=>a.gt c hc om,λc hn=>a.ty c om⟩
theorem Mod.toExt{s:Nat}{o:AO}(a:Mod n h h' s o)(hs:n<=s):Ext n h h':=⟨a.nx,λc hc=>a.gt c om hc,a.ty⟩
theorem eU{i:Nat}(hi:i<n):iV ((i:Nat):Int) n=some i:=by
 unfold iV;rw[if_pos ⟨om,om⟩];simp
theorem fx{z:Int}(h1:-9223372036854775808<=z)(h2:z<=9223372036854775807):IntKind.i64.wrap z=z:=IntWalk.i64_in z ⟨h1,h2⟩
theorem bE{d:Option Nat}(n:Nat)
 (hs:lK b (l.take n) s=some (ts,h)) (hd:l.drop n=⟨d,.call f args,g,nm,[]⟩::l2) (hw:wanted ts g=some true) (ha:args.map (RO.ev ts)=vs) (hc:C P f vs h Q)
 (hk:∀v h',Q v h'->G P b l2 (some (eu ts d v,h')) K):G P b l s K:=by
 subst ha;rw[<-cm n l];refine sI ?_;rw[hs,hd];exact DL hw (hc.mono hk)
theorem jU{d:Option Nat}
 (hw:wanted ts g=some true) (ha:args.map (RO.ev ts)=vs) (hc:C P f vs h Q) (hk:∀v h',Q v h'->G P b l (some (eu ts d v,h')) K):G P b (⟨d,.call f args,g,nm,[]⟩::l) (some (ts,h)) K:=by
 subst ha;exact DL hw (hc.mono hk)
theorem kr{d:Option Nat}(n:Nat)
 (hs:lK b (l.take n) s=some (ts,h)) (hd:l.drop n=⟨d,.call f args,g,nm,[]⟩::l2) (hw:wanted ts g=some false)
 (hk:G P b l2 (some (eu ts d .un,h)) K):G P b l s K:=by
 rw[<-cm n l];refine sI ?_;rw[hs,hd];refine Cw ?_;rw[nW,hw];exact hk
end Go.Am
