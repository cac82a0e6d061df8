/- front -/
import Derived.Test.YtahepnbflofndaaGreatDoorJLe
set_option linter.all false
namespace Go.Proofs.YtahepnbflofndaaGreatDoor
open Go.Am
open Go.Am
open Go.Am
theorem Ck {α:Type} [DecidableEq α]:∀ {l m:List α},l.Nodup→(∀ x∈l,x∈m)→l.length≤m.length
 | [],_,_,_=>dL _
 | a::l,m,hn,hs=>by
   have hm:=hs a (aY ..)
   have hn':=de.1 hn
   have:=Ck (l:=l) (m:=m.erase a) hn'.2 λx hx=>(List.mem_erase_of_ne (λe:x=a=>hn'.1 (e▸hx))).2 (hs x (bw _ hx))
   rw[List.length_erase_of_mem hm] at this
   have:0<m.length:=List.length_pos_of_mem hm
   simp only[aV]
   omega
open Go.Am
theorem nl {P:RP}{b:Nat}{l l2:List ROper}{s:Option (Tm×AH)}{K:Tm→AH→Prop}{ts:Tm}{h:AH}{d:Option Nat}{f:FuncId}{args:List RO}{g:Option (Nat×Bool)}{nm:Option Nat}{cs:List (Nat×ROp×Option (Nat×Bool))}{vs:List AV}{Q:AV→AH→Prop} (n:Nat)
 (hs:iQ b (l.take n) s=some (ts,h)) (hd:l.drop n=⟨d,.call f args,g,nm,cs⟩::l2) (hw:wanted ts g=some true) (ha:args.map (RO.ev ts)=vs) (hc:C P f vs h Q)
 (hk:∀ v h',Q v h'→fe (cI ts d v) h' cs=true∧G P b l2 (some (cI ts d v,h')) K):G P b l s K:=by
 subst ha
 rw[← cn n l]
 refine oM ?_
 rw[hs,hd]
 exact yT hw (hc.mono hk)
open Go.Am
open Go.Am
def oN (n:Nat):List Int:=(List.range n).map λx=>((x:Nat):Int)
theorem ui (n:Nat):(oN n).length=n:=by simp [oN]
theorem lz {n:Nat}{x:Int}:x∈oN n↔0≤x∧x<n:=by
 unfold oN
 rw[bJ]
 constructor
 ·rintro⟨a,ha,rfl⟩
  rw[bz] at ha
  omega
 ·rintro⟨h1,h2⟩
  exact⟨x.toNat,bz.2 om,om⟩
open Go.Am
end Go.Proofs.YtahepnbflofndaaGreatDoor
