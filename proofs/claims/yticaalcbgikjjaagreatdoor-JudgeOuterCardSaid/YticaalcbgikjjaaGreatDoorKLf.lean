/-
  front: span, bare, swap, above. front: a front; swap, above, ready. The row's laws: where a vertex's edges stand, what stays ready, orders, mirrors. front: Place, Ready, Done, Row, New. front: Ready, Done, Row, New. sweep: of, Run. sweep: Run.
-/
import Derived.Test.YticaalcbgikjjaaGreatDoorKLe
set_option linter.all false
namespace Go.Proofs.YticaalcbgikjjaaGreatDoor
open Go.Am
end Go.Proofs.YticaalcbgikjjaaGreatDoor
namespace Go.Proofs.YticaalcbgikjjaaGreatDoor
open Go.Am
end Go.Proofs.YticaalcbgikjjaaGreatDoor
namespace Go.Proofs.YticaalcbgikjjaaGreatDoor
open Go.Am
theorem nd_len {α:Type} [DecidableEq α]:∀ {l m:List α},l.Nodup→(∀ x∈l,x∈m)→l.length≤m.length
 | [],_,_,_=>Nat.zero_le _
 | a::l,m,hn,hs=>by
   have hm:=hs a (List.mem_cons_self ..)
   have hn':=List.nodup_cons.1 hn
   have:=nd_len (l:=l) (m:=m.erase a) hn'.2 fun x hx=>(List.mem_erase_of_ne (fun e:x=a=>hn'.1 (e▸hx))).2 (hs x (List.mem_cons_of_mem _ hx))
   rw[List.length_erase_of_mem hm] at this
   have:0<m.length:=List.length_pos_of_mem hm
   simp only[List.length_cons]
   omega
end Go.Proofs.YticaalcbgikjjaaGreatDoor
namespace Go.Proofs.YticaalcbgikjjaaGreatDoor
open Go.Am
theorem G.gcallc {P:RP}{b:Nat}{l l2:List ROper}{s:Option (Tm×AH)}{K:Tm→AH→Prop}{ts:Tm}{h:AH}{d:Option Nat}{f:FuncId}{args:List RO}{g:Option (Nat×Bool)}{nm:Option Nat}{cs:List (Nat×ROp×Option (Nat×Bool))}{vs:List AV}{Q:AV→AH→Prop} (n:Nat)
 (hs:stps b (l.take n) s=some (ts,h)) (hd:l.drop n=⟨d,.call f args,g,nm,cs⟩::l2) (hw:wanted ts g=some true) (ha:args.map (RO.ev ts)=vs) (hc:C P f vs h Q)
 (hk:∀ v h',Q v h'→chks (dput ts d v) h' cs=true∧G P b l2 (some (dput ts d v,h')) K):G P b l s K:=by
 subst ha
 rw[← List.take_append_drop n l]
 refine G.ops ?_
 rw[hs,hd]
 exact G.callc hw (hc.mono hk)
end Go.Proofs.YticaalcbgikjjaaGreatDoor
namespace Go.Proofs.YticaalcbgikjjaaGreatDoor
open Go.Am
end Go.Proofs.YticaalcbgikjjaaGreatDoor
namespace Go.Proofs.YticaalcbgikjjaaGreatDoor
open Go.Am
def upTo (n:Nat):List Int:=(List.range n).map fun x=>((x:Nat):Int)
theorem upTo_len (n:Nat):(upTo n).length=n:=by simp [upTo]
theorem mem_upTo {n:Nat}{x:Int}:x∈upTo n↔0≤x∧x<n:=by
 unfold upTo
 rw[List.mem_map]
 constructor
 ·rintro⟨a,ha,rfl⟩
  rw[List.mem_range] at ha
  omega
 ·rintro⟨h1,h2⟩
  exact⟨x.toNat,List.mem_range.2 (by omega),by omega⟩
def SlL (h:AH) (v:AV) (xss:List (List Int)):Prop:=∃ ws:List AV,Sl h 1 v (ws.map fun w=>[w])∧ws.length=xss.length∧∀ (i:Nat) (w:AV) (xs:List Int),ws[i]?=some w→xss[i]?=some xs→SlI h w xs
theorem SlL.ext {h h':AH}{v:AV}{xss:List (List Int)} (hs:SlL h v xss) (hx:Ext h.next h h'):SlL h' v xss:=by
 obtain⟨ws,a,b,c⟩:=hs
 exact⟨ws,a.ext hx (Nat.le_refl _),b,fun i w xs h1 h2=>(c i w xs h1 h2).ext hx (Nat.le_refl _)⟩
theorem SlL.len {h:AH}{v:AV}{xss:List (List Int)} (hs:SlL h v xss):lenLA v=some (.int .i64 (xss.length:Nat)):=by
 obtain⟨ws,a,b,c⟩:=hs
 have:=a.len
 rw[List.length_map,b] at this
 exact this
theorem SlL.cells {h:AH}{v:AV}{xss:List (List Int)} (hs:SlL h v xss):v.cells=[v]∧v.one=true:=by
 obtain⟨ws,a,b,c⟩:=hs
 exact a.cells
theorem SlL.at {h:AH}{v:AV}{xss:List (List Int)} (hs:SlL h v xss) {k:Nat} (hk:k<xss.length):∃ b p w,iadrL 1 v (.int .i64 (k:Nat))=some (.ptr b p)∧rdCells h b p 1=some [w]∧SlI h w xss[k]∧b<h.next:=by
 obtain⟨ws,a,b,c⟩:=hs
 have hw:ws[k]?=some ws[k]:=List.getElem?_eq_getElem (by omega)
 obtain⟨b1,p1,a1,r1,l1⟩:=a.at1 (i:=k) (y:=ws[k]) (by rw[List.getElem?_map,hw]; rfl)
 exact⟨b1,p1,_,a1,r1,c k _ _ hw (List.getElem?_eq_getElem hk),l1⟩
end Go.Proofs.YticaalcbgikjjaaGreatDoor
namespace Go.Proofs.YticaalcbgikjjaaGreatDoor
open Go.Am
end Go.Proofs.YticaalcbgikjjaaGreatDoor
