/-
  arborref09.Orders: all orders of a list.
-/
import Derived.Test.YtahepnbflofndaaGreatDoorCKpt
set_option linter.all false
namespace Go.Proofs.YtahepnbflofndaaGreatDoor
open Go.Am
open Go.Aro (nth orders picks)
theorem picks_eq:∀ (l pre:List Nat),picks pre l=(List.range l.length).map fun i=>(nth l i,pre++(l.take i++l.drop (i+1)))
 | [],pre=>rfl
 | a::r,pre=>by
   rw[picks,picks_eq r (pre++[a]),List.length_cons,List.range_succ_eq_map,List.map_cons,List.map_map]
   congr 1
   refine List.map_congr_left fun i _=>?_
   show (nth r i,pre++[a]++(r.take i++r.drop (i+1)))=(nth r i,pre++(a::(r.take i)++r.drop (i+1)))
   simp
def outK (f:Nat) (l:List Nat) (i:Nat):List (List Nat):=((List.range i).map fun j=>(nth l j,l.take j++l.drop (j+1))).flatMap fun p=>(orders f p.2).map (p.1::·)
theorem outK_succ (f:Nat) (l:List Nat) (i:Nat):outK f l (i+1)=outK f l i++(orders f (l.take i++l.drop (i+1))).map (nth l i::·):=by
 unfold outK
 rw[List.range_succ,List.map_append,List.flatMap_append]
 simp
theorem orders_out {f:Nat}{l:List Nat} (h:l≠[]):orders (f+1) l=outK f l l.length:=by
 cases l with
 | nil=>exact absurd rfl h
 | cons a r =>
   unfold outK
   have:=picks_eq (a::r) []
   simp only[List.nil_append] at this
   rw[← this]
   rfl
theorem orders_in:∀ (f:Nat) (l x:List Nat),x∈orders f l→x.length≤f
 | 0,l,x,h=>by
   have:x=[]:=by simpa [orders] using h
   rw[this]; exact Nat.le_refl _
 | f+1,[],x,h=>by
   have:x=[]:=by simpa [orders] using h
   rw[this]; exact Nat.zero_le _
 | f+1,a::r,x,h=>by
   rw[orders_out (by simp)] at h
   unfold outK at h
   rw[List.mem_flatMap] at h
   obtain⟨p,_,h⟩:=h
   obtain⟨y,hy,rfl⟩:=List.mem_map.1 h
   have:=orders_in f _ y hy
   rw[List.length_cons]
   omega
theorem outK_len (f:Nat) (l:List Nat) (B:Nat) (hB:∀ i,i<l.length→(orders f (l.take i++l.drop (i+1))).length≤B):∀ i,i≤l.length→(outK f l i).length≤i*B
 | 0,_=>Nat.zero_le _
 | i+1,h=>by
   rw[outK_succ,List.length_append,List.length_map,Nat.add_mul,Nat.one_mul]
   have:=outK_len f l B hB i (by omega)
   have:=hB i (by omega)
   omega
theorem pow_le {n m:Nat} (h:n≤m):8 ^ n≤8 ^ m:=Nat.pow_le_pow_right (by decide) h
theorem orders_len:∀ (f:Nat) (l:List Nat),f≤7→l.length≤f→(orders f l).length≤8 ^ l.length
 | 0,l,_,h=>by
   have:l=[]:=List.length_eq_zero_iff.1 (by omega)
   subst this
   exact Nat.le_refl _
 | f+1,[],_,_=>Nat.le_refl _
 | f+1,a::r,h7,h=>by
   rw[orders_out (by simp)]
   have:=outK_len f (a::r) (8 ^ r.length) (fun i hi=>by
    have hl:((a::r).take i++(a::r).drop (i+1)).length=r.length:=by
     rw[List.length_append,List.length_take,List.length_drop]
     simp only[List.length_cons] at *
     omega
    have:=orders_len f ((a::r).take i++(a::r).drop (i+1)) (by omega) (by rw[hl]; simp only[List.length_cons] at h; omega)
    rwa [hl] at this) (a::r).length (Nat.le_refl _)
   refine Nat.le_trans this ?_
   rw[List.length_cons,Nat.pow_succ,Nat.mul_comm]
   simp only[List.length_cons] at h
   exact Nat.mul_le_mul_left _ (by omega)
def LL (h:AH) (lo:Nat) (a:AV) (xss:List (List Nat)):Prop :=
 ∃ vs:List AV,IsSl h 1 lo a vs∧vs.length=xss.length∧∀ (i:Nat) (v:AV) (xs:List Nat),vs[i]?=some v→xss[i]?=some xs→IsSl h 1 lo v (nC xs)∧∀ b n b' n',v=.sl b 0 n n→a=.sl b' 0 n' n'→b≠b'
theorem LL.ext {h h':AH}{lo hi:Nat}{a:AV}{xss:List (List Nat)} (hl:LL h lo a xss) (hx:Ext hi h h') (hn:h.next≤hi):LL h' lo a xss:=by
 obtain⟨vs,h1,h2,h3⟩:=hl
 exact⟨vs,h1.ext hx hn,h2,fun i v xs q1 q2=>⟨(h3 i v xs q1 q2).1.ext hx hn,(h3 i v xs q1 q2).2⟩⟩
theorem LL.push {h:AH}{lo x:Nat}{a v:AV}{xss:List (List Nat)}{xs:List Nat} (hl:LL h lo a xss) (hlo:lo≤h.next) (hv:IsSl h 1 lo v (nC xs)) (hx:h.get x=some (.cells [v] 1 false)) (hxl:lo≤x) (hxa:∀ b n,a=.sl b 0 n n→b≠x)
 (hva:∀ b n b' n',v=.sl b 0 n n→a=.sl b' 0 n' n'→b≠b') (hb:(xss.length+1)*24<tooMany) :
 ∃ a' h',appA h 1 24 a (.sl x 0 1 1)=some (a',h')∧LL h' lo a' (xss++[xs])∧Ext lo h h'∧h'.next=h.next+1∧(∀ c,c<h.next→(∀ b n,a=.sl b 0 n n→c≠b)→h'.get c=h.get c)∧∀ c n,a'=.sl c 0 n n→c=h.next:=by
 obtain⟨vs,h1,h2,h3⟩:=hl
 obtain⟨a',h',q1,q2,q3,q4,q5,q6,_⟩:=h1.app (bytes:=24) hlo (by omega) hx hxl hxa rfl (by simp [hv.cells.2]) (by rw[Nat.div_one,h2]; exact hb) (by rw[Nat.div_one,h2]; unfold tooMany at *; omega)
 have keep:∀ (w:AV) (cs:List AV),IsSl h 1 lo w cs→(∀ b n b' n',w=.sl b 0 n n→a=.sl b' 0 n' n'→b≠b')→IsSl h' 1 lo w cs∧∀ b n b' n',w=.sl b 0 n n→a'=.sl b' 0 n' n'→b≠b':=fun w cs hw hn=>by
  refine⟨hw.cong fun b n e _=>q6 b (hw.lt e) fun b' n' e'=>hn b n b' n' e e',fun b n b' n' e e'=>?_⟩
  have:=hw.lt e
  rw[q4] at e'
  cases e'
  omega
 refine⟨a',h',q1,⟨vs++[v],q2,by rw[List.length_append,List.length_append,h2]; rfl,fun i w ys e1 e2=>?_⟩,q3,q5,q6,fun c n e=>by rw[q4] at e; cases e; rfl⟩
 by_cases hi:i<vs.length
 ·rw[List.getElem?_append_left hi] at e1
  rw[List.getElem?_append_left (by omega)] at e2
  obtain⟨k1,k2⟩:=h3 i w ys e1 e2
  exact keep w _ k1 k2
 ·have hil:i<(vs++[v]).length:=(List.getElem?_eq_some_iff.1 e1).1
  rw[List.length_append,List.length_cons,List.length_nil] at hil
  have hi':i=vs.length:=by omega
  subst hi'
  rw[List.getElem?_append_right (by omega),Nat.sub_self] at e1
  rw[h2,List.getElem?_append_right (by omega),Nat.sub_self] at e2
  cases e1
  cases e2
  exact keep v _ hv hva
theorem LL.at {h:AH}{lo:Nat}{a:AV}{xss:List (List Nat)} (hl:LL h lo a xss) {i:Nat} (hi:i<xss.length):∃ b o v,iadrL 1 a (.int .i64 (i:Nat))=some (.ptr b o)∧rdCells h b o 1=some [v]∧IsSl h 1 lo v (nC xss[i])∧b<h.next:=by
 obtain⟨vs,h1,h2,h3⟩:=hl
 have hs:Sl h 1 a (vs.map fun x=>[x]):=by
  rcases h1 with ⟨rfl,rfl⟩|⟨b,n,_,rfl,hg,hn⟩
  ·exact .inl ⟨rfl,.inl rfl⟩
  ·exact Sl.row hg (by omega) (Nat.le_refl _)
 have hv:vs[i]?=some (vs[i]'(by omega)):=List.getElem?_eq_getElem _
 obtain⟨b,o,q1,q2,q3⟩:=hs.at1 (i:=i) (y:=vs[i]'(by omega)) (by rw[List.getElem?_map,hv]; rfl)
 exact⟨b,o,_,q1,q2,(h3 i _ _ hv (List.getElem?_eq_getElem hi)).1,q3⟩
theorem LL.len {h:AH}{lo:Nat}{a:AV}{xss:List (List Nat)} (hl:LL h lo a xss):lenLA a=some (.int .i64 (xss.length:Nat)):=by
 obtain⟨vs,h1,h2,h3⟩:=hl
 rcases h1 with ⟨rfl,rfl⟩|⟨b,n,_,rfl,hg,hn⟩
 ·rw[← h2]; rfl
 ·rw[← h2,hn,Nat.mul_one]; rfl
end Go.Proofs.YtahepnbflofndaaGreatDoor
