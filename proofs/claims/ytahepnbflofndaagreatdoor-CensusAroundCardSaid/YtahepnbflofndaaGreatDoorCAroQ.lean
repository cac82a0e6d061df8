/-
  What is reckoned, step by step, as long as it isn't too much; all lists of a sum are gone through.
-/
import Derived.Test.YtahepnbflofndaaGreatDoorCAro7
set_option linter.all false
namespace Go.Aro
def Most:Nat:=1000000000000000
def timesF (st:Nat×Bool) (k:Nat):Nat×Bool:=bif st.2||Nat.blt (Most / k) st.1 then (st.1,true) else (st.1*k,false)
def reck (l:List Nat):Nat×Bool:=l.foldl timesF (1,false)
def okT (n:Nat):Bool:=(comps n n).all fun s=>Nat.beq (reck (numbers s)).1 (prodM (numbers s))&&!(reck (numbers s)).2
theorem okt0:okT 0=true:=by kernel_rfl
theorem okt1:okT 1=true:=by kernel_rfl
theorem okt2:okT 2=true:=by kernel_rfl
theorem okt3:okT 3=true:=by kernel_rfl
theorem okt4:okT 4=true:=by kernel_rfl
theorem okt5:okT 5=true:=by kernel_rfl
theorem okt6:okT 6=true:=by kernel_rfl
theorem okt7:okT 7=true:=by kernel_rfl
theorem mem_from1 {x:Nat}:∀ (n i:Nat),i≤x→x<i+n→x∈from1 i n
 | 0,i,h1,h2=>by omega
 | n+1,i,h1,h2=>by
   unfold from1
   by_cases e:x=i
   ·rw[e]; exact List.mem_cons_self ..
   ·exact List.mem_cons_of_mem _ (mem_from1 n (i+1) (by omega) (by omega))
theorem mem_comps:∀ (l:List Nat) (f n:Nat),(∀ a∈l,1≤a)→l.sum=n→n≤f→l∈comps f n
 | [],f,n,_,h,_=>by
   simp only[List.sum_nil] at h
   subst h
   cases f with
   | zero=>exact List.mem_cons_self ..
   | succ f=>exact List.mem_cons_self ..
 | a::l,f,n,h1,h2,h3=>by
   have ha:=h1 a (List.mem_cons_self ..)
   rw[List.sum_cons] at h2
   obtain⟨f,rfl⟩:∃ k,f=k+1:=⟨f-1,by omega⟩
   obtain⟨n,rfl⟩:∃ k,n=k+1:=⟨n-1,by omega⟩
   unfold comps
   rw[List.mem_flatMap]
   refine⟨a,mem_from1 _ _ ha (by omega),?_⟩
   rw[List.mem_map]
   exact⟨l,mem_comps l f (n+1-a) (fun b hb=>h1 b (List.mem_cons_of_mem _ hb)) (by omega) (by omega),rfl⟩
theorem around_eq {l:List Nat} (h1:∀ a∈l,1≤a) (h2:l.sum≤7):reck (numbers l)=(aroundM l,false):=by
 have hm:=mem_comps l l.sum l.sum h1 rfl (Nat.le_refl _)
 have key:okN l.sum=true∧okT l.sum=true:=by
  generalize l.sum=n at h2
  match n,h2 with
  | 0,_=>exact⟨ok0,okt0⟩
  | 1,_=>exact⟨ok1,okt1⟩
  | 2,_=>exact⟨ok2,okt2⟩
  | 3,_=>exact⟨ok3,okt3⟩
  | 4,_=>exact⟨ok4,okt4⟩
  | 5,_=>exact⟨ok5,okt5⟩
  | 6,_=>exact⟨ok6,okt6⟩
  | 7,_=>exact⟨ok7,okt7⟩
 obtain⟨k1,k2⟩:=key
 unfold okN at k1
 unfold okT at k2
 rw[List.all_eq_true] at k1 k2
 have a:=Nat.eq_of_beq_eq_true (k1 l hm)
 have b:=k2 l hm
 rw[Bool.and_eq_true,Bool.not_eq_true'] at b
 have c:=Nat.eq_of_beq_eq_true b.1
 refine Prod.ext ?_ b.2
 rw[c,a]
end Go.Aro
