/-
  A row of ints that the library sorts: what the kit's contract gives the clean machine (the first part of AmSrt).
-/
import Derived.Test.YtldkniahgagocaaGreatKAmRun
import Derived.Lib.SortBridge
import Derived.Sort.EveryDepth
import Derived.Shelf.Slices.In.SortAlone
set_option linter.all false
namespace Go.Am
open Go.Sort Go.RowKit Go.Shelf Go.Proofs Go.Lib
def SrtOK (P:Program) (f:FuncId):Prop:=∀ (blk off cap:Nat) (zs:List Int) (w:World),Holds (Value.int .i64) w blk off zs.toArray→blk<w.heap.size→zs.length<4611686018427387904 →
 Calls P f #[.slice (some ⟨blk,off,none⟩) zs.length cap] w fun e w'=>e=.returned (.tuple #[])∧∃ n os,w'=grow (putRow (Value.int .i64) (Sort.ahead w n) blk off (zs.mergeSort fun x y=>decide (x≤y)).toArray) os
theorem Rep.drewN {K:Bs}{σ:Sg}{h:AH}{w:World} (r:Rep K σ h w):∀ q:Nat,Rep K σ h (w.drewN q)
 | _=>⟨r.dom,fun b o hg hl=>let ⟨i,hi,ho⟩:=r.obj b o hg hl; ⟨i,hi,ho.keep (Sg.le_refl σ) rfl⟩,r.own,⟨r.below.os,r.below.tape,r.below.output,r.below.size,r.below.block⟩,r.le,r.esz,r.dfr⟩
theorem Rep.grow {K:Bs}{σ:Sg}{h:AH}{w:World} (r:Rep K σ h w) (os:Array Obj):Rep K σ h (Sort.grow w os):=by
 have old:∀ k,k<w.heap.size→(Sort.grow w os).heap[k]?=w.heap[k]?:=fun k hk=>heap_grow_old w os hk
 have hsz:w.heap.size≤(Sort.grow w os).heap.size:=by simp [Sort.grow]
 refine⟨r.dom,fun b o hg hl=>?_,r.own,⟨r.below.os,r.below.tape,r.below.output,Nat.le_trans r.below.size hsz,fun k hk=>?_⟩,Nat.le_trans r.le hsz,r.esz,r.dfr.1,fun k hk=>?_⟩
 ·obtain⟨i,hi,ho⟩:=r.obj b o hg hl
  exact⟨i,hi,ho.keep (Sg.le_refl σ) (old _ (ho.lt hl))⟩
 ·rw[old _ (Nat.lt_of_lt_of_le hk r.le)]
  exact r.below.block k hk
 ·have:=r.dfr.2 k hk
  rw[old _ (Array.getElem?_eq_some_iff.1 this).1]
  exact this
theorem VRs_ints {σ:Sg}:∀ zs:List Int,VRs σ (zs.map (AV.int .i64)) (zs.map (Value.int .i64))
 | []=>by simp [VRs]
 | z::r=>by
   simp only[List.map_cons,VRs]
   exact⟨_,_,rfl,by simp [VR],VRs_ints r⟩
theorem srt_call {P:Program}{f:FuncId}{h h':AH}{b o n c:Nat}{zs:List Int} (hS:SrtOK P f) (hrd:rdCells h b o n=some (zs.map (AV.int .i64))) (hwr:wrCells h b o (srtI zs)=some h') (hlen:n<2 ^ 62) :
 SndCall P f [.sl b o n c] h fun x=>x=.val (.tup []) h':=by
 unfold srtI at hwr
 intro K σ w args' hK r hgl hv
 simp only[VRs] at hv
 obtain⟨v',vs',hargs,hv,rfl⟩:=hv
 obtain rfl:args'=#[v']:=by cases args'; simp_all
 simp only[VR] at hv
 obtain⟨p,o',c',hp,rfl,hoff,hcc,hnc,hsp⟩:=hv
 have hzn:zs.length=n:=by
  have hl:(zs.map (AV.int .i64)).length=n:=by
   unfold rdCells at hrd
   split at hrd
   ·split at hrd
    ·rename_i hle
     simp only[Option.some.injEq] at hrd
     rw[← hrd,List.length_take,List.length_drop]
     omega
    ·cases hrd
   ·cases hrd
  rwa [List.length_map] at hl
 have hsl:(zs.mergeSort fun x y=>decide (x≤y)).length=zs.length:=List.length_mergeSort ..
 obtain⟨vs,hvs,hvl,hcell⟩:=r.rd hrd hp
 have hve:vs=zs.map (Value.int .i64):=by
  have key:∀ (ys:List Int) (us:List Value),VRs σ (ys.map (AV.int .i64)) us→us=ys.map (Value.int .i64):=by
   intro ys
   induction ys with
   | nil=>intro us h; simpa [VRs] using h
   | cons y r ih =>
     intro us h
     simp only[List.map_cons,VRs] at h
     obtain⟨x,xs,rfl,h1,h2⟩:=h
     simp only[VR] at h1
     rw[h1,ih _ h2]
     rfl
  exact key _ _ hvs
 subst hve
 obtain⟨i',hi',g1,g2,g3⟩:=(r.drewN 0).wr hwr (VRs_ints _)
 rw[hp] at hi'
 cases hi'
 rw[List.length_map,hsl] at g1 g2
 have hlt:p.blk<w.heap.size:=by
  unfold wrCells at hwr
  split at hwr
  ·rename_i cs e hg
   obtain⟨i,hi,ho⟩:=r.obj b _ hg rfl
   rw[hp] at hi
   cases hi
   exact ho.lt rfl
  ·cases hwr
 have ho':n=0∨o'=p.d+o:=by rcases hoff with q|q<;>omega
 have hH:Holds (Value.int .i64) w p.blk o' zs.toArray:=by
  intro j hj
  have hj':j<zs.length:=by simpa using hj
  have e:o'=p.d+o:=by omega
  subst e
  have h1:=hcell j (.int .i64 zs[j]) (by rw[List.getElem?_map,List.getElem?_eq_getElem hj']; rfl)
  refine⟨?_,by have:=g2 j hj'; simpa using this⟩
  rw[h1]
  simp [hj']
 have hc:=hS p.blk o' c' zs w hH hlt (by omega)
 rw[hzn] at hc
 refine callsIn_wide.2 (hc.mono ?_)
 rintro e w' ⟨rfl,q,os,rfl⟩
 rw[Lib.sorted_world _ w p.blk o' q _ _ os hH (by simp)]
 obtain⟨i2,hi2,_,_,g4⟩:=(r.drewN q).wr hwr (VRs_ints _)
 rw[hp] at hi2
 cases hi2
 have hset:(w.drewN q).setCells p.blk o' ((zs.mergeSort fun x y=>decide (x≤y)).map (Value.int .i64))=(w.drewN q).setCells p.blk (p.d+o) ((zs.mergeSort fun x y=>decide (x≤y)).map (Value.int .i64)):=by
  rcases ho' with q0|q0
  ·have hz:zs=[]:=List.length_eq_zero_iff.1 (by omega)
   subst hz
   simp [World.setCells]
  ·rw[q0]
 rw[hset]
 exact⟨.tup [],h',.tuple #[],σ,rfl,rfl,Sg.le_refl σ,by simp [VR,VRs],g4.grow os⟩
theorem srts_of {P:Program}{f:FuncId} (hS:SrtOK P f) (hc:∃ rf,cFunc P f=some rf):Srts P f:=⟨hc,fun a b c=>srt_call hS a b c⟩
end Go.Am
