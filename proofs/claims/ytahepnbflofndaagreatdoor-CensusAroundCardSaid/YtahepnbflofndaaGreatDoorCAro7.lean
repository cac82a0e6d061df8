/-
  In how many ways edges of blocks can stand around a vertex: seven edges.
-/
import Derived.Test.YtahepnbflofndaaGreatDoorCAroP
set_option linter.all false
namespace Go.Aro
def okS (s:List Nat):Bool:=Nat.beq (aroundM s) (prodM (numbers s))
theorem s0:okS [1,1,1,1,1,1,1]=true:=by kernel_rfl
theorem s1:okS [1,1,1,1,1,2]=true:=by kernel_rfl
theorem s2:okS [1,1,1,1,2,1]=true:=by kernel_rfl
theorem s3:okS [1,1,1,1,3]=true:=by kernel_rfl
theorem s4:okS [1,1,1,2,1,1]=true:=by kernel_rfl
theorem s5:okS [1,1,1,2,2]=true:=by kernel_rfl
theorem s6:okS [1,1,1,3,1]=true:=by kernel_rfl
theorem s7:okS [1,1,1,4]=true:=by kernel_rfl
theorem s8:okS [1,1,2,1,1,1]=true:=by kernel_rfl
theorem s9:okS [1,1,2,1,2]=true:=by kernel_rfl
theorem s10:okS [1,1,2,2,1]=true:=by kernel_rfl
theorem s11:okS [1,1,2,3]=true:=by kernel_rfl
theorem s12:okS [1,1,3,1,1]=true:=by kernel_rfl
theorem s13:okS [1,1,3,2]=true:=by kernel_rfl
theorem s14:okS [1,1,4,1]=true:=by kernel_rfl
theorem s15:okS [1,1,5]=true:=by kernel_rfl
theorem s16:okS [1,2,1,1,1,1]=true:=by kernel_rfl
theorem s17:okS [1,2,1,1,2]=true:=by kernel_rfl
theorem s18:okS [1,2,1,2,1]=true:=by kernel_rfl
theorem s19:okS [1,2,1,3]=true:=by kernel_rfl
theorem s20:okS [1,2,2,1,1]=true:=by kernel_rfl
theorem s21:okS [1,2,2,2]=true:=by kernel_rfl
theorem s22:okS [1,2,3,1]=true:=by kernel_rfl
theorem s23:okS [1,2,4]=true:=by kernel_rfl
theorem s24:okS [1,3,1,1,1]=true:=by kernel_rfl
theorem s25:okS [1,3,1,2]=true:=by kernel_rfl
theorem s26:okS [1,3,2,1]=true:=by kernel_rfl
theorem s27:okS [1,3,3]=true:=by kernel_rfl
theorem s28:okS [1,4,1,1]=true:=by kernel_rfl
theorem s29:okS [1,4,2]=true:=by kernel_rfl
theorem s30:okS [1,5,1]=true:=by kernel_rfl
theorem s31:okS [1,6]=true:=by kernel_rfl
theorem s32:okS [2,1,1,1,1,1]=true:=by kernel_rfl
theorem s33:okS [2,1,1,1,2]=true:=by kernel_rfl
theorem s34:okS [2,1,1,2,1]=true:=by kernel_rfl
theorem s35:okS [2,1,1,3]=true:=by kernel_rfl
theorem s36:okS [2,1,2,1,1]=true:=by kernel_rfl
theorem s37:okS [2,1,2,2]=true:=by kernel_rfl
theorem s38:okS [2,1,3,1]=true:=by kernel_rfl
theorem s39:okS [2,1,4]=true:=by kernel_rfl
theorem s40:okS [2,2,1,1,1]=true:=by kernel_rfl
theorem s41:okS [2,2,1,2]=true:=by kernel_rfl
theorem s42:okS [2,2,2,1]=true:=by kernel_rfl
theorem s43:okS [2,2,3]=true:=by kernel_rfl
theorem s44:okS [2,3,1,1]=true:=by kernel_rfl
theorem s45:okS [2,3,2]=true:=by kernel_rfl
theorem s46:okS [2,4,1]=true:=by kernel_rfl
theorem s47:okS [2,5]=true:=by kernel_rfl
theorem s48:okS [3,1,1,1,1]=true:=by kernel_rfl
theorem s49:okS [3,1,1,2]=true:=by kernel_rfl
theorem s50:okS [3,1,2,1]=true:=by kernel_rfl
theorem s51:okS [3,1,3]=true:=by kernel_rfl
theorem s52:okS [3,2,1,1]=true:=by kernel_rfl
theorem s53:okS [3,2,2]=true:=by kernel_rfl
theorem s54:okS [3,3,1]=true:=by kernel_rfl
theorem s55:okS [3,4]=true:=by kernel_rfl
theorem s56:okS [4,1,1,1]=true:=by kernel_rfl
theorem s57:okS [4,1,2]=true:=by kernel_rfl
theorem s58:okS [4,2,1]=true:=by kernel_rfl
theorem s59:okS [4,3]=true:=by kernel_rfl
theorem s60:okS [5,1,1]=true:=by kernel_rfl
theorem s61:okS [5,2]=true:=by kernel_rfl
theorem s62:okS [6,1]=true:=by kernel_rfl
theorem s63:okS [7]=true:=by kernel_rfl
theorem comps7:comps 7 7=[[1,1,1,1,1,1,1],[1,1,1,1,1,2],[1,1,1,1,2,1],[1,1,1,1,3],[1,1,1,2,1,1],[1,1,1,2,2],[1,1,1,3,1],[1,1,1,4],[1,1,2,1,1,1],[1,1,2,1,2],[1,1,2,2,1],[1,1,2,3],[1,1,3,1,1],[1,1,3,2],[1,1,4,1],[1,1,5],[1,2,1,1,1,1],[1,2,1,1,2],[1,2,1,2,1],[1,2,1,3],[1,2,2,1,1],[1,2,2,2],[1,2,3,1],[1,2,4],[1,3,1,1,1],[1,3,1,2],[1,3,2,1],[1,3,3],[1,4,1,1],[1,4,2],[1,5,1],[1,6],[2,1,1,1,1,1],[2,1,1,1,2],[2,1,1,2,1],[2,1,1,3],[2,1,2,1,1],[2,1,2,2],[2,1,3,1],[2,1,4],[2,2,1,1,1],[2,2,1,2],[2,2,2,1],[2,2,3],[2,3,1,1],[2,3,2],[2,4,1],[2,5],[3,1,1,1,1],[3,1,1,2],[3,1,2,1],[3,1,3],[3,2,1,1],[3,2,2],[3,3,1],[3,4],[4,1,1,1],[4,1,2],[4,2,1],[4,3],[5,1,1],[5,2],[6,1],[7]]:=by kernel_rfl
theorem ok7:okN 7=true:=by
 unfold okN
 rw[comps7,List.all_eq_true]
 intro s hs
 show okS s=true
 simp only[List.mem_cons,List.not_mem_nil,or_false] at hs
 rcases hs with rfl|rfl|rfl|rfl|rfl|rfl|rfl|rfl|rfl|rfl|rfl|rfl|rfl|rfl|rfl|rfl|rfl|rfl|rfl|rfl|rfl|rfl|rfl|rfl|rfl|rfl|rfl|rfl|rfl|rfl|rfl|rfl|rfl|rfl|rfl|rfl|rfl|rfl|rfl|rfl|rfl|rfl|rfl|rfl|rfl|rfl|rfl|rfl|rfl|rfl|rfl|rfl|rfl|rfl|rfl|rfl|rfl|rfl|rfl|rfl|rfl|rfl|rfl|rfl
 ·exact s0
 ·exact s1
 ·exact s2
 ·exact s3
 ·exact s4
 ·exact s5
 ·exact s6
 ·exact s7
 ·exact s8
 ·exact s9
 ·exact s10
 ·exact s11
 ·exact s12
 ·exact s13
 ·exact s14
 ·exact s15
 ·exact s16
 ·exact s17
 ·exact s18
 ·exact s19
 ·exact s20
 ·exact s21
 ·exact s22
 ·exact s23
 ·exact s24
 ·exact s25
 ·exact s26
 ·exact s27
 ·exact s28
 ·exact s29
 ·exact s30
 ·exact s31
 ·exact s32
 ·exact s33
 ·exact s34
 ·exact s35
 ·exact s36
 ·exact s37
 ·exact s38
 ·exact s39
 ·exact s40
 ·exact s41
 ·exact s42
 ·exact s43
 ·exact s44
 ·exact s45
 ·exact s46
 ·exact s47
 ·exact s48
 ·exact s49
 ·exact s50
 ·exact s51
 ·exact s52
 ·exact s53
 ·exact s54
 ·exact s55
 ·exact s56
 ·exact s57
 ·exact s58
 ·exact s59
 ·exact s60
 ·exact s61
 ·exact s62
 ·exact s63
end Go.Aro
