/- The functions in the clean machine's form -/
import Derived.Test.YtahepnbflofndaaGreatDoorProg
import Derived.Test.YtahepnbflofndaaGreatDoorKAmEnd
import Derived.Test.YtahepnbflofndaaGreatDoorKAmS
import Derived.KernelRfl
set_option linter.all false
namespace Go.Proofs.YtahepnbflofndaaGreatDoor
open Go.Am
set_option maxRecDepth 100000
def rf198:RF:=⟨[(.t 8)],(kS [o1 5 (.box 1 1 (.t 1)),mb 8 false] (kS [mv 9 0,nk 10 9,fa 11 0 10,ld 12 11,mv 13 2,mv 14 3,o1 15 (.slL 3 (.t 12) (some (.t 13)) (some (.t 14)) none),o1 16 (.mkf 220 [(.t 5)]),cC 17 219 [15,16],nt 18 17,mv 8 18] .ret))⟩
theorem cf198:(bW Tryz.prog 198).bind cS=some rf198:=by kernel_rfl
def rf199:RF:=⟨[(.t 2)],(kS [mn 2] (kS [mi 3 0] (.seq (kS [mv 9 0,le 10 9,mi 11 0] (kF 0 11 10 12 22 1 (kS [ia 13 1 9 11,ld 14 13,mv 5 14] (kS [mv 15 3,mv 16 5,le 17 16,bn 18 .add 15 17,mv 3 18] (kS [mv 19 3,bc 20 .lss 19 0] (kT 20 (.reg [o1 21 (.mki 9 (.c (.str [108,101,110,32,111,117,116,32,111,102,32,114,97,110,103,101]))),o0 .bad]) .skip)))))) (kS [mv 23 3,o1 24 (.call 221 [(.c .nils),(.t 23)]),mv 6 24] (.seq (kS [mv 25 0,le 26 25,mi 27 0] (kF 2 27 26 28 34 3 (kS [ia 29 1 25 27,ld 30 29,mv 8 30] (.reg [mv 31 6,mv 32 8,o1 33 (.app 3 24 (.t 31) (.t 32)),mv 6 33])))) (kS [mv 35 6,mv 2 35] .ret))))))⟩
theorem cf199:(bW Tryz.prog 199).bind cS=some rf199:=by kernel_rfl
def rf200:RF:=⟨[(.t 2)],(kS [mb 2 false] (kS [mv 3 0,mv 4 0,bn 5 .neq 3 4,mv 2 5] .ret))⟩
theorem cf200:(bW Tryz.prog 200).bind cS=some rf200:=by kernel_rfl
def rf204:RF:=⟨[(.t 2)],(kS [mn 2] (.seq (kS [mv 3 0,o1 4 (.bin .eql .nls (.t 3) (.c .nils))] (kT 4 (kS [mn 2] .ret) .skip)) (kS [o1 5 (.mksl [(.int .i64 0)] 1 0 []),mv 6 0,o1 7 (.app 1 8 (.t 5) (.t 6)),mv 2 7] .ret)))⟩
theorem cf204:(bW Tryz.prog 204).bind cS=some rf204:=by kernel_rfl
def rf219:RF:=⟨[(.t 4)],(kS [mb 4 false] (kS [mv 5 0,mv 6 1,cC 7 230 [5,6],bc 8 .geq 7 0,mv 4 8] .ret))⟩
theorem cf219:(bW Tryz.prog 219).bind cS=some rf219:=by kernel_rfl
def rf220:RF:=⟨[(.t 3)],(kS [o1 2 (.box 3 3 (.t 0)),mb 3 false] (kS [fa 4 2 2,ld 5 4,ld 6 1,bn 7 .neq 5 6,mv 8 7,og 9 (.fadr 2 (.t 2)) 8 true,og 10 (.load false 1 (.t 9)) 8 true,og 11 (.bin .neq .no (.t 10) (ci (-1))) 8 true,o1 12 (.pick (.t 8) (.t 11) (.c (.bool false))),mv 3 12] .ret))⟩
theorem cf220:(bW Tryz.prog 220).bind cS=some rf220:=by kernel_rfl
def rf221:RF:=⟨[(.t 4)],(kS [mn 4] (.seq (kS [mv 5 1,bc 6 .lss 5 0] (kT 6 (.reg [o1 7 (.mki 9 (.c (.str [99,97,110,110,111,116,32,98,101,32,110,101,103,97,116,105,118,101]))),o0 .bad]) .skip)) (.seq (kS [mv 8 1,mv 9 0,o1 10 (.capL (.t 9)),mv 11 0,le 12 11,bn 13 .sub 10 12,bn 14 .sub 8 13,mv 1 14] (kS [mv 15 1,bc 16 .gtr 15 0] (kT 16 (.reg [mv 17 0,mv 18 0,o1 19 (.capL (.t 18)),o1 20 (.slL 3 (.t 17) none (some (.t 19)) none),mv 21 1,o1 22 (.apz [(.int .i64 0),(.int .i64 0),(.int .i64 0)] 24 (.t 20) (.t 21)),mv 23 0,le 24 23,o1 25 (.slL 3 (.t 22) none (some (.t 24)) none),mv 0 25]) .skip))) (kS [mv 26 0,mv 4 26] .ret))))⟩
theorem cf221:(bW Tryz.prog 221).bind cS=some rf221:=by kernel_rfl
def rf230:RF:=⟨[(.t 4)],(kS [mi 4 0] (.seq (kS [mv 6 0,le 7 6,mi 8 0] (kF 0 8 7 9 18 1 (kS [mv 10 8,mv 5 10] (kS [mv 11 1,mv 12 0,mv 13 5,ia 14 3 12 13,la 15 3 14,o1 16 (.callv (.t 11) [(.t 15)])] (kT 16 (kS [mv 17 5,mv 4 17] .ret) .skip))))) (kS [mi 4 (-1)] .ret)))⟩
theorem cf230:(bW Tryz.prog 230).bind cS=some rf230:=by kernel_rfl
end Go.Proofs.YtahepnbflofndaaGreatDoor
