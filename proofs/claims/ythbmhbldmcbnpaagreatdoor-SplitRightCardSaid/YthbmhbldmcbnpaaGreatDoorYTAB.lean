/- The functions in the clean machine's form -/
import Derived.Test.YthbmhbldmcbnpaaGreatDoorProg
import Derived.Test.YthbmhbldmcbnpaaGreatDoorYAmEnd
import Derived.Test.YthbmhbldmcbnpaaGreatDoorYAmS
import Derived.KernelRfl
import Derived.Test.YthbmhbldmcbnpaaGreatDoorYTAA
import Derived.Test.YthbmhbldmcbnpaaGreatDoorYAmK
set_option linter.all false
namespace Go.Proofs.YthbmhbldmcbnpaaGreatDoor
open Go.Am
set_option maxRecDepth 100000
def rf81:RF:=⟨[],(kS [mb 8 true] (kS [mb 9 true] (.block 0 (.loop (.block 1 (kS [mv 19 2,mv 20 1,bn 21 .sub 19 20,mv 10 21] (.seq (kS [mv 22 10,bc 23 .leq 22 12] (kT 23 (kS [mv 24 0,mv 25 1,mv 26 2,cC 27 96 [24,25,26]] .ret) .skip)) (.seq (kS [mv 28 3,bc 29 .eql 28 0] (kT 29 (kS [mv 30 0,mv 31 1,mv 32 2,cC 33 97 [30,31,32]] .ret) .skip)) (.seq (kS [mv 34 8,nt 35 34] (kT 35 (kS [mv 36 0,mv 37 1,mv 38 2,cC 39 98 [36,37,38]] (.reg [mv 40 3,bc 41 .sub 40 1,mv 3 41])) .skip)) (kS [mv 43 0,mv 44 1,mv 45 2,cC 46 99 [43,44,45],mv 42 46,ex 47 42 0,ex 48 42 1,mv 11 47,mv 12 48] (.seq (kS [mv 49 12,bc 50 .eql 49 2] (kT 50 (kS [mv 51 0,mv 52 1,mv 53 2,cC 54 100 [51,52,53]] (kS [mv 55 2,bc 56 .sub 55 1,mv 57 11,mv 58 1,bn 59 .sub 57 58,bn 60 .sub 56 59,mv 11 60] (.reg [mi 12 1]))) .skip)) (.seq (kS [mv 61 8,mv 62 61,og 63 (.mov (.t 9)) 62 true,o1 64 (.pick (.t 62) (.t 63) (.c (.bool false))),mv 65 64,og 66 (.mov (.t 12)) 65 true,og 67 (.bin .eql .no (.t 66) (ci 1)) 65 true,o1 68 (.pick (.t 65) (.t 67) (.c (.bool false)))] (kT 68 (kS [mv 69 0,mv 70 1,mv 71 2,cC 72 101 [69,70,71]] (kT 72 .ret .skip)) .skip)) (.seq (kS [mv 73 1,bc 74 .gtr 73 0,mv 75 74,og 76 (.mov (.t 0)) 75 true,og 77 (.mov (.t 1)) 75 true,og 78 (.bin .sub .no (.t 77) (ci 1)) 75 true,og 79 (.iadr 1 (.t 76) (.t 78)) 75 true,og 80 (.load false 1 (.t 79)) 75 true,og 81 (.mov (.t 0)) 75 true,og 82 (.mov (.t 11)) 75 true,og 83 (.iadr 1 (.t 81) (.t 82)) 75 true,og 84 (.load false 1 (.t 83)) 75 true,og 85 (.call 82 [(.t 80),(.t 84)]) 75 true,og 86 (.un .not (.t 85)) 75 true,o1 87 (.pick (.t 75) (.t 86) (.c (.bool false)))] (kT 87 (kS [mv 88 0,mv 89 1,mv 90 2,mv 91 11,cC 92 102 [88,89,90,91],mv 13 92] (kS [mv 93 13,mv 1 93] (.exit 1))) .skip)) (kS [mv 95 0,mv 96 1,mv 97 2,mv 98 11,cC 99 103 [95,96,97,98],mv 94 99,ex 100 94 0,ex 101 94 1,mv 14 100,mv 15 101] (kS [mv 102 15,mv 9 102] (kS [mv 103 14,mv 104 1,bn 105 .sub 103 104,mv 106 2,mv 107 14,bn 108 .sub 106 107,mv 16 105,mv 17 108] (kS [mv 109 10,bc 110 .quo 109 8,mv 18 110] (kS [mv 111 16,mv 112 17,bn 113 .lss 111 112] (kT 113 (kS [mv 114 16,mv 115 18,bn 116 .geq 114 115,mv 8 116] (kS [mv 117 0,mv 118 1,mv 119 14,mv 120 3,cC 121 81 [117,118,119,120]] (.reg [mv 122 14,bc 123 .add 122 1,mv 1 123]))) (kS [mv 124 17,mv 125 18,bn 126 .geq 124 125,mv 8 126] (kS [mv 127 0,mv 128 14,bc 129 .add 128 1,mv 130 2,mv 131 3,cC 132 81 [127,129,130,131]] (.reg [mv 133 14,mv 2 133]))))))))))))))))))))))⟩
theorem cf81:(bB Tryz.prog 81).bind cx=some rf81:=by kernel_rfl
def rf82:RF:=⟨[(.t 4)],(kS [mb 4 false] (kS [mv 5 0,cC 6 104 [5],mv 7 6,og 8 (.mov (.t 1)) 7 true,og 9 (.call 104 [(.t 8)]) 7 true,og 10 (.un .not (.t 9)) 7 true,o1 11 (.pick (.t 7) (.t 10) (.c (.bool false))),mv 12 11,og 13 (.mov (.t 0)) 12 false,og 14 (.mov (.t 1)) 12 false,og 15 (.bin .lss .no (.t 13) (.t 14)) 12 false,o1 16 (.pick (.t 12) (.c (.bool true)) (.t 15)),mv 4 16] .ret))⟩
theorem cf82:(bB Tryz.prog 82).bind cx=some rf82:=by kernel_rfl
def rf83:RF:=⟨[(.t 2)],(kS [mb 2 false] (kS [mv 3 0,mv 4 0,bn 5 .neq 3 4,mv 2 5] .ret))⟩
theorem cf83:(bB Tryz.prog 83).bind cx=some rf83:=by kernel_rfl
def rf84:RF:=⟨[(.t 4)],(kS [mi 4 0] (.seq (kS [mv 6 0,le 7 6,mi 8 0] (kF 0 8 7 9 18 1 (kS [mv 10 8,mv 5 10] (kS [mv 11 1,mv 12 0,mv 13 5,ia 14 1 12 13,ld 15 14,bn 16 .eql 11 15] (kT 16 (kS [mv 17 5,mv 4 17] .ret) .skip))))) (kS [mi 4 (-1)] .ret)))⟩
theorem cf84:(bB Tryz.prog 84).bind cx=some rf84:=by kernel_rfl
def rf85:RF:=⟨[(.t 2)],(kS [o1 1 (.box 1 1 (.t 0)),o1 2 (.mov (.c .nilf))] (kS [o1 3 (.mkf 105 [(.t 1)]),mv 2 3] .ret))⟩
theorem cf85:(bB Tryz.prog 85).bind cx=some rf85:=by kernel_rfl
def rf86:RF:=⟨[],(kS [mv 10 1,bc 11 .add 10 1,mv 8 11] (kW 0 14 1 [mv 12 8,mv 13 2,bn 14 .lss 12 13] [mv 15 8,bc 16 .add 15 1,mv 8 16] (kS [mv 17 8,mv 9 17] (kW 2 34 3 [mv 18 9,mv 19 1,bn 20 .gtr 18 19,mv 21 20,og 22 (.mov (.t 3)) 21 true,og 23 (.mov (.t 0)) 21 true,og 24 (.mov (.t 9)) 21 true,og 25 (.iadr 1 (.t 23) (.t 24)) 21 true,og 26 (.load false 1 (.t 25)) 21 true,og 27 (.mov (.t 0)) 21 true,og 28 (.mov (.t 9)) 21 true,og 29 (.bin .sub .no (.t 28) (ci 1)) 21 true,og 30 (.iadr 1 (.t 27) (.t 29)) 21 true,og 31 (.load false 1 (.t 30)) 21 true,og 32 (.callv (.t 22) [(.t 26),(.t 31)]) 21 true,og 33 (.bin .lss .no (.t 32) (ci 0)) 21 true,o1 34 (.pick (.t 21) (.t 33) (.c (.bool false)))] [mv 35 9,bc 36 .sub 35 1,mv 9 36] (.reg [mv 37 0,mv 38 9,mv 39 0,mv 40 9,bc 41 .sub 40 1,mv 42 0,mv 43 9,bc 44 .sub 43 1,ia 45 1 42 44,ld 46 45,mv 47 0,mv 48 9,ia 49 1 47 48,ld 50 49,ia 51 1 37 38,so 51 46,ia 52 1 39 41,so 52 50])))))⟩
theorem cf86:(bB Tryz.prog 86).bind cx=some rf86:=by kernel_rfl
def rf94:RF:=⟨[(.t 2)],(kS [mi 2 0] (.seq (kS [mv 3 0,o1 4 (.bin .geq .no (.t 3) (.c (.int .u32 65536)))] (kT 4 (kS [mv 5 0,o1 6 (.bin .shr .no (.t 5) (.c (.int .u64 16))),mv 0 6] (.reg [mi 2 16])) .skip)) (.seq (kS [mv 7 0,o1 8 (.bin .geq .no (.t 7) (.c (.int .u32 256)))] (kT 8 (kS [mv 9 0,o1 10 (.bin .shr .no (.t 9) (.c (.int .u64 8))),mv 0 10] (.reg [mv 11 2,bc 12 .add 11 8,mv 2 12])) .skip)) (kS [mv 13 2,mv 14 0,o1 15 (.cvI .u8 (.t 14)),o1 16 (.idxS (.c (.str [0,1,2,2,3,3,3,3,4,4,4,4,4,4,4,4,5,5,5,5,5,5,5,5,5,5,5,5,5,5,5,5,6,6,6,6,6,6,6,6,6,6,6,6,6,6,6,6,6,6,6,6,6,6,6,6,6,6,6,6,6,6,6,6,7,7,7,7,7,7,7,7,7,7,7,7,7,7,7,7,7,7,7,7,7,7,7,7,7,7,7,7,7,7,7,7,7,7,7,7,7,7,7,7,7,7,7,7,7,7,7,7,7,7,7,7,7,7,7,7,7,7,7,7,7,7,7,7,8,8,8,8,8,8,8,8,8,8,8,8,8,8,8,8,8,8,8,8,8,8,8,8,8,8,8,8,8,8,8,8,8,8,8,8,8,8,8,8,8,8,8,8,8,8,8,8,8,8,8,8,8,8,8,8,8,8,8,8,8,8,8,8,8,8,8,8,8,8,8,8,8,8,8,8,8,8,8,8,8,8,8,8,8,8,8,8,8,8,8,8,8,8,8,8,8,8,8,8,8,8,8,8,8,8,8,8,8,8,8,8,8,8,8,8,8,8,8,8,8,8,8,8,8,8,8,8])) (.t 15)),o1 17 (.cvI .i64 (.t 16)),bn 18 .add 13 17,mv 2 18] .ret))))⟩
theorem cf94:(bB Tryz.prog 94).bind cx=some rf94:=by kernel_rfl
def rf95:RF:=⟨[(.t 2)],(kS [mi 2 0] (.seq (kS [mv 3 0,o1 4 (.bin .geq .no (.t 3) (.c (.int .u64 4294967296)))] (kT 4 (kS [mv 5 0,o1 6 (.bin .shr .no (.t 5) (.c (.int .u64 32))),mv 0 6] (.reg [mi 2 32])) .skip)) (.seq (kS [mv 7 0,o1 8 (.bin .geq .no (.t 7) (.c (.int .u64 65536)))] (kT 8 (kS [mv 9 0,o1 10 (.bin .shr .no (.t 9) (.c (.int .u64 16))),mv 0 10] (.reg [mv 11 2,bc 12 .add 11 16,mv 2 12])) .skip)) (.seq (kS [mv 13 0,o1 14 (.bin .geq .no (.t 13) (.c (.int .u64 256)))] (kT 14 (kS [mv 15 0,o1 16 (.bin .shr .no (.t 15) (.c (.int .u64 8))),mv 0 16] (.reg [mv 17 2,bc 18 .add 17 8,mv 2 18])) .skip)) (kS [mv 19 2,mv 20 0,o1 21 (.cvI .u8 (.t 20)),o1 22 (.idxS (.c (.str [0,1,2,2,3,3,3,3,4,4,4,4,4,4,4,4,5,5,5,5,5,5,5,5,5,5,5,5,5,5,5,5,6,6,6,6,6,6,6,6,6,6,6,6,6,6,6,6,6,6,6,6,6,6,6,6,6,6,6,6,6,6,6,6,7,7,7,7,7,7,7,7,7,7,7,7,7,7,7,7,7,7,7,7,7,7,7,7,7,7,7,7,7,7,7,7,7,7,7,7,7,7,7,7,7,7,7,7,7,7,7,7,7,7,7,7,7,7,7,7,7,7,7,7,7,7,7,7,8,8,8,8,8,8,8,8,8,8,8,8,8,8,8,8,8,8,8,8,8,8,8,8,8,8,8,8,8,8,8,8,8,8,8,8,8,8,8,8,8,8,8,8,8,8,8,8,8,8,8,8,8,8,8,8,8,8,8,8,8,8,8,8,8,8,8,8,8,8,8,8,8,8,8,8,8,8,8,8,8,8,8,8,8,8,8,8,8,8,8,8,8,8,8,8,8,8,8,8,8,8,8,8,8,8,8,8,8,8,8,8,8,8,8,8,8,8,8,8,8,8,8,8,8,8,8,8])) (.t 21)),o1 23 (.cvI .i64 (.t 22)),bn 24 .add 19 23,mv 2 24] .ret)))))⟩
theorem cf95:(bB Tryz.prog 95).bind cx=some rf95:=by kernel_rfl
def rf96:RF:=⟨[],(kS [mv 8 1,bc 9 .add 8 1,mv 6 9] (kW 0 12 1 [mv 10 6,mv 11 2,bn 12 .lss 10 11] [mv 13 6,bc 14 .add 13 1,mv 6 14] (kS [mv 15 6,mv 7 15] (kW 2 30 3 [mv 16 7,mv 17 1,bn 18 .gtr 16 17,mv 19 18,og 20 (.mov (.t 0)) 19 true,og 21 (.mov (.t 7)) 19 true,og 22 (.iadr 1 (.t 20) (.t 21)) 19 true,og 23 (.load false 1 (.t 22)) 19 true,og 24 (.mov (.t 0)) 19 true,og 25 (.mov (.t 7)) 19 true,og 26 (.bin .sub .no (.t 25) (ci 1)) 19 true,og 27 (.iadr 1 (.t 24) (.t 26)) 19 true,og 28 (.load false 1 (.t 27)) 19 true,og 29 (.call 82 [(.t 23),(.t 28)]) 19 true,o1 30 (.pick (.t 19) (.t 29) (.c (.bool false)))] [mv 31 7,bc 32 .sub 31 1,mv 7 32] (.reg [mv 33 0,mv 34 7,mv 35 0,mv 36 7,bc 37 .sub 36 1,mv 38 0,mv 39 7,bc 40 .sub 39 1,ia 41 1 38 40,ld 42 41,mv 43 0,mv 44 7,ia 45 1 43 44,ld 46 45,ia 47 1 33 34,so 47 42,ia 48 1 35 37,so 48 46])))))⟩
theorem cf96:(bB Tryz.prog 96).bind cx=some rf96:=by kernel_rfl
def rf104:RF:=⟨[(.t 2)],(kS [mb 2 false] (kS [mv 3 0,mv 4 0,bn 5 .neq 3 4,mv 2 5] .ret))⟩
theorem cf104:(bB Tryz.prog 104).bind cx=some rf104:=by kernel_rfl
def rf105:RF:=⟨[],(kS [ld 5 1,le 6 5,mi 7 0] (kF 0 7 6 8 15 1 (kS [ia 9 1 5 7,ld 10 9,mv 4 10] (kS [mv 11 0,mv 12 4,o1 13 (.callv (.t 11) [(.t 12)]),nt 14 13] (kT 14 .ret .skip)))))⟩
theorem cf105:(bB Tryz.prog 105).bind cx=some rf105:=by kernel_rfl
open Go.Am
set_option maxRecDepth 100000
def mks:List (Nat×RF):=[(58,qQ),(54,pQ 55)]
def tab:List (Nat×RF):=[(3,rf3),(4,rf4),(5,rf5),(6,rf6),(7,rf7),(8,rf8),(9,rf9),(10,rf10),(11,rf11),(12,rf12),(13,rf13),(14,rf14),(15,rf15),(16,rf16),(17,rf17),(18,rf18),(19,rf19),(20,rf20),(21,rf21),(22,rf22),(23,rf23),(24,rf24),(25,rf25),(26,rf26),(27,rf27),(28,rf28),(29,rf29),(30,rf30),(31,rf31),(32,rf32),(33,rf33),(34,rf34),(35,rf35),(36,rf36),(37,rf37),(38,rf38),(39,rf39),(40,rf40),(41,rf41),(42,rf42),(43,rf43),(44,rf44),(45,rf45),(46,rf46),(47,rf47),(48,rf48),(49,rf49),(50,rf50),(51,rf51),(52,rf52),(53,rf53),(54,rf54),(55,rf55),(56,rf56),(57,rf57),(58,rf58),(59,rf59),(60,rf60),(61,rf61),(62,rf62),(63,rf63),(64,rf64),(65,rf65),(66,rf66),(67,rf67),(68,rf68),(69,rf69),(70,rf70),(71,rf71),(72,rf72),(73,rf73),(74,rf74),(75,rf75),(76,rf76),(77,rf77),(78,rf78),(79,rf79),(80,rf80),(81,rf81),(82,rf82),(83,rf83),(84,rf84),(85,rf85),(86,rf86),(94,rf94),(95,rf95),(96,rf96),(104,rf104),(105,rf105)]
noncomputable def prg:RP:=λf=>lkp tab f (zh Tryz.prog mks f)
theorem pf3:prg 3=some rf3:=rfl
theorem pf5:prg 5=some rf5:=rfl
theorem pf6:prg 6=some rf6:=rfl
theorem pf7:prg 7=some rf7:=rfl
theorem pf8:prg 8=some rf8:=rfl
theorem pf9:prg 9=some rf9:=rfl
theorem pf12:prg 12=some rf12:=rfl
theorem pf13:prg 13=some rf13:=rfl
theorem pf14:prg 14=some rf14:=rfl
theorem pf15:prg 15=some rf15:=rfl
theorem pf16:prg 16=some rf16:=rfl
theorem pf17:prg 17=some rf17:=rfl
theorem pf18:prg 18=some rf18:=rfl
theorem pf19:prg 19=some rf19:=rfl
theorem pf20:prg 20=some rf20:=rfl
theorem pf24:prg 24=some rf24:=rfl
theorem pf25:prg 25=some rf25:=rfl
theorem pf26:prg 26=some rf26:=rfl
theorem pf27:prg 27=some rf27:=rfl
theorem pf28:prg 28=some rf28:=rfl
theorem pf29:prg 29=some rf29:=rfl
theorem pf30:prg 30=some rf30:=rfl
theorem pf31:prg 31=some rf31:=rfl
theorem pf32:prg 32=some rf32:=rfl
theorem pf33:prg 33=some rf33:=rfl
theorem pf34:prg 34=some rf34:=rfl
theorem pf35:prg 35=some rf35:=rfl
theorem pf36:prg 36=some rf36:=rfl
theorem pf37:prg 37=some rf37:=rfl
theorem pf38:prg 38=some rf38:=rfl
theorem pf39:prg 39=some rf39:=rfl
theorem pf40:prg 40=some rf40:=rfl
theorem pf41:prg 41=some rf41:=rfl
theorem pf49:prg 49=some rf49:=rfl
theorem pf50:prg 50=some rf50:=rfl
theorem pf51:prg 51=some rf51:=rfl
theorem pf52:prg 52=some rf52:=rfl
theorem pf53:prg 53=some rf53:=rfl
theorem pf54:prg 54=some rf54:=rfl
theorem pf56:prg 56=some rf56:=rfl
theorem pf57:prg 57=some rf57:=rfl
theorem pf58:prg 58=some rf58:=rfl
theorem pf59:prg 59=some rf59:=rfl
theorem pf60:prg 60=some rf60:=rfl
theorem pf61:prg 61=some rf61:=rfl
theorem pf62:prg 62=some rf62:=rfl
theorem pf63:prg 63=some rf63:=rfl
theorem pf64:prg 64=some rf64:=rfl
theorem pf65:prg 65=some rf65:=rfl
theorem pf66:prg 66=some rf66:=rfl
theorem pf67:prg 67=some rf67:=rfl
theorem pf73:prg 73=some rf73:=rfl
theorem pf74:prg 74=some rf74:=rfl
theorem pf75:prg 75=some rf75:=rfl
theorem pf76:prg 76=some rf76:=rfl
theorem pf77:prg 77=some rf77:=rfl
theorem pf78:prg 78=some rf78:=rfl
theorem pf79:prg 79=some rf79:=rfl
theorem pf80:prg 80=some rf80:=rfl
theorem pf81:prg 81=some rf81:=rfl
theorem pf82:prg 82=some rf82:=rfl
theorem pf83:prg 83=some rf83:=rfl
theorem pf84:prg 84=some rf84:=rfl
theorem pf85:prg 85=some rf85:=rfl
theorem pf86:prg 86=some rf86:=rfl
theorem pf95:prg 95=some rf95:=rfl
theorem pf96:prg 96=some rf96:=rfl
theorem pf104:prg 104=some rf104:=rfl
theorem pf105:prg 105=some rf105:=rfl
theorem ps58:prg (58+lL)=some qQ:=rfl
theorem ps54:prg (54+lL)=some (pQ 55):=rfl
theorem det:Det (vu Tryz.prog mks) prg:=JF (by simp only[mks,ww]; exact⟨rfl,rfl,λ_ h=>by cases h⟩) rfl ⟨cf3,cf4,cf5,cf6,cf7,cf8,cf9,cf10,cf11,cf12,cf13,cf14,cf15,cf16,cf17,cf18,cf19,cf20,cf21,cf22,cf23,cf24,cf25,cf26,cf27,cf28,cf29,cf30,cf31,cf32,cf33,cf34,cf35,cf36,cf37,cf38,cf39,cf40,cf41,cf42,cf43,cf44,cf45,cf46,cf47,cf48,cf49,cf50,cf51,cf52,cf53,cf54,cf55,cf56,cf57,cf58,cf59,cf60,cf61,cf62,cf63,cf64,cf65,cf66,cf67,cf68,cf69,cf70,cf71,cf72,cf73,cf74,cf75,cf76,cf77,cf78,cf79,cf80,cf81,cf82,cf83,cf84,cf85,cf86,cf94,cf95,cf96,cf104,cf105,trivial⟩
end Go.Proofs.YthbmhbldmcbnpaaGreatDoor
