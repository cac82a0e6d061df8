/-
  The functions in the clean machine's form: printed by a program of ours, checked by the kernel.
-/
import Derived.Test.YtihedjolidbfiaaGreatDoorZRf0
import Derived.Test.YtihedjolidbfiaaGreatDoorZRf1
import Derived.Test.YtihedjolidbfiaaGreatDoorZAmK
set_option linter.all false
namespace Go.Proofs.YtihedjolidbfiaaGreatDoor
open Go.Am
set_option maxRecDepth 100000
def prg:RP:=fun f=>bif Nat.blt f 512 then (bif Nat.blt f 256 then (bif Nat.blt f 128 then (bif Nat.blt f 64 then (bif Nat.blt f 32 then (bif Nat.blt f 16 then (bif Nat.blt f 8 then (bif Nat.blt f 4 then (bif Nat.blt f 2 then none else (bif Nat.blt f 3 then none else (some rf3))) else (bif Nat.blt f 6 then (bif Nat.blt f 5 then (some rf4) else (some rf5)) else (bif Nat.blt f 7 then none else (some rf7)))) else (bif Nat.blt f 12 then (bif Nat.blt f 10 then (bif Nat.blt f 9 then (some rf8) else (some rf9)) else (bif Nat.blt f 11 then (some rf10) else (some rf11))) else (bif Nat.blt f 14 then (bif Nat.blt f 13 then (some rf12) else (some rf13)) else (bif Nat.blt f 15 then (some rf14) else (some rf15))))) else (bif Nat.blt f 24 then (bif Nat.blt f 20 then (bif Nat.blt f 18 then (bif Nat.blt f 17 then (some rf16) else (some rf17)) else (bif Nat.blt f 19 then (some rf18) else (some rf19))) else none) else (bif Nat.blt f 28 then (bif Nat.blt f 26 then (bif Nat.blt f 25 then none else (some rf25)) else (bif Nat.blt f 27 then (some rf26) else (some rf27))) else (bif Nat.blt f 30 then (bif Nat.blt f 29 then (some rf28) else (some rf29)) else (bif Nat.blt f 31 then (some rf30) else (some rf31)))))) else (bif Nat.blt f 48 then (bif Nat.blt f 40 then (bif Nat.blt f 36 then (bif Nat.blt f 34 then (bif Nat.blt f 33 then (some rf32) else (some rf33)) else (bif Nat.blt f 35 then (some rf34) else (some rf35))) else (bif Nat.blt f 38 then (bif Nat.blt f 37 then (some rf36) else (some rf37)) else (bif Nat.blt f 39 then (some rf38) else (some rf39)))) else (bif Nat.blt f 44 then (bif Nat.blt f 42 then (bif Nat.blt f 41 then (some rf40) else (some rf41)) else (bif Nat.blt f 43 then (some rf42) else none)) else (bif Nat.blt f 46 then none else (bif Nat.blt f 47 then (some rf46) else (some rf47))))) else (bif Nat.blt f 56 then (bif Nat.blt f 52 then (bif Nat.blt f 50 then (bif Nat.blt f 49 then (some rf48) else none) else (bif Nat.blt f 51 then none else (some rf51))) else (bif Nat.blt f 54 then (bif Nat.blt f 53 then (some rf52) else (some rf53)) else (bif Nat.blt f 55 then (some rf54) else (some rf55)))) else (bif Nat.blt f 60 then (bif Nat.blt f 58 then (bif Nat.blt f 57 then (some rf56) else (some rf57)) else (bif Nat.blt f 59 then (some rf58) else (some rf59))) else (bif Nat.blt f 62 then (bif Nat.blt f 61 then (some rf60) else (some rf61)) else (bif Nat.blt f 63 then (some rf62) else (some rf63))))))) else (bif Nat.blt f 96 then (bif Nat.blt f 80 then (bif Nat.blt f 72 then (bif Nat.blt f 68 then (bif Nat.blt f 66 then (bif Nat.blt f 65 then (some rf64) else (some rf65)) else (bif Nat.blt f 67 then (some rf66) else (some rf67))) else (bif Nat.blt f 70 then (bif Nat.blt f 69 then (some rf68) else (some rf69)) else (bif Nat.blt f 71 then (some rf70) else (some rf71)))) else (bif Nat.blt f 76 then (bif Nat.blt f 74 then (bif Nat.blt f 73 then (some rf72) else none) else none) else (bif Nat.blt f 78 then none else (bif Nat.blt f 79 then none else (some rf79))))) else (bif Nat.blt f 88 then (bif Nat.blt f 84 then (bif Nat.blt f 82 then (bif Nat.blt f 81 then (some rf80) else (some rf81)) else (bif Nat.blt f 83 then (some rf82) else (some rf83))) else (bif Nat.blt f 86 then (bif Nat.blt f 85 then (some rf84) else (some rf85)) else (bif Nat.blt f 87 then none else (some rf87)))) else (bif Nat.blt f 92 then (bif Nat.blt f 90 then (bif Nat.blt f 89 then (some rf88) else (some rf89)) else (bif Nat.blt f 91 then (some rf90) else (some rf91))) else (bif Nat.blt f 94 then (bif Nat.blt f 93 then (some rf92) else (some rf93)) else (bif Nat.blt f 95 then (some rf94) else (some rf95)))))) else (bif Nat.blt f 112 then (bif Nat.blt f 104 then (bif Nat.blt f 100 then (bif Nat.blt f 98 then (bif Nat.blt f 97 then (some rf96) else (some rf97)) else (bif Nat.blt f 99 then (some rf98) else (some rf99))) else (bif Nat.blt f 102 then (bif Nat.blt f 101 then (some rf100) else (some rf101)) else (bif Nat.blt f 103 then (some rf102) else (some rf103)))) else (bif Nat.blt f 108 then (bif Nat.blt f 106 then (bif Nat.blt f 105 then (some rf104) else (some rf105)) else none) else (bif Nat.blt f 110 then (bif Nat.blt f 109 then (some rf108) else none) else (bif Nat.blt f 111 then none else (some rf111))))) else (bif Nat.blt f 120 then (bif Nat.blt f 116 then none else (bif Nat.blt f 118 then none else (bif Nat.blt f 119 then (some rf118) else (some rf119)))) else (bif Nat.blt f 124 then (bif Nat.blt f 122 then (bif Nat.blt f 121 then (some rf120) else (some rf121)) else (bif Nat.blt f 123 then (some rf122) else (some rf123))) else (bif Nat.blt f 126 then (bif Nat.blt f 125 then (some rf124) else (some rf125)) else (bif Nat.blt f 127 then (some rf126) else (some rf127)))))))) else (bif Nat.blt f 192 then (bif Nat.blt f 160 then (bif Nat.blt f 144 then (bif Nat.blt f 136 then (bif Nat.blt f 132 then (bif Nat.blt f 130 then (bif Nat.blt f 129 then (some rf128) else (some rf129)) else (bif Nat.blt f 131 then (some rf130) else (some rf131))) else (bif Nat.blt f 134 then (bif Nat.blt f 133 then (some rf132) else (some rf133)) else (bif Nat.blt f 135 then (some rf134) else (some rf135)))) else (bif Nat.blt f 140 then (bif Nat.blt f 138 then (bif Nat.blt f 137 then (some rf136) else (some rf137)) else (bif Nat.blt f 139 then (some rf138) else (some rf139))) else (bif Nat.blt f 142 then (bif Nat.blt f 141 then (some rf140) else (some rf141)) else (bif Nat.blt f 143 then none else (some rf143))))) else (bif Nat.blt f 152 then (bif Nat.blt f 148 then (bif Nat.blt f 146 then (bif Nat.blt f 145 then (some rf144) else (some rf145)) else (bif Nat.blt f 147 then (some rf146) else (some rf147))) else (bif Nat.blt f 150 then (bif Nat.blt f 149 then none else (some rf149)) else none)) else (bif Nat.blt f 156 then none else (bif Nat.blt f 158 then (bif Nat.blt f 157 then (some rf156) else (some rf157)) else (bif Nat.blt f 159 then (some rf158) else (some rf159)))))) else (bif Nat.blt f 176 then (bif Nat.blt f 168 then (bif Nat.blt f 164 then (bif Nat.blt f 162 then (bif Nat.blt f 161 then (some rf160) else (some rf161)) else (bif Nat.blt f 163 then (some rf162) else (some rf163))) else (bif Nat.blt f 166 then (bif Nat.blt f 165 then (some rf164) else (some rf165)) else (bif Nat.blt f 167 then (some rf166) else (some rf167)))) else (bif Nat.blt f 172 then (bif Nat.blt f 170 then (bif Nat.blt f 169 then (some rf168) else (some rf169)) else (bif Nat.blt f 171 then (some rf170) else none)) else (bif Nat.blt f 174 then none else (bif Nat.blt f 175 then none else (some rf175))))) else (bif Nat.blt f 184 then (bif Nat.blt f 180 then (bif Nat.blt f 178 then (bif Nat.blt f 177 then (some rf176) else (some rf177)) else (bif Nat.blt f 179 then (some rf178) else (some rf179))) else (bif Nat.blt f 182 then (bif Nat.blt f 181 then (some rf180) else (some rf181)) else (bif Nat.blt f 183 then (some rf182) else (some rf183)))) else (bif Nat.blt f 188 then (bif Nat.blt f 186 then (bif Nat.blt f 185 then (some rf184) else none) else (bif Nat.blt f 187 then (some rf186) else (some rf187))) else (bif Nat.blt f 190 then (bif Nat.blt f 189 then (some rf188) else (some rf189)) else (bif Nat.blt f 191 then (some rf190) else (some rf191))))))) else (bif Nat.blt f 224 then (bif Nat.blt f 208 then (bif Nat.blt f 200 then (bif Nat.blt f 196 then (bif Nat.blt f 194 then (bif Nat.blt f 193 then (some rf192) else (some rf193)) else (bif Nat.blt f 195 then (some rf194) else (some rf195))) else (bif Nat.blt f 198 then (bif Nat.blt f 197 then (some rf196) else (some rf197)) else (bif Nat.blt f 199 then (some rf198) else (some rf199)))) else (bif Nat.blt f 204 then (bif Nat.blt f 202 then (bif Nat.blt f 201 then (some rf200) else (some rf201)) else (bif Nat.blt f 203 then (some rf202) else (some rf203))) else (bif Nat.blt f 206 then (bif Nat.blt f 205 then (some rf204) else (some rf205)) else (bif Nat.blt f 207 then (some rf206) else (some rf207))))) else (bif Nat.blt f 216 then (bif Nat.blt f 212 then (bif Nat.blt f 210 then (bif Nat.blt f 209 then (some rf208) else (some rf209)) else (bif Nat.blt f 211 then (some rf210) else (some rf211))) else (bif Nat.blt f 214 then (bif Nat.blt f 213 then (some rf212) else (some rf213)) else none)) else none)) else none))) else none) else none
theorem pf3:prg 3=some rf3:=rfl
theorem pf8:prg 8=some rf8:=rfl
theorem pf9:prg 9=some rf9:=rfl
theorem pf10:prg 10=some rf10:=rfl
theorem pf11:prg 11=some rf11:=rfl
theorem pf12:prg 12=some rf12:=rfl
theorem pf13:prg 13=some rf13:=rfl
theorem pf15:prg 15=some rf15:=rfl
theorem pf27:prg 27=some rf27:=rfl
theorem pf28:prg 28=some rf28:=rfl
theorem pf29:prg 29=some rf29:=rfl
theorem pf30:prg 30=some rf30:=rfl
theorem pf31:prg 31=some rf31:=rfl
theorem pf32:prg 32=some rf32:=rfl
theorem pf33:prg 33=some rf33:=rfl
theorem pf34:prg 34=some rf34:=rfl
theorem pf35:prg 35=some rf35:=rfl
theorem pf36:prg 36=some rf36:=rfl
theorem pf37:prg 37=some rf37:=rfl
theorem pf38:prg 38=some rf38:=rfl
theorem pf39:prg 39=some rf39:=rfl
theorem pf40:prg 40=some rf40:=rfl
theorem pf41:prg 41=some rf41:=rfl
theorem pf42:prg 42=some rf42:=rfl
theorem pf46:prg 46=some rf46:=rfl
theorem pf47:prg 47=some rf47:=rfl
theorem pf48:prg 48=some rf48:=rfl
theorem pf51:prg 51=some rf51:=rfl
theorem pf55:prg 55=some rf55:=rfl
theorem pf56:prg 56=some rf56:=rfl
theorem pf57:prg 57=some rf57:=rfl
theorem pf58:prg 58=some rf58:=rfl
theorem pf59:prg 59=some rf59:=rfl
theorem pf60:prg 60=some rf60:=rfl
theorem pf61:prg 61=some rf61:=rfl
theorem pf62:prg 62=some rf62:=rfl
theorem pf63:prg 63=some rf63:=rfl
theorem pf64:prg 64=some rf64:=rfl
theorem pf65:prg 65=some rf65:=rfl
theorem pf66:prg 66=some rf66:=rfl
theorem pf67:prg 67=some rf67:=rfl
theorem pf68:prg 68=some rf68:=rfl
theorem pf69:prg 69=some rf69:=rfl
theorem pf70:prg 70=some rf70:=rfl
theorem pf71:prg 71=some rf71:=rfl
theorem pf72:prg 72=some rf72:=rfl
theorem pf79:prg 79=some rf79:=rfl
theorem pf80:prg 80=some rf80:=rfl
theorem pf81:prg 81=some rf81:=rfl
theorem pf82:prg 82=some rf82:=rfl
theorem pf83:prg 83=some rf83:=rfl
theorem pf84:prg 84=some rf84:=rfl
theorem pf85:prg 85=some rf85:=rfl
theorem pf93:prg 93=some rf93:=rfl
theorem pf94:prg 94=some rf94:=rfl
theorem pf95:prg 95=some rf95:=rfl
theorem pf96:prg 96=some rf96:=rfl
theorem pf97:prg 97=some rf97:=rfl
theorem pf98:prg 98=some rf98:=rfl
theorem pf99:prg 99=some rf99:=rfl
theorem pf100:prg 100=some rf100:=rfl
theorem pf101:prg 101=some rf101:=rfl
theorem pf102:prg 102=some rf102:=rfl
theorem pf103:prg 103=some rf103:=rfl
theorem pf104:prg 104=some rf104:=rfl
theorem pf105:prg 105=some rf105:=rfl
theorem pf118:prg 118=some rf118:=rfl
theorem pf119:prg 119=some rf119:=rfl
theorem pf120:prg 120=some rf120:=rfl
theorem pf121:prg 121=some rf121:=rfl
theorem pf122:prg 122=some rf122:=rfl
theorem pf123:prg 123=some rf123:=rfl
theorem pf124:prg 124=some rf124:=rfl
theorem pf125:prg 125=some rf125:=rfl
theorem pf127:prg 127=some rf127:=rfl
theorem pf128:prg 128=some rf128:=rfl
theorem pf138:prg 138=some rf138:=rfl
theorem pf139:prg 139=some rf139:=rfl
theorem pf140:prg 140=some rf140:=rfl
theorem pf141:prg 141=some rf141:=rfl
theorem pf156:prg 156=some rf156:=rfl
theorem pf157:prg 157=some rf157:=rfl
theorem pf158:prg 158=some rf158:=rfl
theorem pf159:prg 159=some rf159:=rfl
theorem pf160:prg 160=some rf160:=rfl
theorem pf167:prg 167=some rf167:=rfl
theorem pf175:prg 175=some rf175:=rfl
theorem br {f m:Nat}{A B:Option RF}{r:RF}{Q:Prop} (ha:f<m→A=some r→Q) (hb:m≤f→B=some r→Q) (h:(bif Nat.blt f m then A else B)=some r):Q:=by
 by_cases c:f<m
 ·have:Nat.blt f m=true:=Nat.ble_eq_true_of_le (by omega)
  rw[this] at h
  exact ha c h
 ·have:Nat.blt f m=false:=by
   cases q:Nat.blt f m with
   | false=>rfl
   | true=>exact absurd (Nat.le_of_ble_eq_true q) (by omega)
  rw[this] at h
  exact hb (by omega) h
theorem no {r:RF}{Q:Prop} (h:none=some r):Q:=by cases h
theorem lf {f k:Nat}{rf r:RF} (e:f=k) (hc:(cFunc Tryz.prog k).bind detF=some rf) (h:some rf=some r):(cFunc Tryz.prog f).bind detF=some r:=by
 subst e
 rw[hc,h]
theorem det:Det (fun f=>cFunc Tryz.prog f) prg:=by
 intro f rf' h
 refine Option.bind_eq_some_iff.1 ?_
 exact br (fun a0=>(br (fun a1=>(br (fun a2=>(br (fun a3=>(br (fun a4=>(br (fun a5=>(br (fun a6=>(br (fun a7=>(br (fun a8=>no) (fun a8=>(br (fun a9=>no) (fun a9=>(lf (k:=3) (by omega) cf3)))))) (fun a7=>(br (fun a8=>(br (fun a9=>(lf (k:=4) (by omega) cf4)) (fun a9=>(lf (k:=5) (by omega) cf5)))) (fun a8=>(br (fun a9=>no) (fun a9=>(lf (k:=7) (by omega) cf7)))))))) (fun a6=>(br (fun a7=>(br (fun a8=>(br (fun a9=>(lf (k:=8) (by omega) cf8)) (fun a9=>(lf (k:=9) (by omega) cf9)))) (fun a8=>(br (fun a9=>(lf (k:=10) (by omega) cf10)) (fun a9=>(lf (k:=11) (by omega) cf11)))))) (fun a7=>(br (fun a8=>(br (fun a9=>(lf (k:=12) (by omega) cf12)) (fun a9=>(lf (k:=13) (by omega) cf13)))) (fun a8=>(br (fun a9=>(lf (k:=14) (by omega) cf14)) (fun a9=>(lf (k:=15) (by omega) cf15)))))))))) (fun a5=>(br (fun a6=>(br (fun a7=>(br (fun a8=>(br (fun a9=>(lf (k:=16) (by omega) cf16)) (fun a9=>(lf (k:=17) (by omega) cf17)))) (fun a8=>(br (fun a9=>(lf (k:=18) (by omega) cf18)) (fun a9=>(lf (k:=19) (by omega) cf19)))))) (fun a7=>no))) (fun a6=>(br (fun a7=>(br (fun a8=>(br (fun a9=>no) (fun a9=>(lf (k:=25) (by omega) cf25)))) (fun a8=>(br (fun a9=>(lf (k:=26) (by omega) cf26)) (fun a9=>(lf (k:=27) (by omega) cf27)))))) (fun a7=>(br (fun a8=>(br (fun a9=>(lf (k:=28) (by omega) cf28)) (fun a9=>(lf (k:=29) (by omega) cf29)))) (fun a8=>(br (fun a9=>(lf (k:=30) (by omega) cf30)) (fun a9=>(lf (k:=31) (by omega) cf31)))))))))))) (fun a4=>(br (fun a5=>(br (fun a6=>(br (fun a7=>(br (fun a8=>(br (fun a9=>(lf (k:=32) (by omega) cf32)) (fun a9=>(lf (k:=33) (by omega) cf33)))) (fun a8=>(br (fun a9=>(lf (k:=34) (by omega) cf34)) (fun a9=>(lf (k:=35) (by omega) cf35)))))) (fun a7=>(br (fun a8=>(br (fun a9=>(lf (k:=36) (by omega) cf36)) (fun a9=>(lf (k:=37) (by omega) cf37)))) (fun a8=>(br (fun a9=>(lf (k:=38) (by omega) cf38)) (fun a9=>(lf (k:=39) (by omega) cf39)))))))) (fun a6=>(br (fun a7=>(br (fun a8=>(br (fun a9=>(lf (k:=40) (by omega) cf40)) (fun a9=>(lf (k:=41) (by omega) cf41)))) (fun a8=>(br (fun a9=>(lf (k:=42) (by omega) cf42)) (fun a9=>no))))) (fun a7=>(br (fun a8=>no) (fun a8=>(br (fun a9=>(lf (k:=46) (by omega) cf46)) (fun a9=>(lf (k:=47) (by omega) cf47)))))))))) (fun a5=>(br (fun a6=>(br (fun a7=>(br (fun a8=>(br (fun a9=>(lf (k:=48) (by omega) cf48)) (fun a9=>no))) (fun a8=>(br (fun a9=>no) (fun a9=>(lf (k:=51) (by omega) cf51)))))) (fun a7=>(br (fun a8=>(br (fun a9=>(lf (k:=52) (by omega) cf52)) (fun a9=>(lf (k:=53) (by omega) cf53)))) (fun a8=>(br (fun a9=>(lf (k:=54) (by omega) cf54)) (fun a9=>(lf (k:=55) (by omega) cf55)))))))) (fun a6=>(br (fun a7=>(br (fun a8=>(br (fun a9=>(lf (k:=56) (by omega) cf56)) (fun a9=>(lf (k:=57) (by omega) cf57)))) (fun a8=>(br (fun a9=>(lf (k:=58) (by omega) cf58)) (fun a9=>(lf (k:=59) (by omega) cf59)))))) (fun a7=>(br (fun a8=>(br (fun a9=>(lf (k:=60) (by omega) cf60)) (fun a9=>(lf (k:=61) (by omega) cf61)))) (fun a8=>(br (fun a9=>(lf (k:=62) (by omega) cf62)) (fun a9=>(lf (k:=63) (by omega) cf63)))))))))))))) (fun a3=>(br (fun a4=>(br (fun a5=>(br (fun a6=>(br (fun a7=>(br (fun a8=>(br (fun a9=>(lf (k:=64) (by omega) cf64)) (fun a9=>(lf (k:=65) (by omega) cf65)))) (fun a8=>(br (fun a9=>(lf (k:=66) (by omega) cf66)) (fun a9=>(lf (k:=67) (by omega) cf67)))))) (fun a7=>(br (fun a8=>(br (fun a9=>(lf (k:=68) (by omega) cf68)) (fun a9=>(lf (k:=69) (by omega) cf69)))) (fun a8=>(br (fun a9=>(lf (k:=70) (by omega) cf70)) (fun a9=>(lf (k:=71) (by omega) cf71)))))))) (fun a6=>(br (fun a7=>(br (fun a8=>(br (fun a9=>(lf (k:=72) (by omega) cf72)) (fun a9=>no))) (fun a8=>no))) (fun a7=>(br (fun a8=>no) (fun a8=>(br (fun a9=>no) (fun a9=>(lf (k:=79) (by omega) cf79)))))))))) (fun a5=>(br (fun a6=>(br (fun a7=>(br (fun a8=>(br (fun a9=>(lf (k:=80) (by omega) cf80)) (fun a9=>(lf (k:=81) (by omega) cf81)))) (fun a8=>(br (fun a9=>(lf (k:=82) (by omega) cf82)) (fun a9=>(lf (k:=83) (by omega) cf83)))))) (fun a7=>(br (fun a8=>(br (fun a9=>(lf (k:=84) (by omega) cf84)) (fun a9=>(lf (k:=85) (by omega) cf85)))) (fun a8=>(br (fun a9=>no) (fun a9=>(lf (k:=87) (by omega) cf87)))))))) (fun a6=>(br (fun a7=>(br (fun a8=>(br (fun a9=>(lf (k:=88) (by omega) cf88)) (fun a9=>(lf (k:=89) (by omega) cf89)))) (fun a8=>(br (fun a9=>(lf (k:=90) (by omega) cf90)) (fun a9=>(lf (k:=91) (by omega) cf91)))))) (fun a7=>(br (fun a8=>(br (fun a9=>(lf (k:=92) (by omega) cf92)) (fun a9=>(lf (k:=93) (by omega) cf93)))) (fun a8=>(br (fun a9=>(lf (k:=94) (by omega) cf94)) (fun a9=>(lf (k:=95) (by omega) cf95)))))))))))) (fun a4=>(br (fun a5=>(br (fun a6=>(br (fun a7=>(br (fun a8=>(br (fun a9=>(lf (k:=96) (by omega) cf96)) (fun a9=>(lf (k:=97) (by omega) cf97)))) (fun a8=>(br (fun a9=>(lf (k:=98) (by omega) cf98)) (fun a9=>(lf (k:=99) (by omega) cf99)))))) (fun a7=>(br (fun a8=>(br (fun a9=>(lf (k:=100) (by omega) cf100)) (fun a9=>(lf (k:=101) (by omega) cf101)))) (fun a8=>(br (fun a9=>(lf (k:=102) (by omega) cf102)) (fun a9=>(lf (k:=103) (by omega) cf103)))))))) (fun a6=>(br (fun a7=>(br (fun a8=>(br (fun a9=>(lf (k:=104) (by omega) cf104)) (fun a9=>(lf (k:=105) (by omega) cf105)))) (fun a8=>no))) (fun a7=>(br (fun a8=>(br (fun a9=>(lf (k:=108) (by omega) cf108)) (fun a9=>no))) (fun a8=>(br (fun a9=>no) (fun a9=>(lf (k:=111) (by omega) cf111)))))))))) (fun a5=>(br (fun a6=>(br (fun a7=>no) (fun a7=>(br (fun a8=>no) (fun a8=>(br (fun a9=>(lf (k:=118) (by omega) cf118)) (fun a9=>(lf (k:=119) (by omega) cf119)))))))) (fun a6=>(br (fun a7=>(br (fun a8=>(br (fun a9=>(lf (k:=120) (by omega) cf120)) (fun a9=>(lf (k:=121) (by omega) cf121)))) (fun a8=>(br (fun a9=>(lf (k:=122) (by omega) cf122)) (fun a9=>(lf (k:=123) (by omega) cf123)))))) (fun a7=>(br (fun a8=>(br (fun a9=>(lf (k:=124) (by omega) cf124)) (fun a9=>(lf (k:=125) (by omega) cf125)))) (fun a8=>(br (fun a9=>(lf (k:=126) (by omega) cf126)) (fun a9=>(lf (k:=127) (by omega) cf127)))))))))))))))) (fun a2=>(br (fun a3=>(br (fun a4=>(br (fun a5=>(br (fun a6=>(br (fun a7=>(br (fun a8=>(br (fun a9=>(lf (k:=128) (by omega) cf128)) (fun a9=>(lf (k:=129) (by omega) cf129)))) (fun a8=>(br (fun a9=>(lf (k:=130) (by omega) cf130)) (fun a9=>(lf (k:=131) (by omega) cf131)))))) (fun a7=>(br (fun a8=>(br (fun a9=>(lf (k:=132) (by omega) cf132)) (fun a9=>(lf (k:=133) (by omega) cf133)))) (fun a8=>(br (fun a9=>(lf (k:=134) (by omega) cf134)) (fun a9=>(lf (k:=135) (by omega) cf135)))))))) (fun a6=>(br (fun a7=>(br (fun a8=>(br (fun a9=>(lf (k:=136) (by omega) cf136)) (fun a9=>(lf (k:=137) (by omega) cf137)))) (fun a8=>(br (fun a9=>(lf (k:=138) (by omega) cf138)) (fun a9=>(lf (k:=139) (by omega) cf139)))))) (fun a7=>(br (fun a8=>(br (fun a9=>(lf (k:=140) (by omega) cf140)) (fun a9=>(lf (k:=141) (by omega) cf141)))) (fun a8=>(br (fun a9=>no) (fun a9=>(lf (k:=143) (by omega) cf143)))))))))) (fun a5=>(br (fun a6=>(br (fun a7=>(br (fun a8=>(br (fun a9=>(lf (k:=144) (by omega) cf144)) (fun a9=>(lf (k:=145) (by omega) cf145)))) (fun a8=>(br (fun a9=>(lf (k:=146) (by omega) cf146)) (fun a9=>(lf (k:=147) (by omega) cf147)))))) (fun a7=>(br (fun a8=>(br (fun a9=>no) (fun a9=>(lf (k:=149) (by omega) cf149)))) (fun a8=>no))))) (fun a6=>(br (fun a7=>no) (fun a7=>(br (fun a8=>(br (fun a9=>(lf (k:=156) (by omega) cf156)) (fun a9=>(lf (k:=157) (by omega) cf157)))) (fun a8=>(br (fun a9=>(lf (k:=158) (by omega) cf158)) (fun a9=>(lf (k:=159) (by omega) cf159)))))))))))) (fun a4=>(br (fun a5=>(br (fun a6=>(br (fun a7=>(br (fun a8=>(br (fun a9=>(lf (k:=160) (by omega) cf160)) (fun a9=>(lf (k:=161) (by omega) cf161)))) (fun a8=>(br (fun a9=>(lf (k:=162) (by omega) cf162)) (fun a9=>(lf (k:=163) (by omega) cf163)))))) (fun a7=>(br (fun a8=>(br (fun a9=>(lf (k:=164) (by omega) cf164)) (fun a9=>(lf (k:=165) (by omega) cf165)))) (fun a8=>(br (fun a9=>(lf (k:=166) (by omega) cf166)) (fun a9=>(lf (k:=167) (by omega) cf167)))))))) (fun a6=>(br (fun a7=>(br (fun a8=>(br (fun a9=>(lf (k:=168) (by omega) cf168)) (fun a9=>(lf (k:=169) (by omega) cf169)))) (fun a8=>(br (fun a9=>(lf (k:=170) (by omega) cf170)) (fun a9=>no))))) (fun a7=>(br (fun a8=>no) (fun a8=>(br (fun a9=>no) (fun a9=>(lf (k:=175) (by omega) cf175)))))))))) (fun a5=>(br (fun a6=>(br (fun a7=>(br (fun a8=>(br (fun a9=>(lf (k:=176) (by omega) cf176)) (fun a9=>(lf (k:=177) (by omega) cf177)))) (fun a8=>(br (fun a9=>(lf (k:=178) (by omega) cf178)) (fun a9=>(lf (k:=179) (by omega) cf179)))))) (fun a7=>(br (fun a8=>(br (fun a9=>(lf (k:=180) (by omega) cf180)) (fun a9=>(lf (k:=181) (by omega) cf181)))) (fun a8=>(br (fun a9=>(lf (k:=182) (by omega) cf182)) (fun a9=>(lf (k:=183) (by omega) cf183)))))))) (fun a6=>(br (fun a7=>(br (fun a8=>(br (fun a9=>(lf (k:=184) (by omega) cf184)) (fun a9=>no))) (fun a8=>(br (fun a9=>(lf (k:=186) (by omega) cf186)) (fun a9=>(lf (k:=187) (by omega) cf187)))))) (fun a7=>(br (fun a8=>(br (fun a9=>(lf (k:=188) (by omega) cf188)) (fun a9=>(lf (k:=189) (by omega) cf189)))) (fun a8=>(br (fun a9=>(lf (k:=190) (by omega) cf190)) (fun a9=>(lf (k:=191) (by omega) cf191)))))))))))))) (fun a3=>(br (fun a4=>(br (fun a5=>(br (fun a6=>(br (fun a7=>(br (fun a8=>(br (fun a9=>(lf (k:=192) (by omega) cf192)) (fun a9=>(lf (k:=193) (by omega) cf193)))) (fun a8=>(br (fun a9=>(lf (k:=194) (by omega) cf194)) (fun a9=>(lf (k:=195) (by omega) cf195)))))) (fun a7=>(br (fun a8=>(br (fun a9=>(lf (k:=196) (by omega) cf196)) (fun a9=>(lf (k:=197) (by omega) cf197)))) (fun a8=>(br (fun a9=>(lf (k:=198) (by omega) cf198)) (fun a9=>(lf (k:=199) (by omega) cf199)))))))) (fun a6=>(br (fun a7=>(br (fun a8=>(br (fun a9=>(lf (k:=200) (by omega) cf200)) (fun a9=>(lf (k:=201) (by omega) cf201)))) (fun a8=>(br (fun a9=>(lf (k:=202) (by omega) cf202)) (fun a9=>(lf (k:=203) (by omega) cf203)))))) (fun a7=>(br (fun a8=>(br (fun a9=>(lf (k:=204) (by omega) cf204)) (fun a9=>(lf (k:=205) (by omega) cf205)))) (fun a8=>(br (fun a9=>(lf (k:=206) (by omega) cf206)) (fun a9=>(lf (k:=207) (by omega) cf207)))))))))) (fun a5=>(br (fun a6=>(br (fun a7=>(br (fun a8=>(br (fun a9=>(lf (k:=208) (by omega) cf208)) (fun a9=>(lf (k:=209) (by omega) cf209)))) (fun a8=>(br (fun a9=>(lf (k:=210) (by omega) cf210)) (fun a9=>(lf (k:=211) (by omega) cf211)))))) (fun a7=>(br (fun a8=>(br (fun a9=>(lf (k:=212) (by omega) cf212)) (fun a9=>(lf (k:=213) (by omega) cf213)))) (fun a8=>no))))) (fun a6=>no))))) (fun a4=>no))))))) (fun a1=>no))) (fun a0=>no) h
end Go.Proofs.YtihedjolidbfiaaGreatDoor
