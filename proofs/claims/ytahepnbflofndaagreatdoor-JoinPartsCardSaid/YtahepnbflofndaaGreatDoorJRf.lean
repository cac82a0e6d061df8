/- The functions in the clean machine's form -/
import Derived.Test.YtahepnbflofndaaGreatDoorJRf0
import Derived.Test.YtahepnbflofndaaGreatDoorJRf1
import Derived.Test.YtahepnbflofndaaGreatDoorJAmK
set_option linter.all false
namespace Go.Proofs.YtahepnbflofndaaGreatDoor
open Go.Am
set_option maxRecDepth 100000
def prg:RP:=λf=>bif Nat.blt f 512 then (bif Nat.blt f 256 then (bif Nat.blt f 128 then (bif Nat.blt f 64 then (bif Nat.blt f 32 then (bif Nat.blt f 16 then (bif Nat.blt f 8 then (bif Nat.blt f 4 then none else (bif Nat.blt f 6 then (bif Nat.blt f 5 then none else (some rf5)) else none)) else none) else (bif Nat.blt f 24 then (bif Nat.blt f 20 then (bif Nat.blt f 18 then (bif Nat.blt f 17 then none else (some rf17)) else (bif Nat.blt f 19 then (some rf18) else (some rf19))) else (bif Nat.blt f 22 then (bif Nat.blt f 21 then (some rf20) else (some rf21)) else (bif Nat.blt f 23 then (some rf22) else (some rf23)))) else (bif Nat.blt f 28 then (bif Nat.blt f 26 then (bif Nat.blt f 25 then (some rf24) else none) else none) else (bif Nat.blt f 30 then none else (bif Nat.blt f 31 then (some rf30) else none))))) else (bif Nat.blt f 48 then none else (bif Nat.blt f 56 then (bif Nat.blt f 52 then (bif Nat.blt f 50 then (bif Nat.blt f 49 then (some rf48) else (some rf49)) else (bif Nat.blt f 51 then (some rf50) else (some rf51))) else (bif Nat.blt f 54 then (bif Nat.blt f 53 then (some rf52) else (some rf53)) else (bif Nat.blt f 55 then (some rf54) else (some rf55)))) else (bif Nat.blt f 60 then (bif Nat.blt f 58 then (bif Nat.blt f 57 then (some rf56) else (some rf57)) else (bif Nat.blt f 59 then (some rf58) else (some rf59))) else (bif Nat.blt f 62 then (bif Nat.blt f 61 then (some rf60) else (some rf61)) else (bif Nat.blt f 63 then (some rf62) else (some rf63))))))) else (bif Nat.blt f 96 then (bif Nat.blt f 80 then (bif Nat.blt f 72 then (bif Nat.blt f 68 then (bif Nat.blt f 66 then (bif Nat.blt f 65 then (some rf64) else none) else (bif Nat.blt f 67 then none else (some rf67))) else (bif Nat.blt f 70 then (bif Nat.blt f 69 then (some rf68) else (some rf69)) else (bif Nat.blt f 71 then none else (some rf71)))) else (bif Nat.blt f 76 then (bif Nat.blt f 74 then (bif Nat.blt f 73 then (some rf72) else none) else none) else none)) else (bif Nat.blt f 88 then (bif Nat.blt f 84 then (bif Nat.blt f 82 then (bif Nat.blt f 81 then (some rf80) else none) else none) else none) else (bif Nat.blt f 92 then (bif Nat.blt f 90 then none else (bif Nat.blt f 91 then (some rf90) else (some rf91))) else (bif Nat.blt f 94 then (bif Nat.blt f 93 then (some rf92) else (some rf93)) else (bif Nat.blt f 95 then (some rf94) else (some rf95)))))) else (bif Nat.blt f 112 then (bif Nat.blt f 104 then (bif Nat.blt f 100 then (bif Nat.blt f 98 then (bif Nat.blt f 97 then (some rf96) else (some rf97)) else (bif Nat.blt f 99 then (some rf98) else (some rf99))) else (bif Nat.blt f 102 then (bif Nat.blt f 101 then (some rf100) else (some rf101)) else (bif Nat.blt f 103 then (some rf102) else (some rf103)))) else (bif Nat.blt f 108 then (bif Nat.blt f 106 then (bif Nat.blt f 105 then (some rf104) else (some rf105)) else (bif Nat.blt f 107 then (some rf106) else (some rf107))) else (bif Nat.blt f 110 then (bif Nat.blt f 109 then (some rf108) else (some rf109)) else (bif Nat.blt f 111 then (some rf110) else (some rf111))))) else (bif Nat.blt f 120 then (bif Nat.blt f 116 then (bif Nat.blt f 114 then (bif Nat.blt f 113 then (some rf112) else (some rf113)) else (bif Nat.blt f 115 then (some rf114) else (some rf115))) else (bif Nat.blt f 118 then (bif Nat.blt f 117 then (some rf116) else (some rf117)) else (bif Nat.blt f 119 then (some rf118) else (some rf119)))) else (bif Nat.blt f 124 then (bif Nat.blt f 122 then (bif Nat.blt f 121 then (some rf120) else (some rf121)) else none) else (bif Nat.blt f 126 then (bif Nat.blt f 125 then (some rf124) else (some rf125)) else none)))))) else (bif Nat.blt f 192 then (bif Nat.blt f 160 then (bif Nat.blt f 144 then (bif Nat.blt f 136 then (bif Nat.blt f 132 then none else (bif Nat.blt f 134 then none else (bif Nat.blt f 135 then (some rf134) else none))) else (bif Nat.blt f 140 then none else (bif Nat.blt f 142 then (bif Nat.blt f 141 then (some rf140) else (some rf141)) else (bif Nat.blt f 143 then (some rf142) else (some rf143))))) else (bif Nat.blt f 152 then (bif Nat.blt f 148 then (bif Nat.blt f 146 then (bif Nat.blt f 145 then (some rf144) else (some rf145)) else (bif Nat.blt f 147 then (some rf146) else (some rf147))) else (bif Nat.blt f 150 then (bif Nat.blt f 149 then (some rf148) else (some rf149)) else (bif Nat.blt f 151 then (some rf150) else (some rf151)))) else (bif Nat.blt f 156 then (bif Nat.blt f 154 then (bif Nat.blt f 153 then (some rf152) else (some rf153)) else (bif Nat.blt f 155 then (some rf154) else (some rf155))) else (bif Nat.blt f 158 then (bif Nat.blt f 157 then (some rf156) else (some rf157)) else (bif Nat.blt f 159 then (some rf158) else (some rf159)))))) else (bif Nat.blt f 176 then (bif Nat.blt f 168 then (bif Nat.blt f 164 then (bif Nat.blt f 162 then none else (bif Nat.blt f 163 then none else (some rf163))) else none) else (bif Nat.blt f 172 then (bif Nat.blt f 170 then (bif Nat.blt f 169 then none else (some rf169)) else (bif Nat.blt f 171 then (some rf170) else (some rf171))) else (bif Nat.blt f 174 then (bif Nat.blt f 173 then (some rf172) else (some rf173)) else (bif Nat.blt f 175 then (some rf174) else (some rf175))))) else (bif Nat.blt f 184 then (bif Nat.blt f 180 then (bif Nat.blt f 178 then (bif Nat.blt f 177 then (some rf176) else (some rf177)) else (bif Nat.blt f 179 then (some rf178) else (some rf179))) else (bif Nat.blt f 182 then (bif Nat.blt f 181 then (some rf180) else (some rf181)) else (bif Nat.blt f 183 then (some rf182) else (some rf183)))) else (bif Nat.blt f 188 then (bif Nat.blt f 186 then (bif Nat.blt f 185 then (some rf184) else (some rf185)) else (bif Nat.blt f 187 then none else (some rf187))) else (bif Nat.blt f 190 then (bif Nat.blt f 189 then (some rf188) else (some rf189)) else (bif Nat.blt f 191 then (some rf190) else (some rf191))))))) else (bif Nat.blt f 224 then (bif Nat.blt f 208 then (bif Nat.blt f 200 then (bif Nat.blt f 196 then (bif Nat.blt f 194 then (bif Nat.blt f 193 then (some rf192) else (some rf193)) else (bif Nat.blt f 195 then (some rf194) else (some rf195))) else (bif Nat.blt f 198 then (bif Nat.blt f 197 then (some rf196) else (some rf197)) else (bif Nat.blt f 199 then (some rf198) else (some rf199)))) else (bif Nat.blt f 204 then (bif Nat.blt f 202 then (bif Nat.blt f 201 then (some rf200) else none) else (bif Nat.blt f 203 then none else (some rf203))) else (bif Nat.blt f 206 then (bif Nat.blt f 205 then (some rf204) else (some rf205)) else (bif Nat.blt f 207 then (some rf206) else (some rf207))))) else (bif Nat.blt f 216 then (bif Nat.blt f 212 then (bif Nat.blt f 210 then (bif Nat.blt f 209 then none else (some rf209)) else (bif Nat.blt f 211 then (some rf210) else (some rf211))) else (bif Nat.blt f 214 then (bif Nat.blt f 213 then (some rf212) else (some rf213)) else (bif Nat.blt f 215 then (some rf214) else (some rf215)))) else (bif Nat.blt f 220 then (bif Nat.blt f 218 then (bif Nat.blt f 217 then (some rf216) else (some rf217)) else (bif Nat.blt f 219 then (some rf218) else (some rf219))) else (bif Nat.blt f 222 then (bif Nat.blt f 221 then (some rf220) else (some rf221)) else none)))) else (bif Nat.blt f 240 then (bif Nat.blt f 232 then (bif Nat.blt f 228 then (bif Nat.blt f 226 then none else (bif Nat.blt f 227 then (some rf226) else (some rf227))) else (bif Nat.blt f 230 then (bif Nat.blt f 229 then (some rf228) else (some rf229)) else (bif Nat.blt f 231 then (some rf230) else none))) else none) else (bif Nat.blt f 248 then (bif Nat.blt f 244 then (bif Nat.blt f 242 then (bif Nat.blt f 241 then none else (some rf241)) else none) else (bif Nat.blt f 246 then none else (bif Nat.blt f 247 then none else (some rf247)))) else none))))) else none) else none
theorem pf5:prg 5=some rf5:=rfl
theorem pf18:prg 18=some rf18:=rfl
theorem pf19:prg 19=some rf19:=rfl
theorem pf20:prg 20=some rf20:=rfl
theorem pf21:prg 21=some rf21:=rfl
theorem pf22:prg 22=some rf22:=rfl
theorem pf23:prg 23=some rf23:=rfl
theorem pf24:prg 24=some rf24:=rfl
theorem pf48:prg 48=some rf48:=rfl
theorem pf50:prg 50=some rf50:=rfl
theorem pf51:prg 51=some rf51:=rfl
theorem pf52:prg 52=some rf52:=rfl
theorem pf53:prg 53=some rf53:=rfl
theorem pf54:prg 54=some rf54:=rfl
theorem pf55:prg 55=some rf55:=rfl
theorem pf56:prg 56=some rf56:=rfl
theorem pf57:prg 57=some rf57:=rfl
theorem pf58:prg 58=some rf58:=rfl
theorem pf59:prg 59=some rf59:=rfl
theorem pf60:prg 60=some rf60:=rfl
theorem pf61:prg 61=some rf61:=rfl
theorem pf62:prg 62=some rf62:=rfl
theorem pf63:prg 63=some rf63:=rfl
theorem pf71:prg 71=some rf71:=rfl
theorem pf80:prg 80=some rf80:=rfl
theorem pf90:prg 90=some rf90:=rfl
theorem pf91:prg 91=some rf91:=rfl
theorem pf93:prg 93=some rf93:=rfl
theorem pf94:prg 94=some rf94:=rfl
theorem pf95:prg 95=some rf95:=rfl
theorem pf96:prg 96=some rf96:=rfl
theorem pf97:prg 97=some rf97:=rfl
theorem pf98:prg 98=some rf98:=rfl
theorem pf99:prg 99=some rf99:=rfl
theorem pf100:prg 100=some rf100:=rfl
theorem pf101:prg 101=some rf101:=rfl
theorem pf102:prg 102=some rf102:=rfl
theorem pf103:prg 103=some rf103:=rfl
theorem pf104:prg 104=some rf104:=rfl
theorem pf105:prg 105=some rf105:=rfl
theorem pf106:prg 106=some rf106:=rfl
theorem pf107:prg 107=some rf107:=rfl
theorem pf108:prg 108=some rf108:=rfl
theorem pf109:prg 109=some rf109:=rfl
theorem pf110:prg 110=some rf110:=rfl
theorem pf111:prg 111=some rf111:=rfl
theorem pf112:prg 112=some rf112:=rfl
theorem pf113:prg 113=some rf113:=rfl
theorem pf114:prg 114=some rf114:=rfl
theorem pf115:prg 115=some rf115:=rfl
theorem pf116:prg 116=some rf116:=rfl
theorem pf121:prg 121=some rf121:=rfl
theorem pf124:prg 124=some rf124:=rfl
theorem pf134:prg 134=some rf134:=rfl
theorem pf142:prg 142=some rf142:=rfl
theorem pf143:prg 143=some rf143:=rfl
theorem pf144:prg 144=some rf144:=rfl
theorem pf145:prg 145=some rf145:=rfl
theorem pf146:prg 146=some rf146:=rfl
theorem pf147:prg 147=some rf147:=rfl
theorem pf148:prg 148=some rf148:=rfl
theorem pf149:prg 149=some rf149:=rfl
theorem pf150:prg 150=some rf150:=rfl
theorem pf158:prg 158=some rf158:=rfl
theorem pf159:prg 159=some rf159:=rfl
theorem pf169:prg 169=some rf169:=rfl
theorem pf178:prg 178=some rf178:=rfl
theorem pf179:prg 179=some rf179:=rfl
theorem pf180:prg 180=some rf180:=rfl
theorem pf181:prg 181=some rf181:=rfl
theorem pf182:prg 182=some rf182:=rfl
theorem pf183:prg 183=some rf183:=rfl
theorem pf184:prg 184=some rf184:=rfl
theorem pf185:prg 185=some rf185:=rfl
theorem pf187:prg 187=some rf187:=rfl
theorem pf188:prg 188=some rf188:=rfl
theorem pf189:prg 189=some rf189:=rfl
theorem pf190:prg 190=some rf190:=rfl
theorem pf191:prg 191=some rf191:=rfl
theorem pf192:prg 192=some rf192:=rfl
theorem pf193:prg 193=some rf193:=rfl
theorem pf194:prg 194=some rf194:=rfl
theorem pf195:prg 195=some rf195:=rfl
theorem pf196:prg 196=some rf196:=rfl
theorem pf200:prg 200=some rf200:=rfl
theorem pf211:prg 211=some rf211:=rfl
theorem pf212:prg 212=some rf212:=rfl
theorem pf213:prg 213=some rf213:=rfl
theorem pf214:prg 214=some rf214:=rfl
theorem pf215:prg 215=some rf215:=rfl
theorem pf216:prg 216=some rf216:=rfl
theorem pf217:prg 217=some rf217:=rfl
theorem pf218:prg 218=some rf218:=rfl
theorem pf228:prg 228=some rf228:=rfl
theorem pf229:prg 229=some rf229:=rfl
theorem br {f m:Nat}{A B:Option RF}{r:RF}{Q:Prop} (ha:f<m→A=some r→Q) (hb:m≤f→B=some r→Q) (h:(bif Nat.blt f m then A else B)=some r):Q:=by
 by_cases c:f<m
 ·have:Nat.blt f m=true:=Nat.ble_eq_true_of_le om
  rw[this] at h
  exact ha c h
 ·have:Nat.blt f m=false:=by
   cases q:Nat.blt f m with
   | false=>rfl
   | true=>exact absurd (kb q) om
  rw[this] at h
  exact hb om h
theorem no {r:RF}{Q:Prop} (h:none=some r):Q:=by cases h
theorem lf {f k:Nat}{rf r:RF} (e:f=k) (hc:(bo Tryz.prog k).bind bP=some rf) (h:some rf=some r):(bo Tryz.prog f).bind bP=some r:=by
 subst e
 rw[hc,h]
theorem det:Det (λf=>bo Tryz.prog f) prg:=by
 intro f rf' h
 refine oY.1 ?_
 exact br (λa0=>(br (λa1=>(br (λa2=>(br (λa3=>(br (λa4=>(br (λa5=>(br (λa6=>(br (λa7=>no) (λa7=>(br (λa8=>(br (λa9=>no) (λa9=>(lf (k:=5) om cf5)))) (λa8=>no))))) (λa6=>no))) (λa5=>(br (λa6=>(br (λa7=>(br (λa8=>(br (λa9=>no) (λa9=>(lf (k:=17) om cf17)))) (λa8=>(br (λa9=>(lf (k:=18) om cf18)) (λa9=>(lf (k:=19) om cf19)))))) (λa7=>(br (λa8=>(br (λa9=>(lf (k:=20) om cf20)) (λa9=>(lf (k:=21) om cf21)))) (λa8=>(br (λa9=>(lf (k:=22) om cf22)) (λa9=>(lf (k:=23) om cf23)))))))) (λa6=>(br (λa7=>(br (λa8=>(br (λa9=>(lf (k:=24) om cf24)) (λa9=>no))) (λa8=>no))) (λa7=>(br (λa8=>no) (λa8=>(br (λa9=>(lf (k:=30) om cf30)) (λa9=>no))))))))))) (λa4=>(br (λa5=>no) (λa5=>(br (λa6=>(br (λa7=>(br (λa8=>(br (λa9=>(lf (k:=48) om cf48)) (λa9=>(lf (k:=49) om cf49)))) (λa8=>(br (λa9=>(lf (k:=50) om cf50)) (λa9=>(lf (k:=51) om cf51)))))) (λa7=>(br (λa8=>(br (λa9=>(lf (k:=52) om cf52)) (λa9=>(lf (k:=53) om cf53)))) (λa8=>(br (λa9=>(lf (k:=54) om cf54)) (λa9=>(lf (k:=55) om cf55)))))))) (λa6=>(br (λa7=>(br (λa8=>(br (λa9=>(lf (k:=56) om cf56)) (λa9=>(lf (k:=57) om cf57)))) (λa8=>(br (λa9=>(lf (k:=58) om cf58)) (λa9=>(lf (k:=59) om cf59)))))) (λa7=>(br (λa8=>(br (λa9=>(lf (k:=60) om cf60)) (λa9=>(lf (k:=61) om cf61)))) (λa8=>(br (λa9=>(lf (k:=62) om cf62)) (λa9=>(lf (k:=63) om cf63)))))))))))))) (λa3=>(br (λa4=>(br (λa5=>(br (λa6=>(br (λa7=>(br (λa8=>(br (λa9=>(lf (k:=64) om cf64)) (λa9=>no))) (λa8=>(br (λa9=>no) (λa9=>(lf (k:=67) om cf67)))))) (λa7=>(br (λa8=>(br (λa9=>(lf (k:=68) om cf68)) (λa9=>(lf (k:=69) om cf69)))) (λa8=>(br (λa9=>no) (λa9=>(lf (k:=71) om cf71)))))))) (λa6=>(br (λa7=>(br (λa8=>(br (λa9=>(lf (k:=72) om cf72)) (λa9=>no))) (λa8=>no))) (λa7=>no))))) (λa5=>(br (λa6=>(br (λa7=>(br (λa8=>(br (λa9=>(lf (k:=80) om cf80)) (λa9=>no))) (λa8=>no))) (λa7=>no))) (λa6=>(br (λa7=>(br (λa8=>no) (λa8=>(br (λa9=>(lf (k:=90) om cf90)) (λa9=>(lf (k:=91) om cf91)))))) (λa7=>(br (λa8=>(br (λa9=>(lf (k:=92) om cf92)) (λa9=>(lf (k:=93) om cf93)))) (λa8=>(br (λa9=>(lf (k:=94) om cf94)) (λa9=>(lf (k:=95) om cf95)))))))))))) (λa4=>(br (λa5=>(br (λa6=>(br (λa7=>(br (λa8=>(br (λa9=>(lf (k:=96) om cf96)) (λa9=>(lf (k:=97) om cf97)))) (λa8=>(br (λa9=>(lf (k:=98) om cf98)) (λa9=>(lf (k:=99) om cf99)))))) (λa7=>(br (λa8=>(br (λa9=>(lf (k:=100) om cf100)) (λa9=>(lf (k:=101) om cf101)))) (λa8=>(br (λa9=>(lf (k:=102) om cf102)) (λa9=>(lf (k:=103) om cf103)))))))) (λa6=>(br (λa7=>(br (λa8=>(br (λa9=>(lf (k:=104) om cf104)) (λa9=>(lf (k:=105) om cf105)))) (λa8=>(br (λa9=>(lf (k:=106) om cf106)) (λa9=>(lf (k:=107) om cf107)))))) (λa7=>(br (λa8=>(br (λa9=>(lf (k:=108) om cf108)) (λa9=>(lf (k:=109) om cf109)))) (λa8=>(br (λa9=>(lf (k:=110) om cf110)) (λa9=>(lf (k:=111) om cf111)))))))))) (λa5=>(br (λa6=>(br (λa7=>(br (λa8=>(br (λa9=>(lf (k:=112) om cf112)) (λa9=>(lf (k:=113) om cf113)))) (λa8=>(br (λa9=>(lf (k:=114) om cf114)) (λa9=>(lf (k:=115) om cf115)))))) (λa7=>(br (λa8=>(br (λa9=>(lf (k:=116) om cf116)) (λa9=>(lf (k:=117) om cf117)))) (λa8=>(br (λa9=>(lf (k:=118) om cf118)) (λa9=>(lf (k:=119) om cf119)))))))) (λa6=>(br (λa7=>(br (λa8=>(br (λa9=>(lf (k:=120) om cf120)) (λa9=>(lf (k:=121) om cf121)))) (λa8=>no))) (λa7=>(br (λa8=>(br (λa9=>(lf (k:=124) om cf124)) (λa9=>(lf (k:=125) om cf125)))) (λa8=>no))))))))))))) (λa2=>(br (λa3=>(br (λa4=>(br (λa5=>(br (λa6=>(br (λa7=>no) (λa7=>(br (λa8=>no) (λa8=>(br (λa9=>(lf (k:=134) om cf134)) (λa9=>no))))))) (λa6=>(br (λa7=>no) (λa7=>(br (λa8=>(br (λa9=>(lf (k:=140) om cf140)) (λa9=>(lf (k:=141) om cf141)))) (λa8=>(br (λa9=>(lf (k:=142) om cf142)) (λa9=>(lf (k:=143) om cf143)))))))))) (λa5=>(br (λa6=>(br (λa7=>(br (λa8=>(br (λa9=>(lf (k:=144) om cf144)) (λa9=>(lf (k:=145) om cf145)))) (λa8=>(br (λa9=>(lf (k:=146) om cf146)) (λa9=>(lf (k:=147) om cf147)))))) (λa7=>(br (λa8=>(br (λa9=>(lf (k:=148) om cf148)) (λa9=>(lf (k:=149) om cf149)))) (λa8=>(br (λa9=>(lf (k:=150) om cf150)) (λa9=>(lf (k:=151) om cf151)))))))) (λa6=>(br (λa7=>(br (λa8=>(br (λa9=>(lf (k:=152) om cf152)) (λa9=>(lf (k:=153) om cf153)))) (λa8=>(br (λa9=>(lf (k:=154) om cf154)) (λa9=>(lf (k:=155) om cf155)))))) (λa7=>(br (λa8=>(br (λa9=>(lf (k:=156) om cf156)) (λa9=>(lf (k:=157) om cf157)))) (λa8=>(br (λa9=>(lf (k:=158) om cf158)) (λa9=>(lf (k:=159) om cf159)))))))))))) (λa4=>(br (λa5=>(br (λa6=>(br (λa7=>(br (λa8=>no) (λa8=>(br (λa9=>no) (λa9=>(lf (k:=163) om cf163)))))) (λa7=>no))) (λa6=>(br (λa7=>(br (λa8=>(br (λa9=>no) (λa9=>(lf (k:=169) om cf169)))) (λa8=>(br (λa9=>(lf (k:=170) om cf170)) (λa9=>(lf (k:=171) om cf171)))))) (λa7=>(br (λa8=>(br (λa9=>(lf (k:=172) om cf172)) (λa9=>(lf (k:=173) om cf173)))) (λa8=>(br (λa9=>(lf (k:=174) om cf174)) (λa9=>(lf (k:=175) om cf175)))))))))) (λa5=>(br (λa6=>(br (λa7=>(br (λa8=>(br (λa9=>(lf (k:=176) om cf176)) (λa9=>(lf (k:=177) om cf177)))) (λa8=>(br (λa9=>(lf (k:=178) om cf178)) (λa9=>(lf (k:=179) om cf179)))))) (λa7=>(br (λa8=>(br (λa9=>(lf (k:=180) om cf180)) (λa9=>(lf (k:=181) om cf181)))) (λa8=>(br (λa9=>(lf (k:=182) om cf182)) (λa9=>(lf (k:=183) om cf183)))))))) (λa6=>(br (λa7=>(br (λa8=>(br (λa9=>(lf (k:=184) om cf184)) (λa9=>(lf (k:=185) om cf185)))) (λa8=>(br (λa9=>no) (λa9=>(lf (k:=187) om cf187)))))) (λa7=>(br (λa8=>(br (λa9=>(lf (k:=188) om cf188)) (λa9=>(lf (k:=189) om cf189)))) (λa8=>(br (λa9=>(lf (k:=190) om cf190)) (λa9=>(lf (k:=191) om cf191)))))))))))))) (λa3=>(br (λa4=>(br (λa5=>(br (λa6=>(br (λa7=>(br (λa8=>(br (λa9=>(lf (k:=192) om cf192)) (λa9=>(lf (k:=193) om cf193)))) (λa8=>(br (λa9=>(lf (k:=194) om cf194)) (λa9=>(lf (k:=195) om cf195)))))) (λa7=>(br (λa8=>(br (λa9=>(lf (k:=196) om cf196)) (λa9=>(lf (k:=197) om cf197)))) (λa8=>(br (λa9=>(lf (k:=198) om cf198)) (λa9=>(lf (k:=199) om cf199)))))))) (λa6=>(br (λa7=>(br (λa8=>(br (λa9=>(lf (k:=200) om cf200)) (λa9=>no))) (λa8=>(br (λa9=>no) (λa9=>(lf (k:=203) om cf203)))))) (λa7=>(br (λa8=>(br (λa9=>(lf (k:=204) om cf204)) (λa9=>(lf (k:=205) om cf205)))) (λa8=>(br (λa9=>(lf (k:=206) om cf206)) (λa9=>(lf (k:=207) om cf207)))))))))) (λa5=>(br (λa6=>(br (λa7=>(br (λa8=>(br (λa9=>no) (λa9=>(lf (k:=209) om cf209)))) (λa8=>(br (λa9=>(lf (k:=210) om cf210)) (λa9=>(lf (k:=211) om cf211)))))) (λa7=>(br (λa8=>(br (λa9=>(lf (k:=212) om cf212)) (λa9=>(lf (k:=213) om cf213)))) (λa8=>(br (λa9=>(lf (k:=214) om cf214)) (λa9=>(lf (k:=215) om cf215)))))))) (λa6=>(br (λa7=>(br (λa8=>(br (λa9=>(lf (k:=216) om cf216)) (λa9=>(lf (k:=217) om cf217)))) (λa8=>(br (λa9=>(lf (k:=218) om cf218)) (λa9=>(lf (k:=219) om cf219)))))) (λa7=>(br (λa8=>(br (λa9=>(lf (k:=220) om cf220)) (λa9=>(lf (k:=221) om cf221)))) (λa8=>no))))))))) (λa4=>(br (λa5=>(br (λa6=>(br (λa7=>(br (λa8=>no) (λa8=>(br (λa9=>(lf (k:=226) om cf226)) (λa9=>(lf (k:=227) om cf227)))))) (λa7=>(br (λa8=>(br (λa9=>(lf (k:=228) om cf228)) (λa9=>(lf (k:=229) om cf229)))) (λa8=>(br (λa9=>(lf (k:=230) om cf230)) (λa9=>no))))))) (λa6=>no))) (λa5=>(br (λa6=>(br (λa7=>(br (λa8=>(br (λa9=>no) (λa9=>(lf (k:=241) om cf241)))) (λa8=>no))) (λa7=>(br (λa8=>no) (λa8=>(br (λa9=>no) (λa9=>(lf (k:=247) om cf247)))))))) (λa6=>no))))))))))) (λa1=>no))) (λa0=>no) h
end Go.Proofs.YtahepnbflofndaaGreatDoor
