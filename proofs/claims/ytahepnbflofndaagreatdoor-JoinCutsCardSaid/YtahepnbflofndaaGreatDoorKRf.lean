/- The functions in the clean machine's form -/
import Derived.Test.YtahepnbflofndaaGreatDoorKRf0
import Derived.Test.YtahepnbflofndaaGreatDoorKRf1
import Derived.Test.YtahepnbflofndaaGreatDoorKAmK
set_option linter.all false
namespace Go.Proofs.YtahepnbflofndaaGreatDoor
open Go.Am
set_option maxRecDepth 100000
def mks:List (Nat×RF):=[(99,sT),(97,rJ 98)]
def tab:List (Nat×RF):=[(104,rf104),(112,rf112),(58,rf58),(204,rf204),(105,rf105),(93,rf93),(197,rf197),(187,rf187),(145,rf145),(57,rf57),(200,rf200),(158,rf158),(99,rf99),(188,rf188),(146,rf146),(80,rf80),(196,rf196),(169,rf169),(154,rf154),(150,rf150),(134,rf134),(111,rf111),(61,rf61),(157,rf157),(152,rf152),(107,rf107),(110,rf110),(170,rf170),(153,rf153),(142,rf142),(96,rf96),(151,rf151),(121,rf121),(101,rf101),(63,rf63),(60,rf60),(59,rf59),(120,rf120),(116,rf116),(106,rf106),(94,rf94),(221,rf221),(199,rf199),(156,rf156),(155,rf155),(143,rf143),(119,rf119),(62,rf62),(24,rf24),(109,rf109),(108,rf108),(52,rf52),(230,rf230),(220,rf220),(219,rf219),(198,rf198),(100,rf100),(97,rf97),(95,rf95),(51,rf51),(178,rf178),(144,rf144),(149,rf149),(117,rf117),(115,rf115),(19,rf19),(64,rf64),(118,rf118),(6,rf6),(18,rf18),(20,rf20),(21,rf21),(25,rf25),(26,rf26),(27,rf27),(28,rf28),(29,rf29),(48,rf48),(50,rf50),(53,rf53),(54,rf54),(55,rf55),(56,rf56),(65,rf65),(66,rf66),(71,rf71),(90,rf90),(91,rf91),(102,rf102),(103,rf103),(113,rf113),(114,rf114),(122,rf122),(123,rf123),(124,rf124),(147,rf147),(148,rf148),(159,rf159),(160,rf160),(161,rf161),(162,rf162)]
noncomputable def prg:RP:=λf=>lkp tab f (AQ Tryz.prog mks f)
theorem pf6:prg 6=some rf6:=rfl
theorem pf18:prg 18=some rf18:=rfl
theorem pf19:prg 19=some rf19:=rfl
theorem pf20:prg 20=some rf20:=rfl
theorem pf21:prg 21=some rf21:=rfl
theorem pf24:prg 24=some rf24:=rfl
theorem pf25:prg 25=some rf25:=rfl
theorem pf26:prg 26=some rf26:=rfl
theorem pf27:prg 27=some rf27:=rfl
theorem pf28:prg 28=some rf28:=rfl
theorem pf29:prg 29=some rf29:=rfl
theorem pf48:prg 48=some rf48:=rfl
theorem pf50:prg 50=some rf50:=rfl
theorem pf51:prg 51=some rf51:=rfl
theorem pf52:prg 52=some rf52:=rfl
theorem pf53:prg 53=some rf53:=rfl
theorem pf54:prg 54=some rf54:=rfl
theorem pf55:prg 55=some rf55:=rfl
theorem pf56:prg 56=some rf56:=rfl
theorem pf57:prg 57=some rf57:=rfl
theorem pf58:prg 58=some rf58:=rfl
theorem pf59:prg 59=some rf59:=rfl
theorem pf60:prg 60=some rf60:=rfl
theorem pf61:prg 61=some rf61:=rfl
theorem pf62:prg 62=some rf62:=rfl
theorem pf63:prg 63=some rf63:=rfl
theorem pf64:prg 64=some rf64:=rfl
theorem pf65:prg 65=some rf65:=rfl
theorem pf66:prg 66=some rf66:=rfl
theorem pf71:prg 71=some rf71:=rfl
theorem pf80:prg 80=some rf80:=rfl
theorem pf90:prg 90=some rf90:=rfl
theorem pf91:prg 91=some rf91:=rfl
theorem pf93:prg 93=some rf93:=rfl
theorem pf94:prg 94=some rf94:=rfl
theorem pf95:prg 95=some rf95:=rfl
theorem pf96:prg 96=some rf96:=rfl
theorem pf97:prg 97=some rf97:=rfl
theorem pf99:prg 99=some rf99:=rfl
theorem pf100:prg 100=some rf100:=rfl
theorem pf101:prg 101=some rf101:=rfl
theorem pf102:prg 102=some rf102:=rfl
theorem pf103:prg 103=some rf103:=rfl
theorem pf104:prg 104=some rf104:=rfl
theorem pf105:prg 105=some rf105:=rfl
theorem pf106:prg 106=some rf106:=rfl
theorem pf107:prg 107=some rf107:=rfl
theorem pf108:prg 108=some rf108:=rfl
theorem pf109:prg 109=some rf109:=rfl
theorem pf110:prg 110=some rf110:=rfl
theorem pf111:prg 111=some rf111:=rfl
theorem pf112:prg 112=some rf112:=rfl
theorem pf113:prg 113=some rf113:=rfl
theorem pf114:prg 114=some rf114:=rfl
theorem pf115:prg 115=some rf115:=rfl
theorem pf116:prg 116=some rf116:=rfl
theorem pf117:prg 117=some rf117:=rfl
theorem pf118:prg 118=some rf118:=rfl
theorem pf119:prg 119=some rf119:=rfl
theorem pf120:prg 120=some rf120:=rfl
theorem pf121:prg 121=some rf121:=rfl
theorem pf122:prg 122=some rf122:=rfl
theorem pf123:prg 123=some rf123:=rfl
theorem pf124:prg 124=some rf124:=rfl
theorem pf134:prg 134=some rf134:=rfl
theorem pf142:prg 142=some rf142:=rfl
theorem pf143:prg 143=some rf143:=rfl
theorem pf144:prg 144=some rf144:=rfl
theorem pf145:prg 145=some rf145:=rfl
theorem pf146:prg 146=some rf146:=rfl
theorem pf147:prg 147=some rf147:=rfl
theorem pf148:prg 148=some rf148:=rfl
theorem pf149:prg 149=some rf149:=rfl
theorem pf150:prg 150=some rf150:=rfl
theorem pf151:prg 151=some rf151:=rfl
theorem pf152:prg 152=some rf152:=rfl
theorem pf153:prg 153=some rf153:=rfl
theorem pf154:prg 154=some rf154:=rfl
theorem pf155:prg 155=some rf155:=rfl
theorem pf156:prg 156=some rf156:=rfl
theorem pf157:prg 157=some rf157:=rfl
theorem pf158:prg 158=some rf158:=rfl
theorem pf159:prg 159=some rf159:=rfl
theorem pf160:prg 160=some rf160:=rfl
theorem pf161:prg 161=some rf161:=rfl
theorem pf162:prg 162=some rf162:=rfl
theorem pf169:prg 169=some rf169:=rfl
theorem pf170:prg 170=some rf170:=rfl
theorem pf178:prg 178=some rf178:=rfl
theorem pf187:prg 187=some rf187:=rfl
theorem pf188:prg 188=some rf188:=rfl
theorem pf196:prg 196=some rf196:=rfl
theorem pf197:prg 197=some rf197:=rfl
theorem pf198:prg 198=some rf198:=rfl
theorem pf199:prg 199=some rf199:=rfl
theorem pf200:prg 200=some rf200:=rfl
theorem pf204:prg 204=some rf204:=rfl
theorem pf219:prg 219=some rf219:=rfl
theorem pf220:prg 220=some rf220:=rfl
theorem pf221:prg 221=some rf221:=rfl
theorem pf230:prg 230=some rf230:=rfl
theorem ps99:prg (99+mZ)=some sT:=rfl
theorem ps97:prg (97+mZ)=some (rJ 98):=rfl
theorem det:Det (wW Tryz.prog mks) prg:=Kw (by simp only[mks,yi]; exact⟨rfl,rfl,λ_ h=>by cases h⟩) rfl ⟨cf104,cf112,cf58,cf204,cf105,cf93,cf197,cf187,cf145,cf57,cf200,cf158,cf99,cf188,cf146,cf80,cf196,cf169,cf154,cf150,cf134,cf111,cf61,cf157,cf152,cf107,cf110,cf170,cf153,cf142,cf96,cf151,cf121,cf101,cf63,cf60,cf59,cf120,cf116,cf106,cf94,cf221,cf199,cf156,cf155,cf143,cf119,cf62,cf24,cf109,cf108,cf52,cf230,cf220,cf219,cf198,cf100,cf97,cf95,cf51,cf178,cf144,cf149,cf117,cf115,cf19,cf64,cf118,cf6,cf18,cf20,cf21,cf25,cf26,cf27,cf28,cf29,cf48,cf50,cf53,cf54,cf55,cf56,cf65,cf66,cf71,cf90,cf91,cf102,cf103,cf113,cf114,cf122,cf123,cf124,cf147,cf148,cf159,cf160,cf161,cf162,trivial⟩
end Go.Proofs.YtahepnbflofndaaGreatDoor
