/-
  The functions in the clean machine's form: printed by a program of ours, checked by the kernel.
-/
import Derived.Test.YticaalcbgikjjaaGreatDoorKRf0
import Derived.Test.YticaalcbgikjjaaGreatDoorKAmK
set_option linter.all false
namespace Go.Proofs.YticaalcbgikjjaaGreatDoor
open Go.Am
set_option maxRecDepth 100000
def mks:List (Nat×RF):=[(28,srtRF)]
def tab:List (Nat×RF):=[(3,rf3),(5,rf5),(6,rf6),(7,rf7),(8,rf8),(9,rf9),(12,rf12),(13,rf13),(14,rf14),(15,rf15),(16,rf16),(17,rf17),(18,rf18),(19,rf19),(20,rf20),(21,rf21),(22,rf22),(23,rf23),(24,rf24),(25,rf25),(26,rf26),(27,rf27),(28,rf28),(29,rf29),(33,rf33),(34,rf34),(35,rf35),(36,rf36),(37,rf37),(38,rf38),(39,rf39),(40,rf40),(41,rf41),(43,rf43),(47,rf47),(48,rf48),(49,rf49),(50,rf50),(51,rf51),(52,rf52),(53,rf53),(54,rf54),(55,rf55),(56,rf56),(57,rf57),(58,rf58),(59,rf59),(60,rf60),(61,rf61),(62,rf62),(70,rf70),(71,rf71),(72,rf72),(73,rf73),(74,rf74),(75,rf75),(76,rf76),(77,rf77),(78,rf78),(79,rf79),(84,rf84),(97,rf97),(98,rf98),(99,rf99),(100,rf100),(101,rf101),(102,rf102),(112,rf112),(113,rf113),(128,rf128),(129,rf129),(150,rf150),(151,rf151),(152,rf152),(153,rf153),(165,rf165),(183,rf183)]
noncomputable def prg:RP:=fun f=>lkp tab f (prgM Tryz.prog mks f)
theorem pf3:prg 3=some rf3:=rfl
theorem pf5:prg 5=some rf5:=rfl
theorem pf6:prg 6=some rf6:=rfl
theorem pf7:prg 7=some rf7:=rfl
theorem pf8:prg 8=some rf8:=rfl
theorem pf9:prg 9=some rf9:=rfl
theorem pf12:prg 12=some rf12:=rfl
theorem pf13:prg 13=some rf13:=rfl
theorem pf14:prg 14=some rf14:=rfl
theorem pf15:prg 15=some rf15:=rfl
theorem pf16:prg 16=some rf16:=rfl
theorem pf17:prg 17=some rf17:=rfl
theorem pf18:prg 18=some rf18:=rfl
theorem pf19:prg 19=some rf19:=rfl
theorem pf20:prg 20=some rf20:=rfl
theorem pf21:prg 21=some rf21:=rfl
theorem pf22:prg 22=some rf22:=rfl
theorem pf23:prg 23=some rf23:=rfl
theorem pf24:prg 24=some rf24:=rfl
theorem pf25:prg 25=some rf25:=rfl
theorem pf26:prg 26=some rf26:=rfl
theorem pf27:prg 27=some rf27:=rfl
theorem pf28:prg 28=some rf28:=rfl
theorem pf29:prg 29=some rf29:=rfl
theorem pf33:prg 33=some rf33:=rfl
theorem pf34:prg 34=some rf34:=rfl
theorem pf35:prg 35=some rf35:=rfl
theorem pf36:prg 36=some rf36:=rfl
theorem pf37:prg 37=some rf37:=rfl
theorem pf38:prg 38=some rf38:=rfl
theorem pf39:prg 39=some rf39:=rfl
theorem pf40:prg 40=some rf40:=rfl
theorem pf41:prg 41=some rf41:=rfl
theorem pf43:prg 43=some rf43:=rfl
theorem pf47:prg 47=some rf47:=rfl
theorem pf48:prg 48=some rf48:=rfl
theorem pf49:prg 49=some rf49:=rfl
theorem pf50:prg 50=some rf50:=rfl
theorem pf51:prg 51=some rf51:=rfl
theorem pf52:prg 52=some rf52:=rfl
theorem pf53:prg 53=some rf53:=rfl
theorem pf54:prg 54=some rf54:=rfl
theorem pf55:prg 55=some rf55:=rfl
theorem pf56:prg 56=some rf56:=rfl
theorem pf57:prg 57=some rf57:=rfl
theorem pf58:prg 58=some rf58:=rfl
theorem pf59:prg 59=some rf59:=rfl
theorem pf60:prg 60=some rf60:=rfl
theorem pf61:prg 61=some rf61:=rfl
theorem pf62:prg 62=some rf62:=rfl
theorem pf70:prg 70=some rf70:=rfl
theorem pf71:prg 71=some rf71:=rfl
theorem pf72:prg 72=some rf72:=rfl
theorem pf73:prg 73=some rf73:=rfl
theorem pf74:prg 74=some rf74:=rfl
theorem pf75:prg 75=some rf75:=rfl
theorem pf76:prg 76=some rf76:=rfl
theorem pf77:prg 77=some rf77:=rfl
theorem pf78:prg 78=some rf78:=rfl
theorem pf79:prg 79=some rf79:=rfl
theorem pf84:prg 84=some rf84:=rfl
theorem pf97:prg 97=some rf97:=rfl
theorem pf98:prg 98=some rf98:=rfl
theorem pf99:prg 99=some rf99:=rfl
theorem pf100:prg 100=some rf100:=rfl
theorem pf101:prg 101=some rf101:=rfl
theorem pf102:prg 102=some rf102:=rfl
theorem pf112:prg 112=some rf112:=rfl
theorem pf113:prg 113=some rf113:=rfl
theorem pf128:prg 128=some rf128:=rfl
theorem pf129:prg 129=some rf129:=rfl
theorem pf150:prg 150=some rf150:=rfl
theorem pf151:prg 151=some rf151:=rfl
theorem pf152:prg 152=some rf152:=rfl
theorem pf153:prg 153=some rf153:=rfl
theorem pf165:prg 165=some rf165:=rfl
theorem pf183:prg 183=some rf183:=rfl
theorem ps28:prg (28+srtN)=some srtRF:=rfl
theorem det:Det (orcl Tryz.prog mks) prg:=det_lkp (by simp only[mks,List.forall_mem_cons]; exact⟨rfl,fun _ h=>by cases h⟩) rfl ⟨cf3,cf5,cf6,cf7,cf8,cf9,cf12,cf13,cf14,cf15,cf16,cf17,cf18,cf19,cf20,cf21,cf22,cf23,cf24,cf25,cf26,cf27,cf28,cf29,cf33,cf34,cf35,cf36,cf37,cf38,cf39,cf40,cf41,cf43,cf47,cf48,cf49,cf50,cf51,cf52,cf53,cf54,cf55,cf56,cf57,cf58,cf59,cf60,cf61,cf62,cf70,cf71,cf72,cf73,cf74,cf75,cf76,cf77,cf78,cf79,cf84,cf97,cf98,cf99,cf100,cf101,cf102,cf112,cf113,cf128,cf129,cf150,cf151,cf152,cf153,cf165,cf183,trivial⟩
end Go.Proofs.YticaalcbgikjjaaGreatDoor
