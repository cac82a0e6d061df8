/-
  The functions in the clean machine's form: printed by a program of ours, checked by the kernel.
-/
import Derived.Test.YtldkniahgagocaaGreatKRf0
import Derived.Test.YtldkniahgagocaaGreatKRf1
import Derived.Test.YtldkniahgagocaaGreatKAmK
set_option linter.all false
namespace Go.Proofs.YtldkniahgagocaaGreat
open Go.Am
set_option maxRecDepth 100000
def mks:List (Nat×RF):=[(18,srtRF)]
def tab:List (Nat×RF):=[(3,rf3),(4,rf4),(5,rf5),(6,rf6),(7,rf7),(8,rf8),(9,rf9),(10,rf10),(11,rf11),(12,rf12),(13,rf13),(14,rf14),(15,rf15),(16,rf16),(17,rf17),(18,rf18),(19,rf19),(20,rf20),(21,rf21),(22,rf22),(23,rf23),(24,rf24),(25,rf25),(26,rf26),(27,rf27),(28,rf28),(29,rf29),(30,rf30),(31,rf31),(32,rf32),(33,rf33),(34,rf34),(35,rf35),(36,rf36),(37,rf37),(38,rf38),(39,rf39),(40,rf40),(41,rf41),(42,rf42),(43,rf43),(44,rf44),(45,rf45),(46,rf46),(47,rf47),(48,rf48),(49,rf49),(50,rf50),(51,rf51),(52,rf52),(53,rf53),(54,rf54),(55,rf55),(56,rf56),(57,rf57),(58,rf58),(59,rf59),(60,rf60),(61,rf61),(62,rf62),(63,rf63),(64,rf64),(65,rf65),(66,rf66),(67,rf67),(68,rf68),(69,rf69),(70,rf70),(71,rf71),(72,rf72),(73,rf73),(74,rf74),(75,rf75),(76,rf76),(77,rf77),(78,rf78),(79,rf79),(80,rf80),(81,rf81),(82,rf82),(83,rf83),(84,rf84),(85,rf85),(86,rf86),(87,rf87),(88,rf88),(89,rf89),(90,rf90),(91,rf91),(92,rf92),(93,rf93),(94,rf94),(95,rf95),(96,rf96),(97,rf97),(98,rf98),(99,rf99),(100,rf100),(101,rf101),(102,rf102),(103,rf103),(104,rf104),(105,rf105),(106,rf106),(107,rf107)]
noncomputable def prg:RP:=fun f=>lkp tab f (prgM Tryz.prog mks f)
theorem pf3:prg 3=some rf3:=rfl
theorem pf5:prg 5=some rf5:=rfl
theorem pf6:prg 6=some rf6:=rfl
theorem pf9:prg 9=some rf9:=rfl
theorem pf10:prg 10=some rf10:=rfl
theorem pf11:prg 11=some rf11:=rfl
theorem pf12:prg 12=some rf12:=rfl
theorem pf17:prg 17=some rf17:=rfl
theorem pf18:prg 18=some rf18:=rfl
theorem pf19:prg 19=some rf19:=rfl
theorem pf20:prg 20=some rf20:=rfl
theorem pf21:prg 21=some rf21:=rfl
theorem pf22:prg 22=some rf22:=rfl
theorem pf23:prg 23=some rf23:=rfl
theorem pf24:prg 24=some rf24:=rfl
theorem pf25:prg 25=some rf25:=rfl
theorem pf26:prg 26=some rf26:=rfl
theorem pf31:prg 31=some rf31:=rfl
theorem pf32:prg 32=some rf32:=rfl
theorem pf33:prg 33=some rf33:=rfl
theorem pf34:prg 34=some rf34:=rfl
theorem pf35:prg 35=some rf35:=rfl
theorem pf43:prg 43=some rf43:=rfl
theorem pf53:prg 53=some rf53:=rfl
theorem ps18:prg (18+srtN)=some srtRF:=rfl
theorem det:Det (orcl Tryz.prog mks) prg:=det_lkp (by simp only[mks,List.forall_mem_cons]; exact⟨rfl,fun _ h=>by cases h⟩) rfl ⟨cf3,cf4,cf5,cf6,cf7,cf8,cf9,cf10,cf11,cf12,cf13,cf14,cf15,cf16,cf17,cf18,cf19,cf20,cf21,cf22,cf23,cf24,cf25,cf26,cf27,cf28,cf29,cf30,cf31,cf32,cf33,cf34,cf35,cf36,cf37,cf38,cf39,cf40,cf41,cf42,cf43,cf44,cf45,cf46,cf47,cf48,cf49,cf50,cf51,cf52,cf53,cf54,cf55,cf56,cf57,cf58,cf59,cf60,cf61,cf62,cf63,cf64,cf65,cf66,cf67,cf68,cf69,cf70,cf71,cf72,cf73,cf74,cf75,cf76,cf77,cf78,cf79,cf80,cf81,cf82,cf83,cf84,cf85,cf86,cf87,cf88,cf89,cf90,cf91,cf92,cf93,cf94,cf95,cf96,cf97,cf98,cf99,cf100,cf101,cf102,cf103,cf104,cf105,cf106,cf107,trivial⟩
end Go.Proofs.YtldkniahgagocaaGreat
