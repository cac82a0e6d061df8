/-
  strconv: the digits are laid, to the end.
-/
import Derived.Test.YtjcbcmonmmfllaaGreatDoorFmt
namespace Go.Proofs.YtjcbcmonmmfllaaGreatDoor
set_option linter.unusedVariables false
set_option linter.unusedSimpArgs false
open Go.Am

def body4 : RC := (.seq (.reg [⟨(some 100), (.mov (.t 12)), none, none, []⟩, ⟨(some 101), (.bin .rem .no (.t 100) (.c (.int .u32 (10000 : Int)))), none, none, []⟩, ⟨(some 13), (.mov (.t 101)), none, none, []⟩]) (.seq (.reg [⟨(some 102), (.mov (.t 12)), none, none, []⟩, ⟨(some 103), (.bin .quo .no (.t 102) (.c (.int .u32 (10000 : Int)))), none, none, []⟩, ⟨(some 12), (.mov (.t 103)), none, none, []⟩]) (.seq (.reg [⟨(some 104), (.mov (.t 13)), none, none, []⟩, ⟨(some 105), (.bin .quo .no (.t 104) (.c (.int .u32 (100 : Int)))), none, none, []⟩, ⟨(some 106), (.bin .mul .no (.t 105) (.c (.int .u32 (2 : Int)))), none, none, []⟩, ⟨(some 107), (.mov (.t 13)), none, none, []⟩, ⟨(some 108), (.bin .rem .no (.t 107) (.c (.int .u32 (100 : Int)))), none, none, []⟩, ⟨(some 109), (.bin .mul .no (.t 108) (.c (.int .u32 (2 : Int)))), none, none, []⟩, ⟨(some 14), (.mov (.t 106)), none, none, []⟩, ⟨(some 15), (.mov (.t 109)), none, none, []⟩]) (.seq (.reg [⟨(some 110), (.mov (.t 0)), none, none, []⟩, ⟨(some 111), (.mov (.t 4)), none, none, []⟩, ⟨(some 112), (.bin .sub .no (.t 111) (.c (.int .i64 (1 : Int)))), none, none, []⟩, ⟨(some 113), (.mov (.t 0)), none, none, []⟩, ⟨(some 114), (.mov (.t 4)), none, none, []⟩, ⟨(some 115), (.bin .sub .no (.t 114) (.c (.int .i64 (2 : Int)))), none, none, []⟩, ⟨(some 116), (.mov (.t 15)), none, none, []⟩, ⟨(some 117), (.bin .add .no (.t 116) (.c (.int .u32 (1 : Int)))), none, none, []⟩, ⟨(some 118), (.idxS (.c (.str [(48 : UInt8), (48 : UInt8), (48 : UInt8), (49 : UInt8), (48 : UInt8), (50 : UInt8), (48 : UInt8), (51 : UInt8), (48 : UInt8), (52 : UInt8), (48 : UInt8), (53 : UInt8), (48 : UInt8), (54 : UInt8), (48 : UInt8), (55 : UInt8), (48 : UInt8), (56 : UInt8), (48 : UInt8), (57 : UInt8), (49 : UInt8), (48 : UInt8), (49 : UInt8), (49 : UInt8), (49 : UInt8), (50 : UInt8), (49 : UInt8), (51 : UInt8), (49 : UInt8), (52 : UInt8), (49 : UInt8), (53 : UInt8), (49 : UInt8), (54 : UInt8), (49 : UInt8), (55 : UInt8), (49 : UInt8), (56 : UInt8), (49 : UInt8), (57 : UInt8), (50 : UInt8), (48 : UInt8), (50 : UInt8), (49 : UInt8), (50 : UInt8), (50 : UInt8), (50 : UInt8), (51 : UInt8), (50 : UInt8), (52 : UInt8), (50 : UInt8), (53 : UInt8), (50 : UInt8), (54 : UInt8), (50 : UInt8), (55 : UInt8), (50 : UInt8), (56 : UInt8), (50 : UInt8), (57 : UInt8), (51 : UInt8), (48 : UInt8), (51 : UInt8), (49 : UInt8), (51 : UInt8), (50 : UInt8), (51 : UInt8), (51 : UInt8), (51 : UInt8), (52 : UInt8), (51 : UInt8), (53 : UInt8), (51 : UInt8), (54 : UInt8), (51 : UInt8), (55 : UInt8), (51 : UInt8), (56 : UInt8), (51 : UInt8), (57 : UInt8), (52 : UInt8), (48 : UInt8), (52 : UInt8), (49 : UInt8), (52 : UInt8), (50 : UInt8), (52 : UInt8), (51 : UInt8), (52 : UInt8), (52 : UInt8), (52 : UInt8), (53 : UInt8), (52 : UInt8), (54 : UInt8), (52 : UInt8), (55 : UInt8), (52 : UInt8), (56 : UInt8), (52 : UInt8), (57 : UInt8), (53 : UInt8), (48 : UInt8), (53 : UInt8), (49 : UInt8), (53 : UInt8), (50 : UInt8), (53 : UInt8), (51 : UInt8), (53 : UInt8), (52 : UInt8), (53 : UInt8), (53 : UInt8), (53 : UInt8), (54 : UInt8), (53 : UInt8), (55 : UInt8), (53 : UInt8), (56 : UInt8), (53 : UInt8), (57 : UInt8), (54 : UInt8), (48 : UInt8), (54 : UInt8), (49 : UInt8), (54 : UInt8), (50 : UInt8), (54 : UInt8), (51 : UInt8), (54 : UInt8), (52 : UInt8), (54 : UInt8), (53 : UInt8), (54 : UInt8), (54 : UInt8), (54 : UInt8), (55 : UInt8), (54 : UInt8), (56 : UInt8), (54 : UInt8), (57 : UInt8), (55 : UInt8), (48 : UInt8), (55 : UInt8), (49 : UInt8), (55 : UInt8), (50 : UInt8), (55 : UInt8), (51 : UInt8), (55 : UInt8), (52 : UInt8), (55 : UInt8), (53 : UInt8), (55 : UInt8), (54 : UInt8), (55 : UInt8), (55 : UInt8), (55 : UInt8), (56 : UInt8), (55 : UInt8), (57 : UInt8), (56 : UInt8), (48 : UInt8), (56 : UInt8), (49 : UInt8), (56 : UInt8), (50 : UInt8), (56 : UInt8), (51 : UInt8), (56 : UInt8), (52 : UInt8), (56 : UInt8), (53 : UInt8), (56 : UInt8), (54 : UInt8), (56 : UInt8), (55 : UInt8), (56 : UInt8), (56 : UInt8), (56 : UInt8), (57 : UInt8), (57 : UInt8), (48 : UInt8), (57 : UInt8), (49 : UInt8), (57 : UInt8), (50 : UInt8), (57 : UInt8), (51 : UInt8), (57 : UInt8), (52 : UInt8), (57 : UInt8), (53 : UInt8), (57 : UInt8), (54 : UInt8), (57 : UInt8), (55 : UInt8), (57 : UInt8), (56 : UInt8), (57 : UInt8), (57 : UInt8)])) (.t 117)), none, none, []⟩, ⟨(some 119), (.mov (.t 15)), none, none, []⟩, ⟨(some 120), (.idxS (.c (.str [(48 : UInt8), (48 : UInt8), (48 : UInt8), (49 : UInt8), (48 : UInt8), (50 : UInt8), (48 : UInt8), (51 : UInt8), (48 : UInt8), (52 : UInt8), (48 : UInt8), (53 : UInt8), (48 : UInt8), (54 : UInt8), (48 : UInt8), (55 : UInt8), (48 : UInt8), (56 : UInt8), (48 : UInt8), (57 : UInt8), (49 : UInt8), (48 : UInt8), (49 : UInt8), (49 : UInt8), (49 : UInt8), (50 : UInt8), (49 : UInt8), (51 : UInt8), (49 : UInt8), (52 : UInt8), (49 : UInt8), (53 : UInt8), (49 : UInt8), (54 : UInt8), (49 : UInt8), (55 : UInt8), (49 : UInt8), (56 : UInt8), (49 : UInt8), (57 : UInt8), (50 : UInt8), (48 : UInt8), (50 : UInt8), (49 : UInt8), (50 : UInt8), (50 : UInt8), (50 : UInt8), (51 : UInt8), (50 : UInt8), (52 : UInt8), (50 : UInt8), (53 : UInt8), (50 : UInt8), (54 : UInt8), (50 : UInt8), (55 : UInt8), (50 : UInt8), (56 : UInt8), (50 : UInt8), (57 : UInt8), (51 : UInt8), (48 : UInt8), (51 : UInt8), (49 : UInt8), (51 : UInt8), (50 : UInt8), (51 : UInt8), (51 : UInt8), (51 : UInt8), (52 : UInt8), (51 : UInt8), (53 : UInt8), (51 : UInt8), (54 : UInt8), (51 : UInt8), (55 : UInt8), (51 : UInt8), (56 : UInt8), (51 : UInt8), (57 : UInt8), (52 : UInt8), (48 : UInt8), (52 : UInt8), (49 : UInt8), (52 : UInt8), (50 : UInt8), (52 : UInt8), (51 : UInt8), (52 : UInt8), (52 : UInt8), (52 : UInt8), (53 : UInt8), (52 : UInt8), (54 : UInt8), (52 : UInt8), (55 : UInt8), (52 : UInt8), (56 : UInt8), (52 : UInt8), (57 : UInt8), (53 : UInt8), (48 : UInt8), (53 : UInt8), (49 : UInt8), (53 : UInt8), (50 : UInt8), (53 : UInt8), (51 : UInt8), (53 : UInt8), (52 : UInt8), (53 : UInt8), (53 : UInt8), (53 : UInt8), (54 : UInt8), (53 : UInt8), (55 : UInt8), (53 : UInt8), (56 : UInt8), (53 : UInt8), (57 : UInt8), (54 : UInt8), (48 : UInt8), (54 : UInt8), (49 : UInt8), (54 : UInt8), (50 : UInt8), (54 : UInt8), (51 : UInt8), (54 : UInt8), (52 : UInt8), (54 : UInt8), (53 : UInt8), (54 : UInt8), (54 : UInt8), (54 : UInt8), (55 : UInt8), (54 : UInt8), (56 : UInt8), (54 : UInt8), (57 : UInt8), (55 : UInt8), (48 : UInt8), (55 : UInt8), (49 : UInt8), (55 : UInt8), (50 : UInt8), (55 : UInt8), (51 : UInt8), (55 : UInt8), (52 : UInt8), (55 : UInt8), (53 : UInt8), (55 : UInt8), (54 : UInt8), (55 : UInt8), (55 : UInt8), (55 : UInt8), (56 : UInt8), (55 : UInt8), (57 : UInt8), (56 : UInt8), (48 : UInt8), (56 : UInt8), (49 : UInt8), (56 : UInt8), (50 : UInt8), (56 : UInt8), (51 : UInt8), (56 : UInt8), (52 : UInt8), (56 : UInt8), (53 : UInt8), (56 : UInt8), (54 : UInt8), (56 : UInt8), (55 : UInt8), (56 : UInt8), (56 : UInt8), (56 : UInt8), (57 : UInt8), (57 : UInt8), (48 : UInt8), (57 : UInt8), (49 : UInt8), (57 : UInt8), (50 : UInt8), (57 : UInt8), (51 : UInt8), (57 : UInt8), (52 : UInt8), (57 : UInt8), (53 : UInt8), (57 : UInt8), (54 : UInt8), (57 : UInt8), (55 : UInt8), (57 : UInt8), (56 : UInt8), (57 : UInt8), (57 : UInt8)])) (.t 119)), none, none, []⟩, ⟨(some 121), (.iadr 1 (.t 110) (.t 112)), none, none, []⟩, ⟨none, (.store 1 (.t 121) (.t 118)), none, none, []⟩, ⟨(some 122), (.iadr 1 (.t 113) (.t 115)), none, none, []⟩, ⟨none, (.store 1 (.t 122) (.t 120)), none, none, []⟩]) (.seq (.reg [⟨(some 123), (.mov (.t 0)), none, none, []⟩, ⟨(some 124), (.mov (.t 4)), none, none, []⟩, ⟨(some 125), (.bin .sub .no (.t 124) (.c (.int .i64 (3 : Int)))), none, none, []⟩, ⟨(some 126), (.mov (.t 0)), none, none, []⟩, ⟨(some 127), (.mov (.t 4)), none, none, []⟩, ⟨(some 128), (.bin .sub .no (.t 127) (.c (.int .i64 (4 : Int)))), none, none, []⟩, ⟨(some 129), (.mov (.t 14)), none, none, []⟩, ⟨(some 130), (.bin .add .no (.t 129) (.c (.int .u32 (1 : Int)))), none, none, []⟩, ⟨(some 131), (.idxS (.c (.str [(48 : UInt8), (48 : UInt8), (48 : UInt8), (49 : UInt8), (48 : UInt8), (50 : UInt8), (48 : UInt8), (51 : UInt8), (48 : UInt8), (52 : UInt8), (48 : UInt8), (53 : UInt8), (48 : UInt8), (54 : UInt8), (48 : UInt8), (55 : UInt8), (48 : UInt8), (56 : UInt8), (48 : UInt8), (57 : UInt8), (49 : UInt8), (48 : UInt8), (49 : UInt8), (49 : UInt8), (49 : UInt8), (50 : UInt8), (49 : UInt8), (51 : UInt8), (49 : UInt8), (52 : UInt8), (49 : UInt8), (53 : UInt8), (49 : UInt8), (54 : UInt8), (49 : UInt8), (55 : UInt8), (49 : UInt8), (56 : UInt8), (49 : UInt8), (57 : UInt8), (50 : UInt8), (48 : UInt8), (50 : UInt8), (49 : UInt8), (50 : UInt8), (50 : UInt8), (50 : UInt8), (51 : UInt8), (50 : UInt8), (52 : UInt8), (50 : UInt8), (53 : UInt8), (50 : UInt8), (54 : UInt8), (50 : UInt8), (55 : UInt8), (50 : UInt8), (56 : UInt8), (50 : UInt8), (57 : UInt8), (51 : UInt8), (48 : UInt8), (51 : UInt8), (49 : UInt8), (51 : UInt8), (50 : UInt8), (51 : UInt8), (51 : UInt8), (51 : UInt8), (52 : UInt8), (51 : UInt8), (53 : UInt8), (51 : UInt8), (54 : UInt8), (51 : UInt8), (55 : UInt8), (51 : UInt8), (56 : UInt8), (51 : UInt8), (57 : UInt8), (52 : UInt8), (48 : UInt8), (52 : UInt8), (49 : UInt8), (52 : UInt8), (50 : UInt8), (52 : UInt8), (51 : UInt8), (52 : UInt8), (52 : UInt8), (52 : UInt8), (53 : UInt8), (52 : UInt8), (54 : UInt8), (52 : UInt8), (55 : UInt8), (52 : UInt8), (56 : UInt8), (52 : UInt8), (57 : UInt8), (53 : UInt8), (48 : UInt8), (53 : UInt8), (49 : UInt8), (53 : UInt8), (50 : UInt8), (53 : UInt8), (51 : UInt8), (53 : UInt8), (52 : UInt8), (53 : UInt8), (53 : UInt8), (53 : UInt8), (54 : UInt8), (53 : UInt8), (55 : UInt8), (53 : UInt8), (56 : UInt8), (53 : UInt8), (57 : UInt8), (54 : UInt8), (48 : UInt8), (54 : UInt8), (49 : UInt8), (54 : UInt8), (50 : UInt8), (54 : UInt8), (51 : UInt8), (54 : UInt8), (52 : UInt8), (54 : UInt8), (53 : UInt8), (54 : UInt8), (54 : UInt8), (54 : UInt8), (55 : UInt8), (54 : UInt8), (56 : UInt8), (54 : UInt8), (57 : UInt8), (55 : UInt8), (48 : UInt8), (55 : UInt8), (49 : UInt8), (55 : UInt8), (50 : UInt8), (55 : UInt8), (51 : UInt8), (55 : UInt8), (52 : UInt8), (55 : UInt8), (53 : UInt8), (55 : UInt8), (54 : UInt8), (55 : UInt8), (55 : UInt8), (55 : UInt8), (56 : UInt8), (55 : UInt8), (57 : UInt8), (56 : UInt8), (48 : UInt8), (56 : UInt8), (49 : UInt8), (56 : UInt8), (50 : UInt8), (56 : UInt8), (51 : UInt8), (56 : UInt8), (52 : UInt8), (56 : UInt8), (53 : UInt8), (56 : UInt8), (54 : UInt8), (56 : UInt8), (55 : UInt8), (56 : UInt8), (56 : UInt8), (56 : UInt8), (57 : UInt8), (57 : UInt8), (48 : UInt8), (57 : UInt8), (49 : UInt8), (57 : UInt8), (50 : UInt8), (57 : UInt8), (51 : UInt8), (57 : UInt8), (52 : UInt8), (57 : UInt8), (53 : UInt8), (57 : UInt8), (54 : UInt8), (57 : UInt8), (55 : UInt8), (57 : UInt8), (56 : UInt8), (57 : UInt8), (57 : UInt8)])) (.t 130)), none, none, []⟩, ⟨(some 132), (.mov (.t 14)), none, none, []⟩, ⟨(some 133), (.idxS (.c (.str [(48 : UInt8), (48 : UInt8), (48 : UInt8), (49 : UInt8), (48 : UInt8), (50 : UInt8), (48 : UInt8), (51 : UInt8), (48 : UInt8), (52 : UInt8), (48 : UInt8), (53 : UInt8), (48 : UInt8), (54 : UInt8), (48 : UInt8), (55 : UInt8), (48 : UInt8), (56 : UInt8), (48 : UInt8), (57 : UInt8), (49 : UInt8), (48 : UInt8), (49 : UInt8), (49 : UInt8), (49 : UInt8), (50 : UInt8), (49 : UInt8), (51 : UInt8), (49 : UInt8), (52 : UInt8), (49 : UInt8), (53 : UInt8), (49 : UInt8), (54 : UInt8), (49 : UInt8), (55 : UInt8), (49 : UInt8), (56 : UInt8), (49 : UInt8), (57 : UInt8), (50 : UInt8), (48 : UInt8), (50 : UInt8), (49 : UInt8), (50 : UInt8), (50 : UInt8), (50 : UInt8), (51 : UInt8), (50 : UInt8), (52 : UInt8), (50 : UInt8), (53 : UInt8), (50 : UInt8), (54 : UInt8), (50 : UInt8), (55 : UInt8), (50 : UInt8), (56 : UInt8), (50 : UInt8), (57 : UInt8), (51 : UInt8), (48 : UInt8), (51 : UInt8), (49 : UInt8), (51 : UInt8), (50 : UInt8), (51 : UInt8), (51 : UInt8), (51 : UInt8), (52 : UInt8), (51 : UInt8), (53 : UInt8), (51 : UInt8), (54 : UInt8), (51 : UInt8), (55 : UInt8), (51 : UInt8), (56 : UInt8), (51 : UInt8), (57 : UInt8), (52 : UInt8), (48 : UInt8), (52 : UInt8), (49 : UInt8), (52 : UInt8), (50 : UInt8), (52 : UInt8), (51 : UInt8), (52 : UInt8), (52 : UInt8), (52 : UInt8), (53 : UInt8), (52 : UInt8), (54 : UInt8), (52 : UInt8), (55 : UInt8), (52 : UInt8), (56 : UInt8), (52 : UInt8), (57 : UInt8), (53 : UInt8), (48 : UInt8), (53 : UInt8), (49 : UInt8), (53 : UInt8), (50 : UInt8), (53 : UInt8), (51 : UInt8), (53 : UInt8), (52 : UInt8), (53 : UInt8), (53 : UInt8), (53 : UInt8), (54 : UInt8), (53 : UInt8), (55 : UInt8), (53 : UInt8), (56 : UInt8), (53 : UInt8), (57 : UInt8), (54 : UInt8), (48 : UInt8), (54 : UInt8), (49 : UInt8), (54 : UInt8), (50 : UInt8), (54 : UInt8), (51 : UInt8), (54 : UInt8), (52 : UInt8), (54 : UInt8), (53 : UInt8), (54 : UInt8), (54 : UInt8), (54 : UInt8), (55 : UInt8), (54 : UInt8), (56 : UInt8), (54 : UInt8), (57 : UInt8), (55 : UInt8), (48 : UInt8), (55 : UInt8), (49 : UInt8), (55 : UInt8), (50 : UInt8), (55 : UInt8), (51 : UInt8), (55 : UInt8), (52 : UInt8), (55 : UInt8), (53 : UInt8), (55 : UInt8), (54 : UInt8), (55 : UInt8), (55 : UInt8), (55 : UInt8), (56 : UInt8), (55 : UInt8), (57 : UInt8), (56 : UInt8), (48 : UInt8), (56 : UInt8), (49 : UInt8), (56 : UInt8), (50 : UInt8), (56 : UInt8), (51 : UInt8), (56 : UInt8), (52 : UInt8), (56 : UInt8), (53 : UInt8), (56 : UInt8), (54 : UInt8), (56 : UInt8), (55 : UInt8), (56 : UInt8), (56 : UInt8), (56 : UInt8), (57 : UInt8), (57 : UInt8), (48 : UInt8), (57 : UInt8), (49 : UInt8), (57 : UInt8), (50 : UInt8), (57 : UInt8), (51 : UInt8), (57 : UInt8), (52 : UInt8), (57 : UInt8), (53 : UInt8), (57 : UInt8), (54 : UInt8), (57 : UInt8), (55 : UInt8), (57 : UInt8), (56 : UInt8), (57 : UInt8), (57 : UInt8)])) (.t 132)), none, none, []⟩, ⟨(some 134), (.iadr 1 (.t 123) (.t 125)), none, none, []⟩, ⟨none, (.store 1 (.t 134) (.t 131)), none, none, []⟩, ⟨(some 135), (.iadr 1 (.t 126) (.t 128)), none, none, []⟩, ⟨none, (.store 1 (.t 135) (.t 133)), none, none, []⟩]) (.reg [⟨(some 136), (.mov (.t 4)), none, none, []⟩, ⟨(some 137), (.bin .sub .no (.t 136) (.c (.int .i64 (4 : Int)))), none, none, []⟩, ⟨(some 4), (.mov (.t 137)), none, none, []⟩]))))))

set_option maxRecDepth 8000 in
theorem fmt4 {h h1 : AH} {ts : Tm} {m u s cap i : Nat} {A R : List AV} {c0 : AV} (hA : A.length = m) (hm : m ≤ 20) (h32 : u / 10 ^ (m - i) < 2 ^ 32) (hi : i ≤ m) (h8 : 4 ≤ i) (hl : Lay h h1 s m u c0 A R i)
    (e0 : tget ts 0 = .sl s 1 m cap) (e12 : tget ts 12 = .int .u32 ((u / 10 ^ (m - i) : Nat) : Int)) (e4 : tget ts 4 = .int .i64 (i : Nat)) {Kn Kr : Tm → AH → Prop} {Kx : Nat → Tm → AH → Prop}
    (hk : ∀ ts h2, Lay h h2 s m u c0 A R (i - 4) → tget ts 0 = .sl s 1 m cap → tget ts 12 = .int .u32 ((u / 10 ^ (m - (i - 4)) : Nat) : Int) → tget ts 4 = .int .i64 ((i - 4 : Nat) : Int) → Kn ts h2) :
    W prg body4 ts h1 Kn Kr Kx := by
  obtain ⟨l, l8, hlD⟩ := grp (A := A) (c0 := c0) (k := 4) h8 (by omega)
  have hg1 := Upd.get hl
  rw [hlD] at hg1
  obtain ⟨z0, z1, z2, z3, rfl⟩ := four l8
  have hpl : (c0 :: A.take (i - 4)).length = 1 + (i - 4) := by simp; omega
  have hnx := u_next (u := u) h8 hi
  have hfin := fun h2 => Lay.next (h2 := h2) h8 hi hl
  rw [hnx] at hk
  generalize u / 10 ^ (m - i) = U at *
  generalize (dv (m - i) u ++ R) = D at *
  rw [dv4] at hfin
  obtain ⟨v, hv⟩ : ∃ v, v = U % 10000 := ⟨_, rfl⟩
  obtain ⟨q1, hq1⟩ : ∃ q, q = v / 100 := ⟨_, rfl⟩
  obtain ⟨q0, hq0⟩ : ∃ q, q = v % 100 := ⟨_, rfl⟩
  have g0 : q0 < 100 := by omega
  have g1 : q1 < 100 := by omega
  rw [← hv, ← hq1, ← hq0] at hfin
  obtain ⟨b1, x1, u1⟩ := wr_step (o := 1 + (i - 1)) (j := 3) (v := .int .u8 ((48 + q0 % 10 : Nat) : Int)) hg1 (by simp) (by rw [hpl]; omega)
  obtain ⟨b2, x2, u2⟩ := wr_step (o := 1 + (i - 2)) (j := 2) (v := .int .u8 ((48 + q0 / 10 : Nat) : Int)) u1.get (by simp) (by rw [hpl]; omega)
  obtain ⟨b3, x3, u3⟩ := wr_step (o := 1 + (i - 3)) (j := 1) (v := .int .u8 ((48 + q1 % 10 : Nat) : Int)) u2.get (by simp) (by rw [hpl]; omega)
  obtain ⟨b4, x4, u4⟩ := wr_step (o := 1 + (i - 4)) (j := 0) (v := .int .u8 ((48 + q1 / 10 : Nat) : Int)) u3.get (by simp) (by rw [hpl]; omega)
  simp only [List.set_cons_succ, List.set_cons_zero] at u1 u2 u3 u4
  have uu := (((u1.trans u2).trans u3).trans u4)
  have i1 := iadr_at (s := s) (m := m) (cap := cap) (x := i - 1) (by omega)
  have w1 : IntKind.i64.wrap (((i : Nat) : Int) - 1) = ((i - 1 : Nat) : Int) := by rw [IntWalk.i64_in _ (by omega)]; omega
  have i2 := iadr_at (s := s) (m := m) (cap := cap) (x := i - 2) (by omega)
  have w2 : IntKind.i64.wrap (((i : Nat) : Int) - 2) = ((i - 2 : Nat) : Int) := by rw [IntWalk.i64_in _ (by omega)]; omega
  have i3 := iadr_at (s := s) (m := m) (cap := cap) (x := i - 3) (by omega)
  have w3 : IntKind.i64.wrap (((i : Nat) : Int) - 3) = ((i - 3 : Nat) : Int) := by rw [IntWalk.i64_in _ (by omega)]; omega
  have i4 := iadr_at (s := s) (m := m) (cap := cap) (x := i - 4) (by omega)
  have w4 : IntKind.i64.wrap (((i : Nat) : Int) - 4) = ((i - 4 : Nat) : Int) := by rw [IntWalk.i64_in _ (by omega)]; omega
  obtain ⟨sa0, sb0⟩ := idx_sm g0 (k1 := ((2 * q0 + 1 : Nat) : Int)) (k2 := ((2 * q0 : Nat) : Int)) rfl rfl
  have p0 : IntKind.u32.wrap (((2 * q0 : Nat) : Int) + 1) = ((2 * q0 + 1 : Nat) : Int) := IntWalk.u32_in _ (by omega)
  have d0 : IntKind.u32.wrap (((q0 : Nat) : Int) * 2) = ((2 * q0 : Nat) : Int) := by rw [IntWalk.u32_in _ (by omega)]; omega
  obtain ⟨sa1, sb1⟩ := idx_sm g1 (k1 := ((2 * q1 + 1 : Nat) : Int)) (k2 := ((2 * q1 : Nat) : Int)) rfl rfl
  have p1 : IntKind.u32.wrap (((2 * q1 : Nat) : Int) + 1) = ((2 * q1 + 1 : Nat) : Int) := IntWalk.u32_in _ (by omega)
  have d1 : IntKind.u32.wrap (((q1 : Nat) : Int) * 2) = ((2 * q1 : Nat) : Int) := by rw [IntWalk.u32_in _ (by omega)]; omega
  have t1 : ((U : Nat) : Int).tmod 10000 = (v : Nat) := by rw [hv]; rfl
  have t3 : IntKind.u32.wrap (((U : Nat) : Int).tdiv 10000) = ((U / 10000 : Nat) : Int) := by
    have : ((U : Nat) : Int).tdiv 10000 = ((U / 10000 : Nat) : Int) := rfl
    rw [this, IntWalk.u32_in _ (by omega)]
  have t6 : IntKind.u32.wrap (((v : Nat) : Int).tdiv 100) = (q1 : Nat) := by
    have : ((v : Nat) : Int).tdiv 100 = ((v / 100 : Nat) : Int) := rfl
    rw [this, ← hq1, IntWalk.u32_in _ (by omega)]
  have t7 : ((v : Nat) : Int).tmod 100 = (q0 : Nat) := by rw [hq0]; rfl
  have hk2 : ∀ ts, tget ts 0 = .sl s 1 m cap → tget ts 12 = .int .u32 ((U / 10000 : Nat) : Int) → tget ts 4 = .int .i64 ((i - 4 : Nat) : Int) → Kn ts b4 := fun ts a b c => hk ts b4 (hfin b4 uu) a b c
  clear hv hq1 hq0 hfin uu u1 u2 u3 u4 hg1 hlD hk hnx hl
  unfold body4
  refine W.seq (W.runs (fun ts h2 => h2 = h1 ∧ tget ts 0 = .sl s 1 m cap ∧ tget ts 12 = .int .u32 (U : Nat) ∧ tget ts 4 = .int .i64 (i : Nat) ∧ tget ts 13 = .int .u32 (v : Nat)) ?_ fun ts h2 ⟨eh, e0, e12, e4, e13⟩ => ?_)
  · simp only [ckR_nil, evN_none, stps_nil, stps_cons, stp_some, putR_some, gd_true, wanted_none, dput_some, ev_t, ev_c, okR_some, evOp, tget_tput, bin_rem, ↓reduceIte, Nat.reduceEqDiff, Int.reduceEq, Option.map_some, reduceCtorEq, and_self, e0, e12, e4, t1]
  subst eh
  generalize hU8 : ((U / 10000 : Nat) : Int) = U8 at t3 hk2
  refine W.seq (W.runs (fun ts h3 => h3 = h2 ∧ tget ts 0 = .sl s 1 m cap ∧ tget ts 4 = .int .i64 (i : Nat) ∧ tget ts 12 = .int .u32 U8 ∧ tget ts 13 = .int .u32 (v : Nat)) ?_ fun ts h3 ⟨eh, e0, e4, e12, e13⟩ => ?_)
  · simp only [ckR_nil, evN_none, stps_nil, stps_cons, stp_some, putR_some, gd_true, wanted_none, dput_some, ev_t, ev_c, okR_some, evOp, tget_tput, bin_quo, ↓reduceIte, Nat.reduceEqDiff, Int.reduceEq, Option.map_some, reduceCtorEq, and_self, e0, e12, e4, e13, t3]
  subst eh
  generalize ((2 * q0 : Nat) : Int) = r0 at d0 p0 sb0
  generalize ((2 * q1 : Nat) : Int) = r1 at d1 p1 sb1
  generalize ((2 * q0 + 1 : Nat) : Int) = s0 at p0 sa0
  generalize ((2 * q1 + 1 : Nat) : Int) = s1 at p1 sa1
  generalize ((48 + q0 % 10 : Nat) : Int) = y1 at x1 sa0
  generalize ((48 + q0 / 10 : Nat) : Int) = y2 at x2 sb0
  generalize ((48 + q1 % 10 : Nat) : Int) = y3 at x3 sa1
  generalize ((48 + q1 / 10 : Nat) : Int) = y4 at x4 sb1
  generalize ((i - 1 : Nat) : Int) = j1 at w1 i1
  generalize ((i - 2 : Nat) : Int) = j2 at w2 i2
  generalize ((i - 3 : Nat) : Int) = j3 at w3 i3
  generalize ((i - 4 : Nat) : Int) = j4 at w4 i4 hk2
  refine W.seq (W.runs (fun ts h5 => h5 = h3 ∧ tget ts 0 = .sl s 1 m cap ∧ tget ts 4 = .int .i64 (i : Nat) ∧ tget ts 12 = .int .u32 U8 ∧ tget ts 14 = .int .u32 r1 ∧ tget ts 15 = .int .u32 r0) ?_ fun ts h5 ⟨eh, e0, e4, e12, e14, e15⟩ => ?_)
  · simp only [ckR_nil, evN_none, stps_nil, stps_cons, stp_some, putR_some, gd_true, wanted_none, dput_some, ev_t, ev_c, okR_some, evOp, tget_tput, bin_mul, bin_quo, bin_rem, ↓reduceIte, Nat.reduceEqDiff, Int.reduceEq, Option.map_some, reduceCtorEq, and_self, e0, e12, e4, e13, t6, t7, d0, d1]
  subst eh
  refine W.seq (W.runs (fun ts h7 => h7 = b2 ∧ tget ts 0 = .sl s 1 m cap ∧ tget ts 4 = .int .i64 (i : Nat) ∧ tget ts 12 = .int .u32 U8 ∧ tget ts 14 = .int .u32 r1) ?_ fun ts h7 ⟨eh, e0, e4, e12, e14⟩ => ?_)
  · simp only [ckR_nil, evN_none, stps_nil, stps_cons, stp_some, putR_some, gd_true, wanted_none, dput_some, dput_none, ev_t, ev_c, okR_some, evOp, tget_tput, bin_add, bin_sub, storeA_ptr, ↓reduceIte, Nat.reduceEqDiff, Option.map_some, Nat.zero_add, reduceCtorEq, cells_int, one_int, List.length_cons, List.length_nil, List.all_cons, List.all_nil, Bool.and_true, and_self, AV.un, e0, e12, e4, e14, e15, w1, w2, p0, sa0, sb0, i1, i2, x1, x2]
  subst eh
  refine W.seq (W.runs (fun ts h8 => h8 = b4 ∧ tget ts 0 = .sl s 1 m cap ∧ tget ts 4 = .int .i64 (i : Nat) ∧ tget ts 12 = .int .u32 U8) ?_ fun ts h8 ⟨eh, e0, e4, e12⟩ => ?_)
  · simp only [ckR_nil, evN_none, stps_nil, stps_cons, stp_some, putR_some, gd_true, wanted_none, dput_some, dput_none, ev_t, ev_c, okR_some, evOp, tget_tput, bin_add, bin_sub, storeA_ptr, ↓reduceIte, Nat.reduceEqDiff, Option.map_some, Nat.zero_add, reduceCtorEq, cells_int, one_int, List.length_cons, List.length_nil, List.all_cons, List.all_nil, Bool.and_true, and_self, AV.un, e0, e12, e4, e14, w3, w4, p1, sa1, sb1, i3, i4, x3, x4]
  subst eh
  refine W.runs (fun ts h11 => h11 = h8 ∧ tget ts 0 = .sl s 1 m cap ∧ tget ts 12 = .int .u32 U8 ∧ tget ts 4 = .int .i64 j4) ?_ fun ts h11 ⟨eh, e0, e12, e4⟩ => by subst eh; exact hk2 ts e0 e12 e4
  simp only [ckR_nil, evN_none, stps_nil, stps_cons, stp_some, putR_some, gd_true, wanted_none, dput_some, ev_t, ev_c, okR_some, evOp, tget_tput, bin_sub, ↓reduceIte, Nat.reduceEqDiff, Option.map_some, reduceCtorEq, and_self, e0, e12, e4, w4]

def body2 : RC := (.seq (.reg [⟨(some 140), (.mov (.t 12)), none, none, []⟩, ⟨(some 141), (.bin .rem .no (.t 140) (.c (.int .u32 (100 : Int)))), none, none, []⟩, ⟨(some 142), (.bin .mul .no (.t 141) (.c (.int .u32 (2 : Int)))), none, none, []⟩, ⟨(some 16), (.mov (.t 142)), none, none, []⟩]) (.seq (.reg [⟨(some 143), (.mov (.t 12)), none, none, []⟩, ⟨(some 144), (.bin .quo .no (.t 143) (.c (.int .u32 (100 : Int)))), none, none, []⟩, ⟨(some 12), (.mov (.t 144)), none, none, []⟩]) (.seq (.reg [⟨(some 145), (.mov (.t 0)), none, none, []⟩, ⟨(some 146), (.mov (.t 4)), none, none, []⟩, ⟨(some 147), (.bin .sub .no (.t 146) (.c (.int .i64 (1 : Int)))), none, none, []⟩, ⟨(some 148), (.mov (.t 0)), none, none, []⟩, ⟨(some 149), (.mov (.t 4)), none, none, []⟩, ⟨(some 150), (.bin .sub .no (.t 149) (.c (.int .i64 (2 : Int)))), none, none, []⟩, ⟨(some 151), (.mov (.t 16)), none, none, []⟩, ⟨(some 152), (.bin .add .no (.t 151) (.c (.int .u32 (1 : Int)))), none, none, []⟩, ⟨(some 153), (.idxS (.c (.str [(48 : UInt8), (48 : UInt8), (48 : UInt8), (49 : UInt8), (48 : UInt8), (50 : UInt8), (48 : UInt8), (51 : UInt8), (48 : UInt8), (52 : UInt8), (48 : UInt8), (53 : UInt8), (48 : UInt8), (54 : UInt8), (48 : UInt8), (55 : UInt8), (48 : UInt8), (56 : UInt8), (48 : UInt8), (57 : UInt8), (49 : UInt8), (48 : UInt8), (49 : UInt8), (49 : UInt8), (49 : UInt8), (50 : UInt8), (49 : UInt8), (51 : UInt8), (49 : UInt8), (52 : UInt8), (49 : UInt8), (53 : UInt8), (49 : UInt8), (54 : UInt8), (49 : UInt8), (55 : UInt8), (49 : UInt8), (56 : UInt8), (49 : UInt8), (57 : UInt8), (50 : UInt8), (48 : UInt8), (50 : UInt8), (49 : UInt8), (50 : UInt8), (50 : UInt8), (50 : UInt8), (51 : UInt8), (50 : UInt8), (52 : UInt8), (50 : UInt8), (53 : UInt8), (50 : UInt8), (54 : UInt8), (50 : UInt8), (55 : UInt8), (50 : UInt8), (56 : UInt8), (50 : UInt8), (57 : UInt8), (51 : UInt8), (48 : UInt8), (51 : UInt8), (49 : UInt8), (51 : UInt8), (50 : UInt8), (51 : UInt8), (51 : UInt8), (51 : UInt8), (52 : UInt8), (51 : UInt8), (53 : UInt8), (51 : UInt8), (54 : UInt8), (51 : UInt8), (55 : UInt8), (51 : UInt8), (56 : UInt8), (51 : UInt8), (57 : UInt8), (52 : UInt8), (48 : UInt8), (52 : UInt8), (49 : UInt8), (52 : UInt8), (50 : UInt8), (52 : UInt8), (51 : UInt8), (52 : UInt8), (52 : UInt8), (52 : UInt8), (53 : UInt8), (52 : UInt8), (54 : UInt8), (52 : UInt8), (55 : UInt8), (52 : UInt8), (56 : UInt8), (52 : UInt8), (57 : UInt8), (53 : UInt8), (48 : UInt8), (53 : UInt8), (49 : UInt8), (53 : UInt8), (50 : UInt8), (53 : UInt8), (51 : UInt8), (53 : UInt8), (52 : UInt8), (53 : UInt8), (53 : UInt8), (53 : UInt8), (54 : UInt8), (53 : UInt8), (55 : UInt8), (53 : UInt8), (56 : UInt8), (53 : UInt8), (57 : UInt8), (54 : UInt8), (48 : UInt8), (54 : UInt8), (49 : UInt8), (54 : UInt8), (50 : UInt8), (54 : UInt8), (51 : UInt8), (54 : UInt8), (52 : UInt8), (54 : UInt8), (53 : UInt8), (54 : UInt8), (54 : UInt8), (54 : UInt8), (55 : UInt8), (54 : UInt8), (56 : UInt8), (54 : UInt8), (57 : UInt8), (55 : UInt8), (48 : UInt8), (55 : UInt8), (49 : UInt8), (55 : UInt8), (50 : UInt8), (55 : UInt8), (51 : UInt8), (55 : UInt8), (52 : UInt8), (55 : UInt8), (53 : UInt8), (55 : UInt8), (54 : UInt8), (55 : UInt8), (55 : UInt8), (55 : UInt8), (56 : UInt8), (55 : UInt8), (57 : UInt8), (56 : UInt8), (48 : UInt8), (56 : UInt8), (49 : UInt8), (56 : UInt8), (50 : UInt8), (56 : UInt8), (51 : UInt8), (56 : UInt8), (52 : UInt8), (56 : UInt8), (53 : UInt8), (56 : UInt8), (54 : UInt8), (56 : UInt8), (55 : UInt8), (56 : UInt8), (56 : UInt8), (56 : UInt8), (57 : UInt8), (57 : UInt8), (48 : UInt8), (57 : UInt8), (49 : UInt8), (57 : UInt8), (50 : UInt8), (57 : UInt8), (51 : UInt8), (57 : UInt8), (52 : UInt8), (57 : UInt8), (53 : UInt8), (57 : UInt8), (54 : UInt8), (57 : UInt8), (55 : UInt8), (57 : UInt8), (56 : UInt8), (57 : UInt8), (57 : UInt8)])) (.t 152)), none, none, []⟩, ⟨(some 154), (.mov (.t 16)), none, none, []⟩, ⟨(some 155), (.idxS (.c (.str [(48 : UInt8), (48 : UInt8), (48 : UInt8), (49 : UInt8), (48 : UInt8), (50 : UInt8), (48 : UInt8), (51 : UInt8), (48 : UInt8), (52 : UInt8), (48 : UInt8), (53 : UInt8), (48 : UInt8), (54 : UInt8), (48 : UInt8), (55 : UInt8), (48 : UInt8), (56 : UInt8), (48 : UInt8), (57 : UInt8), (49 : UInt8), (48 : UInt8), (49 : UInt8), (49 : UInt8), (49 : UInt8), (50 : UInt8), (49 : UInt8), (51 : UInt8), (49 : UInt8), (52 : UInt8), (49 : UInt8), (53 : UInt8), (49 : UInt8), (54 : UInt8), (49 : UInt8), (55 : UInt8), (49 : UInt8), (56 : UInt8), (49 : UInt8), (57 : UInt8), (50 : UInt8), (48 : UInt8), (50 : UInt8), (49 : UInt8), (50 : UInt8), (50 : UInt8), (50 : UInt8), (51 : UInt8), (50 : UInt8), (52 : UInt8), (50 : UInt8), (53 : UInt8), (50 : UInt8), (54 : UInt8), (50 : UInt8), (55 : UInt8), (50 : UInt8), (56 : UInt8), (50 : UInt8), (57 : UInt8), (51 : UInt8), (48 : UInt8), (51 : UInt8), (49 : UInt8), (51 : UInt8), (50 : UInt8), (51 : UInt8), (51 : UInt8), (51 : UInt8), (52 : UInt8), (51 : UInt8), (53 : UInt8), (51 : UInt8), (54 : UInt8), (51 : UInt8), (55 : UInt8), (51 : UInt8), (56 : UInt8), (51 : UInt8), (57 : UInt8), (52 : UInt8), (48 : UInt8), (52 : UInt8), (49 : UInt8), (52 : UInt8), (50 : UInt8), (52 : UInt8), (51 : UInt8), (52 : UInt8), (52 : UInt8), (52 : UInt8), (53 : UInt8), (52 : UInt8), (54 : UInt8), (52 : UInt8), (55 : UInt8), (52 : UInt8), (56 : UInt8), (52 : UInt8), (57 : UInt8), (53 : UInt8), (48 : UInt8), (53 : UInt8), (49 : UInt8), (53 : UInt8), (50 : UInt8), (53 : UInt8), (51 : UInt8), (53 : UInt8), (52 : UInt8), (53 : UInt8), (53 : UInt8), (53 : UInt8), (54 : UInt8), (53 : UInt8), (55 : UInt8), (53 : UInt8), (56 : UInt8), (53 : UInt8), (57 : UInt8), (54 : UInt8), (48 : UInt8), (54 : UInt8), (49 : UInt8), (54 : UInt8), (50 : UInt8), (54 : UInt8), (51 : UInt8), (54 : UInt8), (52 : UInt8), (54 : UInt8), (53 : UInt8), (54 : UInt8), (54 : UInt8), (54 : UInt8), (55 : UInt8), (54 : UInt8), (56 : UInt8), (54 : UInt8), (57 : UInt8), (55 : UInt8), (48 : UInt8), (55 : UInt8), (49 : UInt8), (55 : UInt8), (50 : UInt8), (55 : UInt8), (51 : UInt8), (55 : UInt8), (52 : UInt8), (55 : UInt8), (53 : UInt8), (55 : UInt8), (54 : UInt8), (55 : UInt8), (55 : UInt8), (55 : UInt8), (56 : UInt8), (55 : UInt8), (57 : UInt8), (56 : UInt8), (48 : UInt8), (56 : UInt8), (49 : UInt8), (56 : UInt8), (50 : UInt8), (56 : UInt8), (51 : UInt8), (56 : UInt8), (52 : UInt8), (56 : UInt8), (53 : UInt8), (56 : UInt8), (54 : UInt8), (56 : UInt8), (55 : UInt8), (56 : UInt8), (56 : UInt8), (56 : UInt8), (57 : UInt8), (57 : UInt8), (48 : UInt8), (57 : UInt8), (49 : UInt8), (57 : UInt8), (50 : UInt8), (57 : UInt8), (51 : UInt8), (57 : UInt8), (52 : UInt8), (57 : UInt8), (53 : UInt8), (57 : UInt8), (54 : UInt8), (57 : UInt8), (55 : UInt8), (57 : UInt8), (56 : UInt8), (57 : UInt8), (57 : UInt8)])) (.t 154)), none, none, []⟩, ⟨(some 156), (.iadr 1 (.t 145) (.t 147)), none, none, []⟩, ⟨none, (.store 1 (.t 156) (.t 153)), none, none, []⟩, ⟨(some 157), (.iadr 1 (.t 148) (.t 150)), none, none, []⟩, ⟨none, (.store 1 (.t 157) (.t 155)), none, none, []⟩]) (.reg [⟨(some 158), (.mov (.t 4)), none, none, []⟩, ⟨(some 159), (.bin .sub .no (.t 158) (.c (.int .i64 (2 : Int)))), none, none, []⟩, ⟨(some 4), (.mov (.t 159)), none, none, []⟩]))))

set_option maxRecDepth 8000 in
theorem fmt2 {h h1 : AH} {ts : Tm} {m u s cap i : Nat} {A R : List AV} {c0 : AV} (hA : A.length = m) (hm : m ≤ 20) (h32 : u / 10 ^ (m - i) < 2 ^ 32) (hi : i ≤ m) (h8 : 2 ≤ i) (hl : Lay h h1 s m u c0 A R i)
    (e0 : tget ts 0 = .sl s 1 m cap) (e12 : tget ts 12 = .int .u32 ((u / 10 ^ (m - i) : Nat) : Int)) (e4 : tget ts 4 = .int .i64 (i : Nat)) {Kn Kr : Tm → AH → Prop} {Kx : Nat → Tm → AH → Prop}
    (hk : ∀ ts h2, Lay h h2 s m u c0 A R (i - 2) → tget ts 0 = .sl s 1 m cap → tget ts 12 = .int .u32 ((u / 10 ^ (m - (i - 2)) : Nat) : Int) → tget ts 4 = .int .i64 ((i - 2 : Nat) : Int) → Kn ts h2) :
    W prg body2 ts h1 Kn Kr Kx := by
  obtain ⟨l, l8, hlD⟩ := grp (A := A) (c0 := c0) (k := 2) h8 (by omega)
  have hg1 := Upd.get hl
  rw [hlD] at hg1
  obtain ⟨z0, z1, rfl⟩ := two l8
  have hpl : (c0 :: A.take (i - 2)).length = 1 + (i - 2) := by simp; omega
  have hnx := u_next (u := u) h8 hi
  have hfin := fun h2 => Lay.next (h2 := h2) h8 hi hl
  rw [hnx] at hk
  generalize u / 10 ^ (m - i) = U at *
  generalize (dv (m - i) u ++ R) = D at *
  rw [dv2] at hfin
  obtain ⟨q0, hq0⟩ : ∃ q, q = U % 100 := ⟨_, rfl⟩
  have g0 : q0 < 100 := by omega
  rw [← hq0] at hfin
  obtain ⟨b1, x1, u1⟩ := wr_step (o := 1 + (i - 1)) (j := 1) (v := .int .u8 ((48 + q0 % 10 : Nat) : Int)) hg1 (by simp) (by rw [hpl]; omega)
  obtain ⟨b2, x2, u2⟩ := wr_step (o := 1 + (i - 2)) (j := 0) (v := .int .u8 ((48 + q0 / 10 : Nat) : Int)) u1.get (by simp) (by rw [hpl]; omega)
  simp only [List.set_cons_succ, List.set_cons_zero] at u1 u2
  have uu := (u1.trans u2)
  have i1 := iadr_at (s := s) (m := m) (cap := cap) (x := i - 1) (by omega)
  have w1 : IntKind.i64.wrap (((i : Nat) : Int) - 1) = ((i - 1 : Nat) : Int) := by rw [IntWalk.i64_in _ (by omega)]; omega
  have i2 := iadr_at (s := s) (m := m) (cap := cap) (x := i - 2) (by omega)
  have w2 : IntKind.i64.wrap (((i : Nat) : Int) - 2) = ((i - 2 : Nat) : Int) := by rw [IntWalk.i64_in _ (by omega)]; omega
  obtain ⟨sa0, sb0⟩ := idx_sm g0 (k1 := ((2 * q0 + 1 : Nat) : Int)) (k2 := ((2 * q0 : Nat) : Int)) rfl rfl
  have p0 : IntKind.u32.wrap (((2 * q0 : Nat) : Int) + 1) = ((2 * q0 + 1 : Nat) : Int) := IntWalk.u32_in _ (by omega)
  have d0 : IntKind.u32.wrap (((q0 : Nat) : Int) * 2) = ((2 * q0 : Nat) : Int) := by rw [IntWalk.u32_in _ (by omega)]; omega
  have t7 : ((U : Nat) : Int).tmod 100 = (q0 : Nat) := by rw [hq0]; rfl
  have t3 : IntKind.u32.wrap (((U : Nat) : Int).tdiv 100) = ((U / 100 : Nat) : Int) := by
    have : ((U : Nat) : Int).tdiv 100 = ((U / 100 : Nat) : Int) := rfl
    rw [this, IntWalk.u32_in _ (by omega)]
  have hk2 : ∀ ts, tget ts 0 = .sl s 1 m cap → tget ts 12 = .int .u32 ((U / 100 : Nat) : Int) → tget ts 4 = .int .i64 ((i - 2 : Nat) : Int) → Kn ts b2 := fun ts a b c => hk ts b2 (hfin b2 uu) a b c
  clear hq0 hfin uu u1 u2 hg1 hlD hk hnx hl
  unfold body2
  generalize ((2 * q0 : Nat) : Int) = r0 at d0 p0 sb0
  generalize ((2 * q0 + 1 : Nat) : Int) = s0 at p0 sa0
  generalize ((48 + q0 % 10 : Nat) : Int) = y1 at x1 sa0
  generalize ((48 + q0 / 10 : Nat) : Int) = y2 at x2 sb0
  generalize ((i - 1 : Nat) : Int) = j1 at w1 i1
  generalize ((i - 2 : Nat) : Int) = j2 at w2 i2 hk2
  refine W.seq (W.runs (fun ts h2 => h2 = h1 ∧ tget ts 0 = .sl s 1 m cap ∧ tget ts 12 = .int .u32 (U : Nat) ∧ tget ts 4 = .int .i64 (i : Nat) ∧ tget ts 16 = .int .u32 r0) ?_ fun ts h2 ⟨eh, e0, e12, e4, e16⟩ => ?_)
  · simp only [ckR_nil, evN_none, stps_nil, stps_cons, stp_some, putR_some, gd_true, wanted_none, dput_some, ev_t, ev_c, okR_some, evOp, tget_tput, bin_mul, bin_rem, ↓reduceIte, Nat.reduceEqDiff, Int.reduceEq, Option.map_some, reduceCtorEq, and_self, e0, e12, e4, t7, d0]
  subst eh
  generalize hU8 : ((U / 100 : Nat) : Int) = U8 at t3 hk2
  refine W.seq (W.runs (fun ts h3 => h3 = h2 ∧ tget ts 0 = .sl s 1 m cap ∧ tget ts 4 = .int .i64 (i : Nat) ∧ tget ts 12 = .int .u32 U8 ∧ tget ts 16 = .int .u32 r0) ?_ fun ts h3 ⟨eh, e0, e4, e12, e16⟩ => ?_)
  · simp only [ckR_nil, evN_none, stps_nil, stps_cons, stp_some, putR_some, gd_true, wanted_none, dput_some, ev_t, ev_c, okR_some, evOp, tget_tput, bin_quo, ↓reduceIte, Nat.reduceEqDiff, Int.reduceEq, Option.map_some, reduceCtorEq, and_self, e0, e12, e4, e16, t3]
  subst eh
  refine W.seq (W.runs (fun ts h7 => h7 = b2 ∧ tget ts 0 = .sl s 1 m cap ∧ tget ts 4 = .int .i64 (i : Nat) ∧ tget ts 12 = .int .u32 U8) ?_ fun ts h7 ⟨eh, e0, e4, e12⟩ => ?_)
  · simp only [ckR_nil, evN_none, stps_nil, stps_cons, stp_some, putR_some, gd_true, wanted_none, dput_some, dput_none, ev_t, ev_c, okR_some, evOp, tget_tput, bin_add, bin_sub, storeA_ptr, ↓reduceIte, Nat.reduceEqDiff, Option.map_some, Nat.zero_add, reduceCtorEq, cells_int, one_int, List.length_cons, List.length_nil, List.all_cons, List.all_nil, Bool.and_true, and_self, AV.un, e0, e12, e4, e16, w1, w2, p0, sa0, sb0, i1, i2, x1, x2]
  subst eh
  refine W.runs (fun ts h11 => h11 = h7 ∧ tget ts 0 = .sl s 1 m cap ∧ tget ts 12 = .int .u32 U8 ∧ tget ts 4 = .int .i64 j2) ?_ fun ts h11 ⟨eh, e0, e12, e4⟩ => by subst eh; exact hk2 ts e0 e12 e4
  simp only [ckR_nil, evN_none, stps_nil, stps_cons, stp_some, putR_some, gd_true, wanted_none, dput_some, ev_t, ev_c, okR_some, evOp, tget_tput, bin_sub, ↓reduceIte, Nat.reduceEqDiff, Option.map_some, reduceCtorEq, and_self, e0, e12, e4, w2]

theorem res67 : rf67.results = [] := rfl

set_option maxRecDepth 8000 in
theorem fmt_ok {h : AH} {m u s cap : Nat} {A R : List AV} {c0 : AV} (hA : A.length = m) (hm : m ≤ 20) (hu : u < 10 ^ m) (h64 : u < 2 ^ 64) (hg : h.get s = some (.cells (c0 :: (A ++ R)) 1 false)) :
    C prg 67 [.sl s 1 m cap, .int .u64 (u : Nat)] h fun v h' => v = .tup [] ∧ Upd h h' s (.cells (c0 :: (dv m u ++ R)) 1 false) := by
  have hl0 : Lay h h s m u c0 A R m := by
    unfold Lay
    rw [List.take_of_length_le (by omega), Nat.sub_self]
    exact Upd.refl hg
  have fin : ∀ h', Lay h h' s m u c0 A R 0 → Upd h h' s (.cells (c0 :: (dv m u ++ R)) 1 false) := fun h' hl => by
    simpa [Lay] using hl
  refine C.func pf67 ?_
  refine W.seq (W.runs (fun ts h1 => h1 = h ∧ tget ts 0 = .sl s 1 m cap ∧ tget ts 1 = .int .u64 (u : Nat) ∧ tget ts 4 = .int .i64 (m : Nat)) ?_ fun ts h1 ⟨eh, e0, e1, e4⟩ => ?_)
  · simp only [ckR_nil, evN_none, stps_nil, stps_cons, stp_some, putR_some, gd_true, wanted_none, dput_some, ev_t, okR_some, evOp, tget_tput, lenLA_sl, ↓reduceIte, Nat.reduceEqDiff, Option.map_some, Nat.zero_add, reduceCtorEq, and_self, initTm]
  subst eh
  refine W.seq (W.cut (fun ts h2 => ∃ i, i ≤ m ∧ i < 8 ∧ Lay h1 h2 s m u c0 A R i ∧ tget ts 0 = .sl s 1 m cap ∧ tget ts 1 = .int .u64 ((u / 10 ^ (m - i) : Nat) : Int) ∧ tget ts 4 = .int .i64 (i : Nat)) (W.block (W.loop (fun n ts h2 => n ≤ m ∧ Lay h1 h2 s m u c0 A R n ∧ tget ts 0 = .sl s 1 m cap ∧ tget ts 1 = .int .u64 ((u / 10 ^ (m - n) : Nat) : Int) ∧ tget ts 4 = .int .i64 (n : Nat)) ?_ (n := m) ⟨Nat.le_refl _, hl0, e0, by rw [Nat.sub_self]; simpa using e1, e4⟩)) fun ts h2 ⟨i, q1, q2, hl, e0, e1, e4⟩ => ?_)
  · clear e0 e1 e4
    rintro i ts h2 ⟨hi, hl, e0, e1, e4⟩
    have d : decide ((8 : Int) ≤ ((i : Nat) : Int)) = decide (8 ≤ i) := by simp only [decide_eq_decide]; omega
    refine W.seq (W.seq (W.runs (fun ts h3 => h3 = h2 ∧ tget ts 0 = .sl s 1 m cap ∧ tget ts 1 = .int .u64 ((u / 10 ^ (m - i) : Nat) : Int) ∧ tget ts 4 = .int .i64 (i : Nat) ∧ tget ts 20 = .bool (decide (8 ≤ i))) ?_ fun ts h3 ⟨eh, e0, e1, e4, e20⟩ => ?_))
    · generalize ((u / 10 ^ (m - i) : Nat) : Int) = U at *
      simp only [ckR_nil, evN_none, stps_nil, stps_cons, stp_some, putR_some, gd_true, wanted_none, dput_some, ev_t, ev_c, okR_some, evOp, tget_tput, bin_geq, ↓reduceIte, Nat.reduceEqDiff, Option.map_some, reduceCtorEq, and_self, e0, e1, e4, d]
    subst eh
    refine W.cond e20 (fun hc => W.skip ?_) fun hc => W.exit ⟨fun _ => ⟨i, hi, by simpa using hc, hl, e0, e1, e4⟩, fun e => absurd rfl e⟩
    simp only [decide_eq_true_eq] at hc
    exact W.block (fmt8 hA hm h64 hi hc hl e0 e1 e4 fun ts h4 k1 k2 k3 k4 => ⟨i - 8, by omega, by omega, k1, k2, k3, k4⟩)
  have hU := u_lt q1 hu
  have h10 : (10 : Nat) ^ i ≤ 10 ^ 7 := Nat.pow_le_pow_right (by decide) (by omega)
  have w1 : IntKind.u32.wrap ((u / 10 ^ (m - i) : Nat) : Int) = ((u / 10 ^ (m - i) : Nat) : Int) := by
    revert hU
    generalize u / 10 ^ (m - i) = U
    intro hU
    exact IntWalk.u32_in _ (by omega)
  refine W.seq (W.runs (fun ts h3 => h3 = h2 ∧ tget ts 0 = .sl s 1 m cap ∧ tget ts 12 = .int .u32 ((u / 10 ^ (m - i) : Nat) : Int) ∧ tget ts 4 = .int .i64 (i : Nat)) ?_ fun ts h3 ⟨eh, e0, e12, e4⟩ => ?_)
  · generalize ((u / 10 ^ (m - i) : Nat) : Int) = U at *
    simp only [ckR_nil, evN_none, stps_nil, stps_cons, stp_some, putR_some, gd_true, wanted_none, dput_some, ev_t, okR_some, evOp, tget_tput, cvIA_int, ↓reduceIte, Nat.reduceEqDiff, Option.map_some, reduceCtorEq, and_self, e0, e1, e4, w1]
  subst eh
  have d4 : decide ((4 : Int) ≤ ((i : Nat) : Int)) = decide (4 ≤ i) := by simp only [decide_eq_decide]; omega
  refine W.seq (W.cut (fun ts h4 => ∃ j, j ≤ m ∧ j < 4 ∧ Lay h1 h4 s m u c0 A R j ∧ tget ts 0 = .sl s 1 m cap ∧ tget ts 12 = .int .u32 ((u / 10 ^ (m - j) : Nat) : Int) ∧ tget ts 4 = .int .i64 (j : Nat)) (W.seq (W.runs (fun ts h4 => h4 = h3 ∧ tget ts 0 = .sl s 1 m cap ∧ tget ts 12 = .int .u32 ((u / 10 ^ (m - i) : Nat) : Int) ∧ tget ts 4 = .int .i64 (i : Nat) ∧ tget ts 99 = .bool (decide (4 ≤ i))) ?_ fun ts h4 ⟨eh, e0, e12, e4, e99⟩ => ?_)) fun ts h4 ⟨j, j1, j2, hl, e0, e12, e4⟩ => ?_)
  · generalize ((u / 10 ^ (m - i) : Nat) : Int) = U at *
    simp only [ckR_nil, evN_none, stps_nil, stps_cons, stp_some, putR_some, gd_true, wanted_none, dput_some, ev_t, ev_c, okR_some, evOp, tget_tput, bin_geq, ↓reduceIte, Nat.reduceEqDiff, Option.map_some, reduceCtorEq, and_self, e0, e12, e4, d4]
  · subst eh
    refine W.cond e99 (fun hc => ?_) fun hc => W.skip ⟨i, q1, by simpa using hc, hl, e0, e12, e4⟩
    simp only [decide_eq_true_eq] at hc
    exact fmt4 hA hm (by omega) q1 hc hl e0 e12 e4 fun ts h5 k1 k2 k3 k4 => ⟨i - 4, by omega, by omega, k1, k2, k3, k4⟩
  have hU2 := u_lt j1 hu
  have h102 : (10 : Nat) ^ j ≤ 10 ^ 3 := Nat.pow_le_pow_right (by decide) (by omega)
  have d2 : decide ((2 : Int) ≤ ((j : Nat) : Int)) = decide (2 ≤ j) := by simp only [decide_eq_decide]; omega
  refine W.seq (W.cut (fun ts h5 => ∃ j, j ≤ m ∧ j < 2 ∧ Lay h1 h5 s m u c0 A R j ∧ tget ts 0 = .sl s 1 m cap ∧ tget ts 12 = .int .u32 ((u / 10 ^ (m - j) : Nat) : Int) ∧ tget ts 4 = .int .i64 (j : Nat)) (W.seq (W.runs (fun ts h5 => h5 = h4 ∧ tget ts 0 = .sl s 1 m cap ∧ tget ts 12 = .int .u32 ((u / 10 ^ (m - j) : Nat) : Int) ∧ tget ts 4 = .int .i64 (j : Nat) ∧ tget ts 139 = .bool (decide (2 ≤ j))) ?_ fun ts h5 ⟨eh, e0, e12, e4, e139⟩ => ?_)) fun ts h5 ⟨k, k1, k2, hl, e0, e12, e4⟩ => ?_)
  · generalize ((u / 10 ^ (m - j) : Nat) : Int) = U at *
    simp only [ckR_nil, evN_none, stps_nil, stps_cons, stp_some, putR_some, gd_true, wanted_none, dput_some, ev_t, ev_c, okR_some, evOp, tget_tput, bin_geq, ↓reduceIte, Nat.reduceEqDiff, Option.map_some, reduceCtorEq, and_self, e0, e12, e4, d2]
  · subst eh
    refine W.cond e139 (fun hc => ?_) fun hc => W.skip ⟨j, j1, by simpa using hc, hl, e0, e12, e4⟩
    simp only [decide_eq_true_eq] at hc
    exact fmt2 hA hm (by omega) j1 hc hl e0 e12 e4 fun ts h6 k1 k2 k3 k4 => ⟨j - 2, by omega, by omega, k1, k2, k3, k4⟩
  have hU3 := u_lt k1 hu
  have d1 : decide ((0 : Int) < ((k : Nat) : Int)) = decide (0 < k) := by simp only [decide_eq_decide]; omega
  refine W.seq (W.runs (fun ts h6 => h6 = h5 ∧ tget ts 0 = .sl s 1 m cap ∧ tget ts 12 = .int .u32 ((u / 10 ^ (m - k) : Nat) : Int) ∧ tget ts 161 = .bool (decide (0 < k))) ?_ fun ts h6 ⟨eh, e0, e12, e161⟩ => ?_)
  · generalize ((u / 10 ^ (m - k) : Nat) : Int) = U at *
    simp only [ckR_nil, evN_none, stps_nil, stps_cons, stp_some, putR_some, gd_true, wanted_none, dput_some, ev_t, ev_c, okR_some, evOp, tget_tput, bin_gtr, ↓reduceIte, Nat.reduceEqDiff, Option.map_some, reduceCtorEq, and_self, e0, e12, e4, d1]
  subst eh
  refine W.cond e161 (fun hc => ?_) fun hc => W.skip ⟨_, by simp only [Am.results, rdAll, res67], rfl, ?_⟩
  · simp only [decide_eq_true_eq] at hc
    have hk1 : k = 1 := by omega
    subst hk1
    obtain ⟨l, l8, hlD⟩ := grp (A := A) (c0 := c0) (k := 1) (Nat.le_refl 1) (by omega)
    have hg1 := Upd.get hl
    rw [hlD] at hg1
    obtain ⟨z, rfl⟩ := one l8
    have hfin := fun h2 => Lay.next (h2 := h2) (Nat.le_refl 1) k1 hl
    simp only [Nat.pow_one] at hU3
    generalize u / 10 ^ (m - 1) = U at *
    generalize (dv (m - 1) u ++ R) = D at *
    obtain ⟨b1, x1, u1⟩ := wr_step (o := 1) (j := 0) (v := .int .u8 ((48 + U : Nat) : Int)) hg1 (by simp) (by simp)
    have w7 : IntKind.u32.wrap (48 + ((U : Nat) : Int)) = ((48 + U : Nat) : Int) := by rw [IntWalk.u32_in _ (by omega)]; omega
    have w8 : IntKind.u8.wrap ((48 + U : Nat) : Int) = ((48 + U : Nat) : Int) := IntWalk.u8_in _ (by omega)
    have i0 : iadrL 1 (.sl s 1 m cap) (.int .i64 0) = some (.ptr s 1) := iadr_at (x := 0) (by omega)
    have hd1 : dv 1 U = [.int .u8 ((48 + U : Nat) : Int)] := by
      simp only [dv, List.nil_append]
      rw [Nat.mod_eq_of_lt hU3]
    rw [hd1] at hfin
    have hend := fin _ (hfin b1 u1)
    clear fin hfin hlD hg1 u1 hl
    generalize ((48 + U : Nat) : Int) = y at *
    refine W.runs (fun ts h7 => h7 = b1) ?_ fun ts h7 eh => ⟨_, by simp only [Am.results, rdAll, res67], rfl, by rw [eh]; exact hend⟩
    simp only [ckR_nil, evN_none, stps_nil, stps_cons, stp_some, putR_some, gd_true, wanted_none, dput_some, dput_none, ev_t, ev_c, okR_some, evOp, tget_tput, bin_add, cvIA_int, storeA_ptr, ↓reduceIte, Nat.reduceEqDiff, Option.map_some, Nat.zero_add, cells_int, one_int, List.length_cons, List.length_nil, List.all_cons, List.all_nil, Bool.and_true, and_self, AV.un, e0, e12, w7, w8, i0, x1]
  · simp only [decide_eq_false_iff_not] at hc
    have hk0 : k = 0 := by omega
    subst hk0
    exact fin _ hl

end Go.Proofs.YtjcbcmonmmfllaaGreatDoor
