/- Texts of this claim joined by a program, part 7 of 15; the last is: A valid question is what its source says; printing is one to one. No program. -/
import Derived.Test.YtmapdjjigmkbfaaGreatDoorD5
import Derived.Test.YtmapdjjigmkbfaaGreatDoorD6
import Derived.Shelf.Strings.Builder1
import Derived.Shelf.Strconv.Itoa0
import Derived.Shelf.Strconv.Itoa1
import Derived.Shelf.LaysM
import Derived.Shelf.Strconv.Itoa2
import Derived.Shelf.Strconv.Itoa3
import Derived.Shelf.Strings.Search1
import Derived.Shelf.Strings.Search2
import Derived.Shelf.Strings.Search3
import Derived.Shelf.Strings.Shaped
import Derived.Shelf.Slices.Equal
import Derived.Shelf.Slices.Empties2
import Derived.Test.YtmapdjjigmkbfaaGreatDoorProg
set_option linter.unusedSimpArgs false
set_option linter.unusedVariables false
set_option linter.unusedSectionVars false
set_option linter.defProp false
/- The same statements with their regions folded into expressions, printed by the fold itself; that they are that is checked by the kernel. No condition. -/
namespace Go.Proofs.YtmapdjjigmkbfaaGreatDoor
open Go Go.Ab
set_option maxRecDepth 100000
def Xpn : S2 := .seq (.rg [.chk [] (.u (.ld 1 false (.t 0)) (.u (.fldA 0 0 (.t 0)) (.u (.nilc (.t 0)) (.a (.t 7))))), .lt 77 [] (.u (.ld 1 false (.t 0)) (.u (.fldA 0 0 (.t 0)) (.u (.nilc (.t 0)) (.a (.t 7))))), .op (some 78) (.pcall 17 [(.t 77)])] [(4, (.u (.ext (.t 0) 0) (.a (.t 78)))), (5, (.u (.ext (.t 0) 1) (.a (.t 78))))] [])
 (.ret)
def Xid : S2 := .rg [] [(3, (.a (.t 3))), (7, (.a (.t 7))), (39, (.a (.t 39))), (40, (.a (.t 40))), (41, (.b (.bin .add (.t 0) (.t 1)) (.a (.t 41)) (.a (.int .i64 1))))] []
def Xie : S2 := .rg [.chk [] (.u (.mki 116 (.t 0)) (.a (.str [59]))), .lt 62 [] (.u (.mki 116 (.t 0)) (.a (.str [59]))), .op (some 63) (.bls 1 [.nili] [(0, (.t 62))]), .lt 61 [] (.a (.t 7)), .op (some 64) (.call 38 [(.t 61), (.t 63)])] [(3, (.a (.t 3))), (7, (.a (.t 7))), (39, (.a (.t 39))), (40, (.a (.t 40))), (41, (.a (.t 41)))] []
def Xpo : S2 := .seq (.seq (.rg [] [(3, (.a (.t 3))), (7, (.a (.t 7))), (39, (.a (.t 39))), (40, (.a (.t 40))), (41, (.a (.t 41))), (56, (.u (.ld 1 false (.t 0)) (.u (.fldA 3 3 (.t 0)) (.a (.t 9)))))] [])
 (.cond (.t 56) (.rg [.chk [] (.u (.mki 112 (.t 0)) (.a (.str [111, 116, 104, 101, 114]))), .lt 58 [] (.u (.mki 112 (.t 0)) (.a (.str [111, 116, 104, 101, 114]))), .op (some 59) (.bls 1 [.nili] [(0, (.t 58))]), .lt 57 [] (.a (.t 7)), .op (some 60) (.call 38 [(.t 57), (.t 59)])] [(3, (.a (.t 3))), (7, (.a (.t 7))), (39, (.a (.t 39))), (40, (.a (.t 40))), (41, (.a (.t 41)))] []) (.skip)))
 (Xie)
def Xic : S2 := .seq (.rg [] [(3, (.a (.t 3))), (7, (.a (.t 7))), (39, (.a (.t 39))), (40, (.a (.t 40))), (41, (.a (.t 41))), (42, (.b (.bin .lss (.t 0) (.t 1)) (.a (.t 41)) (.a (.t 40))))] [])
 (.seq (.cond (.t 42) (.skip) (.exit 0))
 (.seq (.block 1 (.seq (.rg [.chk [] (.u (.ld 4 true (.t 0)) (.b (.idxA 4 (.t 0) (.t 1)) (.a (.t 39)) (.a (.t 41)))), .lt 44 [] (.u (.ld 4 true (.t 0)) (.b (.idxA 4 (.t 0) (.t 1)) (.a (.t 39)) (.a (.t 41)))), .op (some 9) (.alloc 63 (.agg [(.str []), (.str []), (.int .i64 0), (.bool false)])), .op none (.st 4 (.t 9) (.t 44))] [(3, (.a (.t 3))), (7, (.a (.t 7))), (9, (.a (.t 9))), (39, (.a (.t 39))), (40, (.a (.t 40))), (41, (.a (.t 41)))] [])
 (.seq (.rg [.chk [] (.u (.mki 9 (.t 0)) (.u (.ld 1 false (.t 0)) (.u (.fldA 1 1 (.t 0)) (.a (.t 9))))), .chk [] (.u (.mki 9 (.t 0)) (.u (.ld 1 false (.t 0)) (.u (.fldA 0 0 (.t 0)) (.a (.t 9))))), .chk [] (.u (.mki 112 (.t 0)) (.a (.str [102, 114, 111, 109]))), .lt 52 [] (.u (.mki 9 (.t 0)) (.u (.ld 1 false (.t 0)) (.u (.fldA 1 1 (.t 0)) (.a (.t 9))))), .lt 49 [] (.u (.mki 9 (.t 0)) (.u (.ld 1 false (.t 0)) (.u (.fldA 0 0 (.t 0)) (.a (.t 9))))), .lt 46 [] (.u (.mki 112 (.t 0)) (.a (.str [102, 114, 111, 109]))), .op (some 53) (.bls 1 [.nili, .nili, .nili] [(0, (.t 46)), (1, (.t 49)), (2, (.t 52))]), .lt 45 [] (.a (.t 7)), .op (some 54) (.call 38 [(.t 45), (.t 53)])] [(3, (.a (.t 3))), (7, (.a (.t 7))), (9, (.a (.t 9))), (39, (.a (.t 39))), (40, (.a (.t 40))), (41, (.a (.t 41)))] [])
 (Xpo))))
 (Xid)))
def Xpp : S2 := .seq (.seq (.rg [] [(3, (.a (.t 3))), (7, (.a (.t 7))), (39, (.u (.ld 1 false (.t 0)) (.u (.fldA 2 2 (.t 0)) (.a (.t 3))))), (40, (.u (.lenL (.t 0)) (.u (.ld 1 false (.t 0)) (.u (.fldA 2 2 (.t 0)) (.a (.t 3)))))), (41, (.a (.int .i64 0)))] [])
 (.block 0 (.loop [3, 7, 39, 40, 41] Xic)))
 (.seq (.rg [.chk [] (.u (.mki 116 (.t 0)) (.a (.str [125]))), .chk [] (.u (.mki 116 (.t 0)) (.a (.str [59]))), .chk [] (.u (.mki 42 (.t 0)) (.u (.ld 14 true (.t 0)) (.u (.fldA 3 3 (.t 0)) (.a (.t 3))))), .lt 71 [] (.u (.mki 116 (.t 0)) (.a (.str [125]))), .lt 70 [] (.u (.mki 116 (.t 0)) (.a (.str [59]))), .lt 69 [] (.u (.mki 42 (.t 0)) (.u (.ld 14 true (.t 0)) (.u (.fldA 3 3 (.t 0)) (.a (.t 3))))), .op (some 72) (.bls 1 [.nili, .nili, .nili] [(0, (.t 69)), (1, (.t 70)), (2, (.t 71))]), .lt 66 [] (.a (.t 7)), .op (some 73) (.call 38 [(.t 66), (.t 72)])] [(7, (.a (.t 7)))] [])
 (Xpn))
def Ydr : S2 := .seq (.rg [.op (some 2) (.box 32 (.t 0)), .op (some 3) (.box 44 (.t 1))] [(2, (.a (.t 2))), (3, (.a (.t 3)))] [])
 (.seq (.seq (.rg [.chk [] (.u (.ld 17 true (.t 0)) (.a (.t 3))), .chk [] (.u (.ld 7 true (.t 0)) (.a (.t 2))), .lt 11 [] (.u (.ld 17 true (.t 0)) (.a (.t 3))), .lt 10 [] (.u (.ld 7 true (.t 0)) (.a (.t 2))), .op (some 12) (.pcall 15 [(.t 10), (.t 11)])] [(2, (.a (.t 2))), (3, (.a (.t 3))), (6, (.a (.t 12)))] [])
 (.seq (.rg [] [(2, (.a (.t 2))), (3, (.a (.t 3))), (6, (.a (.t 6))), (14, (.b (.bin .neq (.t 0) (.t 1)) (.a (.t 6)) (.a (.int .i64 0))))] [])
 (.cond (.t 14) (.seq (.rg [] [(4, (.a (.str []))), (5, (.a (.t 6)))] [])
 (.ret)) (.skip))))
 (.seq (.rg [.chk [] (.u (.ld 1 false (.t 0)) (.u (.fldA 2 2 (.t 0)) (.a (.t 3)))), .lt 17 [] (.u (.ld 1 false (.t 0)) (.u (.fldA 2 2 (.t 0)) (.a (.t 3)))), .op (some 18) (.c (.bld [.nils, .nils] [(1, (.t 17))])), .op (some 19) (.box 110 (.t 18)), .op (some 7) (.mvg 59 4 (.t 19) (.t 19) [0])] [(2, (.a (.t 2))), (3, (.a (.t 3))), (7, (.a (.t 7)))] [])
 (.seq (.rg [.chk [] (.u (.mki 9 (.t 0)) (.u (.ld 1 false (.t 0)) (.u (.fldA 0 0 (.t 0)) (.b (.idxA 3 (.t 0) (.t 1)) (.u (.ld 1 false (.t 0)) (.u (.fldA 5 5 (.t 0)) (.u (.fldA 0 0 (.t 0)) (.a (.t 2))))) (.u (.ld 1 false (.t 0)) (.u (.fldA 1 1 (.t 0)) (.a (.t 3)))))))), .chk [] (.u (.mki 9 (.t 0)) (.u (.ld 1 false (.t 0)) (.u (.fldA 0 0 (.t 0)) (.a (.t 3))))), .chk [] (.u (.mki 116 (.t 0)) (.a (.str [123]))), .chk [] (.u (.mki 112 (.t 0)) (.a (.str [102, 111, 114]))), .chk [] (.u (.mki 112 (.t 0)) (.a (.str [97, 115, 107]))), .lt 34 [] (.u (.mki 9 (.t 0)) (.u (.ld 1 false (.t 0)) (.u (.fldA 0 0 (.t 0)) (.b (.idxA 3 (.t 0) (.t 1)) (.u (.ld 1 false (.t 0)) (.u (.fldA 5 5 (.t 0)) (.u (.fldA 0 0 (.t 0)) (.a (.t 2))))) (.u (.ld 1 false (.t 0)) (.u (.fldA 1 1 (.t 0)) (.a (.t 3)))))))), .lt 24 [] (.u (.mki 9 (.t 0)) (.u (.ld 1 false (.t 0)) (.u (.fldA 0 0 (.t 0)) (.a (.t 3))))), .lt 35 [] (.u (.mki 116 (.t 0)) (.a (.str [123]))), .lt 25 [] (.u (.mki 112 (.t 0)) (.a (.str [102, 111, 114]))), .lt 21 [] (.u (.mki 112 (.t 0)) (.a (.str [97, 115, 107]))), .op (some 36) (.bls 1 [.nili, .nili, .nili, .nili, .nili] [(0, (.t 21)), (1, (.t 24)), (2, (.t 25)), (3, (.t 34)), (4, (.t 35))]), .lt 20 [] (.a (.t 7)), .op (some 37) (.call 38 [(.t 20), (.t 36)])] [(3, (.a (.t 3))), (7, (.a (.t 7)))] [])
 (Xpp))))
theorem Yhs : X9p.lift [] = some Ydr := by kernel_rfl
def Vk : S2 := .rg [] [(0, (.a (.t 0))), (15, (.a (.t 15))), (16, (.a (.t 16))), (17, (.b (.bin .add (.t 0) (.t 1)) (.a (.t 17)) (.a (.int .i64 1))))] []
def Xpr : S2 := .rg [] [(0, (.a (.t 0))), (15, (.a (.t 15))), (16, (.a (.t 16))), (17, (.a (.t 17))), (107, (.a (.t 107))), (108, (.a (.t 108))), (109, (.b (.bin .add (.t 0) (.t 1)) (.a (.t 109)) (.a (.int .i64 1))))] []
def Xip : S2 := .seq (.rg [] [(0, (.a (.t 0))), (15, (.a (.t 15))), (16, (.a (.t 16))), (17, (.a (.t 17))), (107, (.a (.t 107))), (108, (.a (.t 108))), (109, (.a (.t 109))), (110, (.b (.bin .lss (.t 0) (.t 1)) (.a (.t 109)) (.a (.t 108))))] [])
 (.seq (.cond (.t 110) (.skip) (.exit 3))
 (.seq (.block 4 (.seq (.rg [.chk [] (.u (.ld 14 true (.t 0)) (.b (.idxA 14 (.t 0) (.t 1)) (.a (.t 107)) (.a (.t 109)))), .lt 112 [] (.u (.ld 14 true (.t 0)) (.b (.idxA 14 (.t 0) (.t 1)) (.a (.t 107)) (.a (.t 109)))), .op (some 13) (.alloc 42 (.agg [(.int .i64 0), (.int .i64 0), .nils, (.agg [(.int .i64 0), (.agg [(.str []), (.str []), (.int .i64 0), (.int .i64 0), (.int .i64 0)]), (.agg [(.str []), (.str []), (.int .i64 0), (.int .i64 0), (.int .i64 0)])])])), .op none (.st 14 (.t 13) (.t 112))] [(0, (.a (.t 0))), (13, (.a (.t 13))), (15, (.a (.t 15))), (16, (.a (.t 16))), (17, (.a (.t 17))), (107, (.a (.t 107))), (108, (.a (.t 108))), (109, (.a (.t 109)))] [])
 (.rg [.chk [] (.u (.mki 116 (.t 0)) (.a (.str [59]))), .chk [] (.u (.mki 42 (.t 0)) (.u (.ld 14 true (.t 0)) (.a (.t 13)))), .lt 116 [] (.u (.mki 116 (.t 0)) (.a (.str [59]))), .lt 115 [] (.u (.mki 42 (.t 0)) (.u (.ld 14 true (.t 0)) (.a (.t 13)))), .op (some 117) (.bls 1 [.nili, .nili] [(0, (.t 115)), (1, (.t 116))]), .lt 113 [] (.a (.t 0)), .op (some 118) (.call 38 [(.t 113), (.t 117)])] [(0, (.a (.t 0))), (15, (.a (.t 15))), (16, (.a (.t 16))), (17, (.a (.t 17))), (107, (.a (.t 107))), (108, (.a (.t 108))), (109, (.a (.t 109)))] [])))
 (Xpr)))
def Xps : S2 := .seq (.seq (.rg [] [(0, (.a (.t 0))), (15, (.a (.t 15))), (16, (.a (.t 16))), (17, (.a (.t 17))), (107, (.a (.t 11))), (108, (.u (.lenL (.t 0)) (.a (.t 11)))), (109, (.a (.int .i64 0)))] [])
 (.block 3 (.loop [0, 15, 16, 17, 107, 108, 109] Xip)))
 (.rg [.chk [] (.u (.mki 116 (.t 0)) (.a (.str [125]))), .lt 121 [] (.u (.mki 116 (.t 0)) (.a (.str [125]))), .op (some 122) (.bls 1 [.nili] [(0, (.t 121))]), .lt 120 [] (.a (.t 0)), .op (some 123) (.call 38 [(.t 120), (.t 122)])] [(0, (.a (.t 0))), (15, (.a (.t 15))), (16, (.a (.t 16))), (17, (.a (.t 17)))] [])
def W0 : S2 := .seq (.rg [] [(0, (.a (.t 0))), (15, (.a (.t 15))), (16, (.a (.t 16))), (17, (.a (.t 17))), (18, (.b (.bin .lss (.t 0) (.t 1)) (.a (.t 17)) (.a (.t 16))))] [])
 (.seq (.cond (.t 18) (.skip) (.exit 0))
 (.seq (.block 1 (.seq (.rg [] [(0, (.a (.t 0))), (5, (.u (.ld 1 false (.t 0)) (.b (.idxA 1 (.t 0) (.t 1)) (.a (.t 15)) (.a (.t 17))))), (15, (.a (.t 15))), (16, (.a (.t 16))), (17, (.a (.t 17)))] [])
 (.seq (.rg [] [(0, (.a (.t 0))), (15, (.a (.t 15))), (16, (.a (.t 16))), (17, (.a (.t 17))), (21, (.a (.t 5)))] [])
 (.block 2 (.seq (.rg [] [(0, (.a (.t 0))), (15, (.a (.t 15))), (16, (.a (.t 16))), (17, (.a (.t 17))), (21, (.a (.t 21))), (23, (.u (.ext (.t 0) 1) (.u (.tas 112 (.str []) (.t 0)) (.a (.t 21))))), (24, (.u (.ext (.t 0) 0) (.u (.tas 112 (.str []) (.t 0)) (.a (.t 21)))))] [])
 (.cond (.t 23) (.seq (.rg [] [(0, (.a (.t 0))), (6, (.a (.t 24))), (15, (.a (.t 15))), (16, (.a (.t 16))), (17, (.a (.t 17)))] [])
 (.rg [.chk [] (.u (.ld 1 false (.t 0)) (.u (.fldA 0 0 (.t 0)) (.u (.nilc (.t 0)) (.a (.t 0))))), .lt 30 [] (.a (.t 6)), .lt 29 [] (.u (.ld 1 false (.t 0)) (.u (.fldA 0 0 (.t 0)) (.u (.nilc (.t 0)) (.a (.t 0))))), .op (some 31) (.c (.bld [(.int .i64 0), (.str []), (.int .i64 0), (.int .i64 0)] [(0, (.int .i64 1)), (1, (.t 30))])), .op (some 32) (.bls 4 [(.agg [(.int .i64 0), (.str []), (.int .i64 0), (.int .i64 0)])] [(0, (.t 31))]), .op (some 33) (.app 59 4 40 (.t 29) (.t 32)), .chk [] (.u (.fldA 0 0 (.t 0)) (.u (.nilc (.t 0)) (.a (.t 0)))), .lt 35 [] (.u (.fldA 0 0 (.t 0)) (.u (.nilc (.t 0)) (.a (.t 0)))), .op none (.st 1 (.t 35) (.t 33))] [(0, (.a (.t 0))), (15, (.a (.t 15))), (16, (.a (.t 16))), (17, (.a (.t 17)))] [])) (.seq (.rg [] [(0, (.a (.t 0))), (15, (.a (.t 15))), (16, (.a (.t 16))), (17, (.a (.t 17))), (21, (.a (.t 21))), (37, (.u (.ext (.t 0) 1) (.u (.tas 9 (.str []) (.t 0)) (.a (.t 21))))), (38, (.u (.ext (.t 0) 0) (.u (.tas 9 (.str []) (.t 0)) (.a (.t 21)))))] [])
 (.cond (.t 37) (.seq (.rg [] [(0, (.a (.t 0))), (7, (.a (.t 38))), (15, (.a (.t 15))), (16, (.a (.t 16))), (17, (.a (.t 17)))] [])
 (.rg [.chk [] (.u (.ld 1 false (.t 0)) (.u (.fldA 0 0 (.t 0)) (.u (.nilc (.t 0)) (.a (.t 0))))), .lt 44 [] (.a (.t 7)), .lt 43 [] (.u (.ld 1 false (.t 0)) (.u (.fldA 0 0 (.t 0)) (.u (.nilc (.t 0)) (.a (.t 0))))), .op (some 45) (.c (.bld [(.int .i64 0), (.str []), (.int .i64 0), (.int .i64 0)] [(0, (.int .i64 1)), (1, (.t 44))])), .op (some 46) (.bls 4 [(.agg [(.int .i64 0), (.str []), (.int .i64 0), (.int .i64 0)])] [(0, (.t 45))]), .op (some 47) (.app 59 4 40 (.t 43) (.t 46)), .chk [] (.u (.fldA 0 0 (.t 0)) (.u (.nilc (.t 0)) (.a (.t 0)))), .lt 49 [] (.u (.fldA 0 0 (.t 0)) (.u (.nilc (.t 0)) (.a (.t 0)))), .op none (.st 1 (.t 49) (.t 47))] [(0, (.a (.t 0))), (15, (.a (.t 15))), (16, (.a (.t 16))), (17, (.a (.t 17)))] [])) (.seq (.rg [] [(0, (.a (.t 0))), (15, (.a (.t 15))), (16, (.a (.t 16))), (17, (.a (.t 17))), (21, (.a (.t 21))), (51, (.u (.ext (.t 0) 1) (.u (.tas 116 (.str []) (.t 0)) (.a (.t 21))))), (52, (.u (.ext (.t 0) 0) (.u (.tas 116 (.str []) (.t 0)) (.a (.t 21)))))] [])
 (.cond (.t 51) (.seq (.rg [] [(0, (.a (.t 0))), (8, (.a (.t 52))), (15, (.a (.t 15))), (16, (.a (.t 16))), (17, (.a (.t 17)))] [])
 (.rg [.chk [] (.u (.ld 1 false (.t 0)) (.u (.fldA 0 0 (.t 0)) (.u (.nilc (.t 0)) (.a (.t 0))))), .lt 58 [] (.a (.t 8)), .lt 57 [] (.u (.ld 1 false (.t 0)) (.u (.fldA 0 0 (.t 0)) (.u (.nilc (.t 0)) (.a (.t 0))))), .op (some 59) (.c (.bld [(.int .i64 0), (.str []), (.int .i64 0), (.int .i64 0)] [(0, (.int .i64 3)), (1, (.t 58))])), .op (some 60) (.bls 4 [(.agg [(.int .i64 0), (.str []), (.int .i64 0), (.int .i64 0)])] [(0, (.t 59))]), .op (some 61) (.app 59 4 40 (.t 57) (.t 60)), .chk [] (.u (.fldA 0 0 (.t 0)) (.u (.nilc (.t 0)) (.a (.t 0)))), .lt 63 [] (.u (.fldA 0 0 (.t 0)) (.u (.nilc (.t 0)) (.a (.t 0)))), .op none (.st 1 (.t 63) (.t 61))] [(0, (.a (.t 0))), (15, (.a (.t 15))), (16, (.a (.t 16))), (17, (.a (.t 17)))] [])) (.seq (.rg [] [(0, (.a (.t 0))), (15, (.a (.t 15))), (16, (.a (.t 16))), (17, (.a (.t 17))), (21, (.a (.t 21))), (65, (.u (.ext (.t 0) 1) (.u (.tas 3 (.int .i64 0) (.t 0)) (.a (.t 21))))), (66, (.u (.ext (.t 0) 0) (.u (.tas 3 (.int .i64 0) (.t 0)) (.a (.t 21)))))] [])
 (.cond (.t 65) (.seq (.rg [] [(0, (.a (.t 0))), (9, (.a (.t 66))), (15, (.a (.t 15))), (16, (.a (.t 16))), (17, (.a (.t 17)))] [])
 (.rg [.chk [] (.u (.ld 1 false (.t 0)) (.u (.fldA 0 0 (.t 0)) (.u (.nilc (.t 0)) (.a (.t 0))))), .lt 72 [] (.a (.t 9)), .lt 71 [] (.u (.ld 1 false (.t 0)) (.u (.fldA 0 0 (.t 0)) (.u (.nilc (.t 0)) (.a (.t 0))))), .op (some 73) (.c (.bld [(.int .i64 0), (.str []), (.int .i64 0), (.int .i64 0)] [(0, (.int .i64 2)), (2, (.t 72))])), .op (some 74) (.bls 4 [(.agg [(.int .i64 0), (.str []), (.int .i64 0), (.int .i64 0)])] [(0, (.t 73))]), .op (some 75) (.app 59 4 40 (.t 71) (.t 74)), .chk [] (.u (.fldA 0 0 (.t 0)) (.u (.nilc (.t 0)) (.a (.t 0)))), .lt 77 [] (.u (.fldA 0 0 (.t 0)) (.u (.nilc (.t 0)) (.a (.t 0)))), .op none (.st 1 (.t 77) (.t 75))] [(0, (.a (.t 0))), (15, (.a (.t 15))), (16, (.a (.t 16))), (17, (.a (.t 17)))] [])) (.seq (.rg [] [(0, (.a (.t 0))), (15, (.a (.t 15))), (16, (.a (.t 16))), (17, (.a (.t 17))), (21, (.a (.t 21))), (79, (.u (.ext (.t 0) 1) (.u (.tas 38 (.agg [(.str []), (.str []), (.int .i64 0), (.int .i64 0), (.int .i64 0)]) (.t 0)) (.a (.t 21))))), (80, (.u (.ext (.t 0) 0) (.u (.tas 38 (.agg [(.str []), (.str []), (.int .i64 0), (.int .i64 0), (.int .i64 0)]) (.t 0)) (.a (.t 21)))))] [])
 (.cond (.t 79) (.seq (.rg [.op (some 10) (.alloc 38 (.agg [(.str []), (.str []), (.int .i64 0), (.int .i64 0), (.int .i64 0)])), .op none (.st 5 (.t 10) (.t 80))] [(0, (.a (.t 0))), (10, (.a (.t 10))), (15, (.a (.t 15))), (16, (.a (.t 16))), (17, (.a (.t 17)))] [])
 (.seq (.rg [] [(0, (.a (.t 0))), (10, (.a (.t 10))), (15, (.a (.t 15))), (16, (.a (.t 16))), (17, (.a (.t 17))), (83, (.b (.bin .eql (.t 0) (.t 1)) (.u (.ld 1 false (.t 0)) (.u (.fldA 0 0 (.t 0)) (.a (.t 10)))) (.a (.str []))))] [])
 (.cond (.t 83) (.rg [.chk [] (.u (.mki 3 (.t 0)) (.u (.ld 1 false (.t 0)) (.u (.fldA 4 4 (.t 0)) (.a (.t 10))))), .lt 87 [] (.u (.mki 3 (.t 0)) (.u (.ld 1 false (.t 0)) (.u (.fldA 4 4 (.t 0)) (.a (.t 10))))), .op (some 88) (.bls 1 [.nili] [(0, (.t 87))]), .lt 84 [] (.a (.t 0)), .op (some 89) (.call 38 [(.t 84), (.t 88)])] [(0, (.a (.t 0))), (15, (.a (.t 15))), (16, (.a (.t 16))), (17, (.a (.t 17)))] []) (.rg [.chk [] (.u (.mki 9 (.t 0)) (.u (.ld 1 false (.t 0)) (.u (.fldA 1 1 (.t 0)) (.a (.t 10))))), .chk [] (.u (.mki 116 (.t 0)) (.a (.str [46]))), .chk [] (.u (.mki 9 (.t 0)) (.u (.ld 1 false (.t 0)) (.u (.fldA 0 0 (.t 0)) (.a (.t 10))))), .lt 97 [] (.u (.mki 9 (.t 0)) (.u (.ld 1 false (.t 0)) (.u (.fldA 1 1 (.t 0)) (.a (.t 10))))), .lt 94 [] (.u (.mki 116 (.t 0)) (.a (.str [46]))), .lt 93 [] (.u (.mki 9 (.t 0)) (.u (.ld 1 false (.t 0)) (.u (.fldA 0 0 (.t 0)) (.a (.t 10))))), .op (some 98) (.bls 1 [.nili, .nili, .nili] [(0, (.t 93)), (1, (.t 94)), (2, (.t 97))]), .lt 90 [] (.a (.t 0)), .op (some 99) (.call 38 [(.t 90), (.t 98)])] [(0, (.a (.t 0))), (15, (.a (.t 15))), (16, (.a (.t 16))), (17, (.a (.t 17)))] [])))) (.seq (.rg [] [(0, (.a (.t 0))), (15, (.a (.t 15))), (16, (.a (.t 16))), (17, (.a (.t 17))), (21, (.a (.t 21))), (101, (.u (.ext (.t 0) 1) (.u (.tas 36 .nils (.t 0)) (.a (.t 21))))), (102, (.u (.ext (.t 0) 0) (.u (.tas 36 .nils (.t 0)) (.a (.t 21)))))] [])
 (.cond (.t 101) (.seq (.rg [] [(0, (.a (.t 0))), (11, (.a (.t 102))), (15, (.a (.t 15))), (16, (.a (.t 16))), (17, (.a (.t 17)))] [])
 (.seq (.rg [.chk [] (.u (.mki 116 (.t 0)) (.a (.str [123]))), .lt 104 [] (.u (.mki 116 (.t 0)) (.a (.str [123]))), .op (some 105) (.bls 1 [.nili] [(0, (.t 104))]), .lt 103 [] (.a (.t 0)), .op (some 106) (.call 38 [(.t 103), (.t 105)])] [(0, (.a (.t 0))), (11, (.a (.t 11))), (15, (.a (.t 15))), (16, (.a (.t 16))), (17, (.a (.t 17)))] [])
 (Xps))) (.seq (.rg [] [(0, (.a (.t 0))), (15, (.a (.t 15))), (16, (.a (.t 16))), (17, (.a (.t 17))), (125, (.u (.ext (.t 0) 1) (.u (.tas 42 (.agg [(.int .i64 0), (.int .i64 0), .nils, (.agg [(.int .i64 0), (.agg [(.str []), (.str []), (.int .i64 0), (.int .i64 0), (.int .i64 0)]), (.agg [(.str []), (.str []), (.int .i64 0), (.int .i64 0), (.int .i64 0)])])]) (.t 0)) (.a (.t 21))))), (126, (.u (.ext (.t 0) 0) (.u (.tas 42 (.agg [(.int .i64 0), (.int .i64 0), .nils, (.agg [(.int .i64 0), (.agg [(.str []), (.str []), (.int .i64 0), (.int .i64 0), (.int .i64 0)]), (.agg [(.str []), (.str []), (.int .i64 0), (.int .i64 0), (.int .i64 0)])])]) (.t 0)) (.a (.t 21)))))] [])
 (.cond (.t 125) (.seq (.rg [.op (some 14) (.alloc 42 (.agg [(.int .i64 0), (.int .i64 0), .nils, (.agg [(.int .i64 0), (.agg [(.str []), (.str []), (.int .i64 0), (.int .i64 0), (.int .i64 0)]), (.agg [(.str []), (.str []), (.int .i64 0), (.int .i64 0), (.int .i64 0)])])])), .op none (.st 14 (.t 14) (.t 126))] [(0, (.a (.t 0))), (14, (.a (.t 14))), (15, (.a (.t 15))), (16, (.a (.t 16))), (17, (.a (.t 17)))] [])
 (.rg [.chk [] (.u (.ld 14 true (.t 0)) (.a (.t 14))), .lt 128 [] (.u (.ld 14 true (.t 0)) (.a (.t 14))), .lt 127 [] (.a (.t 0)), .op (some 129) (.call 91 [(.t 127), (.t 128)])] [(0, (.a (.t 0))), (15, (.a (.t 15))), (16, (.a (.t 16))), (17, (.a (.t 17)))] [])) (.skip)))))))))))))))))))
 (Vk)))
def Yd1 : S2 := .seq (.rg [] [(0, (.a (.t 0))), (15, (.a (.t 1))), (16, (.u (.lenL (.t 0)) (.a (.t 1)))), (17, (.a (.int .i64 0)))] [])
 (.block 0 (.loop [0, 15, 16, 17] W0))
theorem Yh2 : X9u.lift [] = some Yd1 := by kernel_rfl
def Xiz : S2 := .rg [.chk [] (.u (.mki 38 (.t 0)) (.u (.ld 5 true (.t 0)) (.u (.fldA 2 6 (.t 0)) (.u (.fldA 3 3 (.t 0)) (.a (.t 3)))))), .lt 94 [] (.u (.mki 38 (.t 0)) (.u (.ld 5 true (.t 0)) (.u (.fldA 2 6 (.t 0)) (.u (.fldA 3 3 (.t 0)) (.a (.t 3)))))), .op (some 95) (.bls 1 [.nili] [(0, (.t 94))]), .lt 90 [] (.a (.t 0)), .op (some 96) (.call 38 [(.t 90), (.t 95)])] [] []
def Qy : S2 := .seq (.seq (.rg [] [(0, (.a (.t 0))), (3, (.a (.t 3))), (63, (.u (.ld 1 false (.t 0)) (.u (.fldA 0 0 (.t 0)) (.u (.fldA 3 3 (.t 0)) (.a (.t 3))))))] [])
 (.block 1 (.seq (.rg [] [(0, (.a (.t 0))), (3, (.a (.t 3))), (63, (.a (.t 63))), (64, (.b (.bin .eql (.t 0) (.t 1)) (.a (.t 63)) (.a (.int .i64 1))))] [])
 (.cond (.t 64) (.rg [.chk [] (.u (.mki 116 (.t 0)) (.a (.str [61]))), .lt 67 [] (.u (.mki 116 (.t 0)) (.a (.str [61]))), .op (some 68) (.bls 1 [.nili] [(0, (.t 67))]), .lt 66 [] (.a (.t 0)), .op (some 69) (.call 38 [(.t 66), (.t 68)])] [(0, (.a (.t 0))), (3, (.a (.t 3)))] []) (.seq (.rg [] [(0, (.a (.t 0))), (3, (.a (.t 3))), (63, (.a (.t 63))), (70, (.b (.bin .eql (.t 0) (.t 1)) (.a (.t 63)) (.a (.int .i64 2))))] [])
 (.cond (.t 70) (.rg [.chk [] (.u (.mki 116 (.t 0)) (.a (.str [60]))), .lt 73 [] (.u (.mki 116 (.t 0)) (.a (.str [60]))), .op (some 74) (.bls 1 [.nili] [(0, (.t 73))]), .lt 72 [] (.a (.t 0)), .op (some 75) (.call 38 [(.t 72), (.t 74)])] [(0, (.a (.t 0))), (3, (.a (.t 3)))] []) (.seq (.rg [] [(0, (.a (.t 0))), (3, (.a (.t 3))), (63, (.a (.t 63))), (76, (.b (.bin .eql (.t 0) (.t 1)) (.a (.t 63)) (.a (.int .i64 3))))] [])
 (.cond (.t 76) (.rg [.chk [] (.u (.mki 116 (.t 0)) (.a (.str [61]))), .chk [] (.u (.mki 116 (.t 0)) (.a (.str [60]))), .lt 80 [] (.u (.mki 116 (.t 0)) (.a (.str [61]))), .lt 79 [] (.u (.mki 116 (.t 0)) (.a (.str [60]))), .op (some 81) (.bls 1 [.nili, .nili] [(0, (.t 79)), (1, (.t 80))]), .lt 78 [] (.a (.t 0)), .op (some 82) (.call 38 [(.t 78), (.t 81)])] [(0, (.a (.t 0))), (3, (.a (.t 3)))] []) (.seq (.rg [] [(0, (.a (.t 0))), (3, (.a (.t 3))), (83, (.b (.bin .eql (.t 0) (.t 1)) (.a (.t 63)) (.a (.int .i64 4))))] [])
 (.cond (.t 83) (.rg [.chk [] (.u (.mki 116 (.t 0)) (.a (.str [61]))), .chk [] (.u (.mki 116 (.t 0)) (.a (.str [33]))), .lt 87 [] (.u (.mki 116 (.t 0)) (.a (.str [61]))), .lt 86 [] (.u (.mki 116 (.t 0)) (.a (.str [33]))), .op (some 88) (.bls 1 [.nili, .nili] [(0, (.t 86)), (1, (.t 87))]), .lt 85 [] (.a (.t 0)), .op (some 89) (.call 38 [(.t 85), (.t 88)])] [(0, (.a (.t 0))), (3, (.a (.t 3)))] []) (.skip)))))))))))
 (Xiz)
def X2r : S2 := .seq (.rg [.op (some 3) (.box 42 (.t 1))] [(0, (.a (.t 0))), (3, (.a (.t 3)))] [])
 (.seq (.rg [] [(0, (.a (.t 0))), (3, (.a (.t 3))), (5, (.u (.ld 1 false (.t 0)) (.u (.fldA 0 0 (.t 0)) (.a (.t 3)))))] [])
 (.block 0 (.seq (.rg [] [(0, (.a (.t 0))), (3, (.a (.t 3))), (5, (.a (.t 5))), (6, (.b (.bin .eql (.t 0) (.t 1)) (.a (.t 5)) (.a (.int .i64 1))))] [])
 (.cond (.t 6) (.rg [.chk [] (.u (.mki 36 (.t 0)) (.u (.ld 1 false (.t 0)) (.u (.fldA 2 2 (.t 0)) (.a (.t 3))))), .chk [] (.u (.mki 112 (.t 0)) (.a (.str [97, 108, 108]))), .lt 12 [] (.u (.mki 36 (.t 0)) (.u (.ld 1 false (.t 0)) (.u (.fldA 2 2 (.t 0)) (.a (.t 3))))), .lt 9 [] (.u (.mki 112 (.t 0)) (.a (.str [97, 108, 108]))), .op (some 13) (.bls 1 [.nili, .nili] [(0, (.t 9)), (1, (.t 12))]), .lt 8 [] (.a (.t 0)), .op (some 14) (.call 38 [(.t 8), (.t 13)])] [] []) (.seq (.rg [] [(0, (.a (.t 0))), (3, (.a (.t 3))), (5, (.a (.t 5))), (15, (.b (.bin .eql (.t 0) (.t 1)) (.a (.t 5)) (.a (.int .i64 2))))] [])
 (.cond (.t 15) (.rg [.chk [] (.u (.mki 36 (.t 0)) (.u (.ld 1 false (.t 0)) (.u (.fldA 2 2 (.t 0)) (.a (.t 3))))), .chk [] (.u (.mki 112 (.t 0)) (.a (.str [97, 110, 121]))), .lt 21 [] (.u (.mki 36 (.t 0)) (.u (.ld 1 false (.t 0)) (.u (.fldA 2 2 (.t 0)) (.a (.t 3))))), .lt 18 [] (.u (.mki 112 (.t 0)) (.a (.str [97, 110, 121]))), .op (some 22) (.bls 1 [.nili, .nili] [(0, (.t 18)), (1, (.t 21))]), .lt 17 [] (.a (.t 0)), .op (some 23) (.call 38 [(.t 17), (.t 22)])] [] []) (.seq (.rg [] [(0, (.a (.t 0))), (3, (.a (.t 3))), (5, (.a (.t 5))), (24, (.b (.bin .eql (.t 0) (.t 1)) (.a (.t 5)) (.a (.int .i64 3))))] [])
 (.cond (.t 24) (.rg [.chk [] (.u (.mki 36 (.t 0)) (.u (.ld 1 false (.t 0)) (.u (.fldA 2 2 (.t 0)) (.a (.t 3))))), .chk [] (.u (.mki 3 (.t 0)) (.u (.ld 1 false (.t 0)) (.u (.fldA 1 1 (.t 0)) (.a (.t 3))))), .chk [] (.u (.mki 112 (.t 0)) (.a (.str [108, 101, 97, 115, 116]))), .lt 33 [] (.u (.mki 36 (.t 0)) (.u (.ld 1 false (.t 0)) (.u (.fldA 2 2 (.t 0)) (.a (.t 3))))), .lt 30 [] (.u (.mki 3 (.t 0)) (.u (.ld 1 false (.t 0)) (.u (.fldA 1 1 (.t 0)) (.a (.t 3))))), .lt 27 [] (.u (.mki 112 (.t 0)) (.a (.str [108, 101, 97, 115, 116]))), .op (some 34) (.bls 1 [.nili, .nili, .nili] [(0, (.t 27)), (1, (.t 30)), (2, (.t 33))]), .lt 26 [] (.a (.t 0)), .op (some 35) (.call 38 [(.t 26), (.t 34)])] [] []) (.seq (.rg [] [(0, (.a (.t 0))), (3, (.a (.t 3))), (5, (.a (.t 5))), (36, (.b (.bin .eql (.t 0) (.t 1)) (.a (.t 5)) (.a (.int .i64 4))))] [])
 (.cond (.t 36) (.rg [.chk [] (.u (.mki 9 (.t 0)) (.u (.ld 1 false (.t 0)) (.u (.fldA 0 0 (.t 0)) (.b (.idxA 4 (.t 0) (.t 1)) (.u (.ld 1 false (.t 0)) (.u (.fldA 1 1 (.t 0)) (.u (.nilc (.t 0)) (.a (.t 0))))) (.u (.ld 1 false (.t 0)) (.u (.fldA 1 1 (.t 0)) (.a (.t 3)))))))), .chk [] (.u (.mki 112 (.t 0)) (.a (.str [104, 97, 115]))), .lt 49 [] (.u (.mki 9 (.t 0)) (.u (.ld 1 false (.t 0)) (.u (.fldA 0 0 (.t 0)) (.b (.idxA 4 (.t 0) (.t 1)) (.u (.ld 1 false (.t 0)) (.u (.fldA 1 1 (.t 0)) (.u (.nilc (.t 0)) (.a (.t 0))))) (.u (.ld 1 false (.t 0)) (.u (.fldA 1 1 (.t 0)) (.a (.t 3)))))))), .lt 39 [] (.u (.mki 112 (.t 0)) (.a (.str [104, 97, 115]))), .op (some 50) (.bls 1 [.nili, .nili] [(0, (.t 39)), (1, (.t 49))]), .lt 38 [] (.a (.t 0)), .op (some 51) (.call 38 [(.t 38), (.t 50)])] [] []) (.seq (.rg [] [(0, (.a (.t 0))), (3, (.a (.t 3))), (52, (.b (.bin .eql (.t 0) (.t 1)) (.a (.t 5)) (.a (.int .i64 5))))] [])
 (.cond (.t 52) (.seq (.rg [.chk [] (.u (.mki 38 (.t 0)) (.u (.ld 5 true (.t 0)) (.u (.fldA 1 1 (.t 0)) (.u (.fldA 3 3 (.t 0)) (.a (.t 3)))))), .lt 58 [] (.u (.mki 38 (.t 0)) (.u (.ld 5 true (.t 0)) (.u (.fldA 1 1 (.t 0)) (.u (.fldA 3 3 (.t 0)) (.a (.t 3)))))), .op (some 59) (.bls 1 [.nili] [(0, (.t 58))]), .lt 54 [] (.a (.t 0)), .op (some 60) (.call 38 [(.t 54), (.t 59)])] [(0, (.a (.t 0))), (3, (.a (.t 3)))] [])
 (Qy)) (.skip)))))))))))))
theorem Yii : Yae.lift [] = some X2r := by kernel_rfl
end Go.Proofs.YtmapdjjigmkbfaaGreatDoor
/- Contracts: the printer's put and formula. Condition: the program is the seat's. -/
namespace Go.Proofs.YtmapdjjigmkbfaaGreatDoor
open Go Go.Ab Go.Lx Go.Sx
set_option maxRecDepth 100000
set_option maxHeartbeats 4000000
def Xny (P : Prg) (vs : List RVar) (r : Nat) : Prop := ∀ (Xc : List Part), (∀ x ∈ Xc, x.rank ≤ r) → ∀ (ob : Objs) (p q : Nat) (ts : List Tok), Pr vs ob p q ts → Xc.length ≤ 1000 → (∀ x ∈ Xc, x.few vs) → (ts ++ Xe vs Xc).length ≤ 1000000000 → ∀ K : Out → Objs → Prop, K (.ret (.tup [])) (prO vs ob p q (ts ++ Xe vs Xc)) → ACall P 38 [.ptr p [], .d (.list 1 (Xc.map Part.enc))] ob K
def Xwb (P : Prg) (vs : List RVar) (r : Nat) : Prop := ∀ (f : RForm), 3 * SizeOf.sizeOf f + 2 ≤ r → f.few vs → ∀ (ob : Objs) (p q : Nat) (ts : List Tok), Pr vs ob p q ts → (ts ++ Yp vs f).length ≤ 1000000000 → ∀ K : Out → Objs → Prop, K (.ret (.tup [])) (prO vs ob p q (ts ++ Yp vs f)) → ACall P 91 [.ptr p [], .d f.enc] ob K
section
variable {P : Prg} (hP : P.p = Tryz.prog)
include hP
theorem Xvu (vs : List RVar) (r : Nat) (ih : ∀ r', r' < r → Xny P vs r') (hf2 : Xwb P vs r) : Xny P vs r := by
 intro Xc hr ob p q ts hp hn hnm hl K h
 refine acall_lift hP mixed Yfk Yh2 TOk.nil fun _ hm => ?_
 simp [Yd1]
 refine ALoop.upto Xc.length (fun k => [(0, .ptr p []), (15, .d (.list 1 (Xc.map Part.enc))), (16, .d (.int .i64 Xc.length)), (17, .d (.int .i64 k))])
  (fun k => prO vs ob p q (ts ++ Xe vs (Xc.take k))) (fun _ => True) trivial (by simp) (by simp [Xe, hp.self]) ?_ ?_
 ·intro k hk _ R rn re rr rp
  have hp' := hp.look (ts' := ts ++ Xe vs (Xc.take k))
  have hx0 : Xc[k].rank ≤ r := hr _ (List.getElem_mem hk)
  have hfx : Xc[k].few vs := hnm _ (List.getElem_mem hk)
  have hpt := Xjd vs hk
  have hlen : (ts ++ Xe vs (Xc.take k)).length + (Xc[k].toks vs).length ≤ 1000000000 := by
   have h1 : (Xe vs (Xc.take (k + 1))).length ≤ (Xe vs Xc).length := Xqr _ _ _
   rw [hpt, List.length_append] at h1
   rw [List.length_append] at hl ⊢; omega
  generalize hts : ts ++ Xe vs (Xc.take k) = tk at *
  have e : (p == q) = false := by simp [hp.ne]
  have e' : (q == p) = false := by simpa using Ne.symm hp.ne
  have hi : IntKind.i64.wrap ((k : Int) + 1) = (k : Int) + 1 := IntWalk.i64_in _ (by omega)
  generalize hob : prO vs ob p q tk = obk at *
  have lq : lookO obk q = _ := hp'.q
  have lp : lookO obk p = _ := hp'.p
  have hfr : fresh obk = fresh ob := by rw [← hob]; exact Wz
  have fin : ∀ sl', Xd sl' [0, 15, 16, 17] = [(0, .ptr p []), (15, .d (.list 1 (Xc.map Part.enc))), (16, .d (.int .i64 Xc.length)), (17, .d (.int .i64 (k + 1 : Nat)))] → ∀ o2, Yt (young (fresh obk) []) o2 = prO vs obk p q (tk ++ Xc[k].toks vs) → R .normal sl' o2 := by
   intro sl' hs o2 ho
   have e1 : prO vs obk p q (tk ++ Xc[k].toks vs) = prO vs ob p q (ts ++ Xe vs (Xc.take (k + 1))) := by
    rw [← hob, Pr.step hp.ne, hpt, ← List.append_assoc, hts]
   refine rn [] sl' o2 trivial hs (ho.trans e1) ?_ ?_
   ·have := Yw hp.p
    simp [young, hfr]; omega
   ·rw [hfr]; exact Xaa hp hm []
  have one : ∀ (x : Part), Xc[k] = x → ∀ sl', Xd sl' [0, 15, 16, 17] = [(0, .ptr p []), (15, .d (.list 1 (Xc.map Part.enc))), (16, .d (.int .i64 Xc.length)), (17, .d (.int .i64 (k + 1 : Nat)))] → R .normal sl' (prO vs obk p q (tk ++ x.toks vs)) := by
   intro x hx sl' hs
   refine fin sl' hs _ ?_
   rw [hx]
   simp [lp, lq, e, e']
  have two : ∀ (x : Part), Xc[k] = x → ∀ sl', Xd sl' [0, 15, 16, 17] = [(0, .ptr p []), (15, .d (.list 1 (Xc.map Part.enc))), (16, .d (.int .i64 Xc.length)), (17, .d (.int .i64 (k + 1 : Nat)))] → ∀ o : Ob, R .normal sl' ((fresh obk, o) :: prO vs obk p q (tk ++ x.toks vs)) := by
   intro x hx sl' hs o
   refine fin sl' hs _ ?_
   rw [hx]
   simp [lp, lq, e, e']
  have hmk : ∀ kp, noMenO (young (fresh obk) kp) obk = true := by rw [hfr, ← hob]; exact Xaa hp hm
  have hl1 := hlen
  cases hx : Xc[k] with
  | word s =>
   rw [hx] at hl1; simp [Part.toks] at hl1
   simp [W0, Vk, hk, hx, Part.enc, lp, lq, e, e', hi]
   refine ⟨by omega, ?_⟩
   simpa [prO, Part.toks, nmT, Tok.enc] using one _ hx [(0, .ptr p []), (15, .d (.list 1 (Xc.map Part.enc))), (16, .d (.int .i64 Xc.length)), (17, .d (.int .i64 (k + 1 : Nat)))] (by simp)
  | name s =>
   rw [hx] at hl1; simp [Part.toks] at hl1
   simp [W0, Vk, hk, hx, Part.enc, lp, lq, e, e', hi]
   refine ⟨by omega, ?_⟩
   simpa [prO, Part.toks, nmT, Tok.enc] using one _ hx [(0, .ptr p []), (15, .d (.list 1 (Xc.map Part.enc))), (16, .d (.int .i64 Xc.length)), (17, .d (.int .i64 (k + 1 : Nat)))] (by simp)
  | sign s =>
   rw [hx] at hl1; simp [Part.toks] at hl1
   simp [W0, Vk, hk, hx, Part.enc, lp, lq, e, e', hi]
   refine ⟨by omega, ?_⟩
   simpa [prO, Part.toks, sgT, Tok.enc] using one _ hx [(0, .ptr p []), (15, .d (.list 1 (Xc.map Part.enc))), (16, .d (.int .i64 Xc.length)), (17, .d (.int .i64 (k + 1 : Nat)))] (by simp)
  | num n =>
   rw [hx] at hl1; simp [Part.toks] at hl1
   simp [W0, Vk, hk, hx, Part.enc, lp, lq, e, e', hi]
   refine ⟨by omega, ?_⟩
   simpa [prO, Part.toks, nuT, Tok.enc] using one _ hx [(0, .ptr p []), (15, .d (.list 1 (Xc.map Part.enc))), (16, .d (.int .i64 Xc.length)), (17, .d (.int .i64 (k + 1 : Nat)))] (by simp)
  | term t =>
   rw [hx] at hx0; simp only [Part.rank] at hx0
   have p0 := ih 0 (by omega)
   rw [hx] at hl1; simp only [Part.toks] at hl1
   simp [W0, Vk, hk, hx, Part.enc, lp, lq, e, e', hi, RTerm.enc]
   refine ⟨fun hn => ?_, fun hn => ?_⟩
   ·simp only [Yb, hn, if_true] at hl1
    refine p0 [.num t.n] (by simp [Part.rank]) _ p q tk (hp'.cons _) (by simp) (by simp [Part.few]) (by simpa [Xe, Part.toks] using hl1) _ ?_
    rw [hp'.cons_pr]
    simp [hi]
    simpa [Xe, Part.toks, Yb, hn, RTerm.enc] using two _ hx [(0, .ptr p []), (15, .d (.list 1 (Xc.map Part.enc))), (16, .d (.int .i64 Xc.length)), (17, .d (.int .i64 (k + 1 : Nat)))] (by simp) (.box 38 (.d t.enc))
   ·simp only [Yb, hn, if_false] at hl1
    refine p0 [.name t.name, .sign [46], .name t.path] (by simp [Part.rank]) _ p q tk (hp'.cons _) (by simp) (by simp [Part.few]) (by simpa [Xe, Part.toks] using hl1) _ ?_
    rw [hp'.cons_pr]
    simp [hi]
    simpa [Xe, Part.toks, Yb, hn, RTerm.enc] using two _ hx [(0, .ptr p []), (15, .d (.list 1 (Xc.map Part.enc))), (16, .d (.int .i64 Xc.length)), (17, .d (.int .i64 (k + 1 : Nat)))] (by simp) (.box 38 (.d t.enc))
  | form f =>
   rw [hx] at hx0 hfx; simp only [Part.rank] at hx0
   simp only [Part.few] at hfx
   rw [hx] at hl1; simp only [Part.toks] at hl1
   have hagg : (match V.d f.enc with | V.d (D.agg xs) => true | V.agg xs => true | x => false) = true := by rw [RForm.enc_eq]
   simp [W0, Vk, hk, hx, Part.enc, lp, lq, e, e', hi]
   refine ⟨hagg, ?_⟩
   refine hf2 f hx0 hfx _ p q tk (hp'.cons _) (by simpa using hl1) _ ?_
   rw [hp'.cons_pr]
   simp
   simpa [Part.toks] using two _ hx [(0, .ptr p []), (15, .d (.list 1 (Xc.map Part.enc))), (16, .d (.int .i64 Xc.length)), (17, .d (.int .i64 (k + 1 : Nat)))] (by simp) (.box 42 (.d f.enc))
  | kids l =>
   rw [hx] at hx0 hfx; simp only [Part.rank] at hx0
   simp only [Part.few] at hfx
   rw [hx] at hl1; simp only [Part.toks, Xl8] at hl1
   have p0 := ih 0 (by omega)
   simp [W0, hk, hx, Part.enc, lp, lq, e, e', hi]
   refine p0 [.sign [123]] (by simp [Part.rank]) _ p q tk hp' (by simp) (by simp [Part.few]) (by simp [Xe, Part.toks] at hl1 ⊢; omega) _ ?_
   simp [Xe, Part.toks]
   simp [Xps]
   have hl2 : (tk ++ [sgT [123]] ++ X4 vs l).length + 1 ≤ 1000000000 := by simp only [List.length_append, List.length_cons, List.length_nil] at hl1 ⊢; omega
   refine ALoop.upto l.length (fun j => [(0, .ptr p []), (15, .d (.list 1 (Xc.map Part.enc))), (16, .d (.int .i64 Xc.length)), (17, .d (.int .i64 k)), (107, .d (.list 14 (l.map RForm.enc))), (108, .d (.int .i64 l.length)), (109, .d (.int .i64 j))])
    (fun j => prO vs obk p q (tk ++ [sgT [123]] ++ X4 vs (l.take j))) (fun _ => True) trivial (by simp) (by simp [X4]) ?_ ?_
   ·intro j hj _ R' rn' re' rr' rp'
    have hlt := Yw hp'.p
    have hlt2 := Yw hp'.q
    have hwj : IntKind.i64.wrap ((j : Int) + 1) = (j : Int) + 1 := IntWalk.i64_in _ (by omega)
    have hmem : l[j] ∈ l := List.getElem_mem hj
    have hsz : SizeOf.sizeOf l[j] < SizeOf.sizeOf l := List.sizeOf_lt_of_mem hmem
    have hagg : (match V.d l[j].enc with | V.d (D.agg xs) => true | V.agg xs => true | x => false) = true := by rw [RForm.enc_eq]
    have hkt := Xl9 vs hj
    have hle := Xu9 vs l (j + 1)
    simp [Xip, hj]
    refine ⟨hagg, ?_⟩
    refine ih (3 * SizeOf.sizeOf l[j] + 2) (by omega) [.form l[j], .sign [59]] (by simp [Part.rank]) _ p q _ (hp'.top1 _ (tk ++ (sgT [123] :: X4 vs (l.take j)))) (by simp) (by simp [Part.few]; exact hfx.2 _ hmem) ?_ _ ?_
    ·rw [hkt] at hle
     simp only [Xe, Part.toks, List.flatMap_cons, List.flatMap_nil, List.append_nil, List.length_append, List.length_cons, List.length_nil] at hle hl2 ⊢
     omega
    ·rw [hp'.top]
     simp [Xpr, hwj]
     refine rn' [] _ _ trivial (by simp) ?_ ?_ ?_
     ·rw [hkt]; simp [young, lp, lq, e, e', Xe, Part.toks]
     ·simp [young, Wz]; omega
     ·rw [Wz]; exact Xvl hp' hmk _ (by omega) []
   ·intro _ R' re' rr' rp'
    simp [Xip]
    refine re' _ _ _ ?_
    simp
    refine p0 [.sign [125]] (by simp [Part.rank]) _ p q _ (hp'.look (ts' := tk ++ (sgT [123] :: X4 vs l))) (by simp) (by simp [Part.few]) ?_ _ ?_
    ·simp [Xe, Part.toks] at hl2 ⊢; omega
    ·rw [Pr.step hp.ne]
     simp [Vk, hi]
     simpa [Part.toks, Xe, Xl8] using one _ hx [(0, .ptr p []), (15, .d (.list 1 (Xc.map Part.enc))), (16, .d (.int .i64 Xc.length)), (17, .d (.int .i64 (k + 1 : Nat)))] (by simp)
 ·intro _ R re rr rp
  simp [W0]
  refine re _ _ _ ?_
  simp
  exact Xpi hp hm h (by simp) (by simp [hp.p, hp.q, hp.ne])
end
end Go.Proofs.YtmapdjjigmkbfaaGreatDoor
/- Contracts: the printer's formula; put at any Xc. Condition: the program is the seat's. -/
namespace Go.Proofs.YtmapdjjigmkbfaaGreatDoor
open Go Go.Ab Go.Lx Go.Sx
set_option maxRecDepth 100000
set_option maxHeartbeats 4000000
section
variable {P : Prg} (hP : P.p = Tryz.prog)
include hP
theorem Xzw (vs : List RVar) (r : Nat) (ih : ∀ r', r' < r → Xny P vs r') : Xwb P vs r := by
 intro f hr hf ob p q ts hp hl K h
 refine acall_lift hP mixed Yfz Yii TOk.nil fun _ hm => ?_
 have e : (p == q) = false := by simp [hp.ne]
 have e' : (q == p) = false := by simpa using Ne.symm hp.ne
 have lp := hp.p
 have lq := hp.q
 obtain ⟨hfk, hfh, hfm⟩ := RForm.few_eq hf
 have hsk : SizeOf.sizeOf f.kids < SizeOf.sizeOf f := by cases f; simp only [RForm.kids, RForm.mk.sizeOf_spec]; omega
 have pk := ih (3 * SizeOf.sizeOf f.kids + 1) (by omega)
 have p1 := ih 1 (by omega)
 have fin : ∀ {ts' : List Tok} {ob2 : Objs}, ts' = ts ++ Yp vs f → Yt (young (fresh ob) []) ob2 = prO vs ob p q ts' → X0 (fresh ob) (K (.ret (.tup []))) [] ob2 := fun e1 hd => by
  subst e1
  exact Xpi hp hm h (by simp) hd
 have hT := Xt6 vs f
 by_cases o1 : f.op = 1
 ·rw [if_pos o1] at hT
  rw [hT] at hl
  simp [X2r, RForm.enc_eq f, o1]
  refine pk [.word [97, 108, 108], .kids f.kids] (by simp [Part.rank]) _ p q ts (hp.cons _) (by simp) (by simp [Part.few, hfk]; exact hfm) (by simpa [Xe, Part.toks] using hl) _ ?_
  rw [hp.cons_pr]
  simp
  refine fin (ts' := ts ++ Xe vs [.word [97, 108, 108], .kids f.kids]) (by rw [hT]; simp [Xe, Part.toks]) ?_
  simp [young, lp, lq, e, e']
 by_cases o2 : f.op = 2
 ·rw [if_neg o1] at hT; rw [if_pos o2] at hT
  rw [hT] at hl
  simp [X2r, RForm.enc_eq f, o2]
  refine pk [.word [97, 110, 121], .kids f.kids] (by simp [Part.rank]) _ p q ts (hp.cons _) (by simp) (by simp [Part.few, hfk]; exact hfm) (by simpa [Xe, Part.toks] using hl) _ ?_
  rw [hp.cons_pr]
  simp
  refine fin (ts' := ts ++ Xe vs [.word [97, 110, 121], .kids f.kids]) (by rw [hT]; simp [Xe, Part.toks]) ?_
  simp [young, lp, lq, e, e']
 by_cases o3 : f.op = 3
 ·rw [if_neg o1] at hT; rw [if_neg o2] at hT; rw [if_pos o3] at hT
  rw [hT] at hl
  simp [X2r, RForm.enc_eq f, o3]
  refine pk [.word [108, 101, 97, 115, 116], .num f.n, .kids f.kids] (by simp [Part.rank]) _ p q ts (hp.cons _) (by simp) (by simp [Part.few, hfk]; exact hfm) (by simpa [Xe, Part.toks] using hl) _ ?_
  rw [hp.cons_pr]
  simp
  refine fin (ts' := ts ++ Xe vs [.word [108, 101, 97, 115, 116], .num f.n, .kids f.kids]) (by rw [hT]; simp [Xe, Part.toks]) ?_
  simp [young, lp, lq, e, e']
 by_cases o4 : f.op = 4
 ·rw [if_neg o1, if_neg o2, if_neg o3, if_pos o4] at hT
  rw [hT] at hl
  obtain ⟨n0, n1⟩ := hfh o4
  obtain ⟨n, hn⟩ : ∃ n : Nat, f.n = n := ⟨f.n.toNat, by omega⟩
  have hnl : n < vs.length := by omega
  have hvn : X3c vs f.n = vs[n].name := by simp [X3c, hn, hnl]
  simp [X2r, RForm.enc_eq f, o4, hn, hnl, RVar.enc, lp, e, e', hp.cons]
  refine pk [.word [104, 97, 115], .name vs[n].name] (by simp [Part.rank]) _ p q ts (hp.cons _) (by simp) (by simp [Part.few]) (by rw [hvn] at hl; simpa [Xe, Part.toks] using hl) _ ?_
  rw [hp.cons_pr]
  simp
  refine fin (ts' := ts ++ Xe vs [.word [104, 97, 115], .name vs[n].name]) (by rw [hT, hvn]; simp [Xe, Part.toks]) ?_
  simp [young, lp, lq, e, e']
 by_cases o5 : f.op = 5
 ·rw [if_neg o1, if_neg o2, if_neg o3, if_neg o4, if_pos o5] at hT
  rw [hT] at hl
  have ha : f.atom.enc = .agg [iD f.atom.op, f.atom.a.enc, f.atom.b.enc] := rfl
  have last : ∀ (o : Int) (t1 : List Tok), ts ++ Yp vs f = t1 ++ Yb f.atom.b → Yo P [] Xiz (Zy (fresh ob) [] K) [(0, .ptr p []), (3, .ptr (fresh ob) [])] ((fresh ob, .box 42 (.d (.agg [iD 5, iD f.n, .list 14 (f.kids.map RForm.enc), .agg [iD o, f.atom.a.enc, f.atom.b.enc]]))) :: prO vs ob p q t1) := by
   intro o t1 ht
   rw [hT] at ht
   have hlb : (t1 ++ Yb f.atom.b).length ≤ 1000000000 := by rw [← ht, List.length_append]; simpa using hl
   simp [Xiz]
   refine ⟨rfl, ?_⟩
   refine p1 [.term f.atom.b] (by simp [Part.rank]) _ p q _ (hp.top1 _ t1) (by simp) (by simp [Part.few]) (by simpa [Xe, Part.toks] using hlb) _ ?_
   rw [hp.top]
   simp
   refine fin (ts' := t1 ++ Xe vs [.term f.atom.b]) (by rw [hT, ht]; simp [Xe, Part.toks]) ?_
   simp [young, lp, lq, e, e']
  simp [X2r, RForm.enc_eq f, o5, ha]
  refine ⟨rfl, ?_⟩
  refine p1 [.term f.atom.a] (by simp [Part.rank]) _ p q ts (hp.cons _) (by simp) (by simp [Part.few]) (by simp only [Xe, Part.toks, List.flatMap_cons, List.flatMap_nil, List.append_nil, List.length_append] at hl ⊢; omega) _ ?_
  rw [hp.cons_pr]
  simp only [Xe, Part.toks, List.flatMap_cons, List.flatMap_nil, List.append_nil]
  simp
  by_cases a1 : f.atom.op = 1
  ·have hO : opT f.atom.op = Xe vs [.sign [61]] := by simp [opT, a1, Xe, Part.toks]
   rw [hO] at hT hl
   simp [Qy, a1]
   refine p1 [.sign [61]] (by simp [Part.rank]) _ p q _ (hp.top1 _ _) (by simp) (by simp [Part.few]) (by simp only [List.length_append] at hl ⊢; omega) _ ?_
   rw [hp.top]
   simp
   exact last 1 (ts ++ (Yb f.atom.a ++ Xe vs [.sign [61]])) (by rw [hT]; simp only [List.append_assoc])
  by_cases a2 : f.atom.op = 2
  ·have hO : opT f.atom.op = Xe vs [.sign [60]] := by simp [opT, a2, Xe, Part.toks]
   rw [hO] at hT hl
   simp [Qy, a2]
   refine p1 [.sign [60]] (by simp [Part.rank]) _ p q _ (hp.top1 _ _) (by simp) (by simp [Part.few]) (by simp only [List.length_append] at hl ⊢; omega) _ ?_
   rw [hp.top]
   simp
   exact last 2 (ts ++ (Yb f.atom.a ++ Xe vs [.sign [60]])) (by rw [hT]; simp only [List.append_assoc])
  by_cases a3 : f.atom.op = 3
  ·have hO : opT f.atom.op = Xe vs [.sign [60], .sign [61]] := by simp [opT, a3, Xe, Part.toks]
   rw [hO] at hT hl
   simp [Qy, a3]
   refine p1 [.sign [60], .sign [61]] (by simp [Part.rank]) _ p q _ (hp.top1 _ _) (by simp) (by simp [Part.few]) (by simp only [List.length_append] at hl ⊢; omega) _ ?_
   rw [hp.top]
   simp
   exact last 3 (ts ++ (Yb f.atom.a ++ Xe vs [.sign [60], .sign [61]])) (by rw [hT]; simp only [List.append_assoc])
  by_cases a4 : f.atom.op = 4
  ·have hO : opT f.atom.op = Xe vs [.sign [33], .sign [61]] := by simp [opT, a4, Xe, Part.toks]
   rw [hO] at hT hl
   simp [Qy, a4]
   refine p1 [.sign [33], .sign [61]] (by simp [Part.rank]) _ p q _ (hp.top1 _ _) (by simp) (by simp [Part.few]) (by simp only [List.length_append] at hl ⊢; omega) _ ?_
   rw [hp.top]
   simp
   exact last 4 (ts ++ (Yb f.atom.a ++ Xe vs [.sign [33], .sign [61]])) (by rw [hT]; simp only [List.append_assoc])
  have hO : opT f.atom.op = [] := by simp [opT, a1, a2, a3, a4]
  rw [hO] at hT hl
  simp [Qy, a1, a2, a3, a4]
  exact last _ _ (by rw [hT]; simp)
 ·rw [if_neg o1, if_neg o2, if_neg o3, if_neg o4, if_neg o5] at hT
  simp [X2r, RForm.enc_eq f, o1, o2, o3, o4, o5]
  have e0 : prO vs ob p q ts = ob := hp.self
  refine fin (ts' := ts) (by rw [hT]; simp) ?_
  rw [e0]
  simp [young]

theorem X24 (vs : List RVar) (r : Nat) : Xny P vs r := by
 induction r using Nat.strongRecOn with
 | ind r ih => exact Xvu hP vs r ih (Xzw hP vs r ih)
end
end Go.Proofs.YtmapdjjigmkbfaaGreatDoor
/- Contracts: names, signs and numbers of the document. Condition: the program is the seat's. -/
namespace Go.Lx
open Go Go.Ab
def V4 : Int → List UInt8 → Option Int
 | n, [] => some n
 | n, c :: r => if 1099511627776 < 10 * n + (c.toNat - 48) then none else V4 (10 * n + (c.toNat - 48)) r
theorem Xmg {s : List UInt8} {k : Nat} {n : Int} (h : k < s.length) : V4 n (s.drop k) = if 1099511627776 < 10 * n + ((s[k]?.getD 0).toNat - 48) then none else V4 (10 * n + ((s[k]?.getD 0).toNat - 48)) (s.drop (k + 1)) := by
 rw [List.drop_eq_getElem_cons h]
 simp [V4, h]
end Go.Lx
namespace Go.Proofs.YtmapdjjigmkbfaaGreatDoor
open Go Go.Ab Go.Lx
set_option maxRecDepth 100000
section
variable {P : Prg} (hP : P.p = Tryz.prog)
include hP
end
end Go.Proofs.YtmapdjjigmkbfaaGreatDoor
/- Slices of tokens. No program. -/
namespace Go.Lx
open Go Go.Ab
def TD (a : D) (l : List Tok) : Prop := a = toks l ∨ a = .nils ∧ l = []
section
variable {a : D} {l : List Tok} (h : TD a l)
include h
theorem TD.len : Xbw (.d a) = .d (.int .i64 l.length) := by rcases h with rfl | ⟨rfl, rfl⟩ <;> simp [toks]
theorem TD.lenS (ob : Objs) : Xdv ob (.d a) = True := by rcases h with rfl | ⟨rfl, rfl⟩ <;> simp [toks]
theorem TD.idxS (ob : Objs) (k : IntKind) (i : Int) : Xbu ob 4 (.d a) (.d (.int k i)) = (0 ≤ i ∧ i < l.length) := by
 rcases h with rfl | ⟨rfl, rfl⟩
 ·simp [toks]
 ·simp [Xbu, Qs]
theorem TD.idx {k : IntKind} {i : Nat} (hi : i < l.length) : Xbv 4 (.d a) (.d (.int k i)) = .d (.ref (l[i]?.getD default).enc) := by
 rcases h with rfl | ⟨rfl, rfl⟩
 ·simp [toks, hi]
 ·simp at hi
end
def Xq7 (s t : Tok) : Bool := decide (s.kind = t.kind) && decide (s.text = t.text) && decide (s.n = t.n)
def Vn : List Tok → List Tok → Bool
 | [], [] => true
 | s :: l, t :: m => Xq7 s t && Vn l m
 | _, _ => false
end Go.Lx
/- The lexer as a plain function of bytes. No program. -/
namespace Go.Lx
open Go Go.Ab

def Yv (c : UInt8) : Bool := Za c.toNat
def Xw (c : UInt8) : Bool := Uc c.toNat
def Vq (c : UInt8) : Bool := Xc5 c.toNat
def Y4 (c : UInt8) : Bool := Xgk c.toNat
def signB (c : UInt8) : Bool := signI c.toNat
def V3 (c : UInt8) : Bool := c != 10

inductive St where
 | skip (n : Nat)
 | tok (k : Int) (t : List UInt8) (m : Int) (n : Nat)
 | err

def Xa3 (t : List UInt8) : Option Int := match V4 0 t with
 | none => none
 | some n => if t.length = 1 ∨ t.headD 0 ≠ 48 then some n else none

def stp (c : UInt8) (r : List UInt8) : St :=
 if Vq c then .skip 0
 else if c = 47 ∧ r.head? = some 47 then .skip (r.takeWhile V3).length
 else if Yv c then
  if (r.takeWhile Y4).length + 1 ≤ 32 then .tok 1 (c :: r.takeWhile Y4) 0 (r.takeWhile Y4).length else .err
 else if Xw c then
  match Xa3 (c :: r.takeWhile Xw) with
  | some n => .tok 2 [] n (r.takeWhile Xw).length
  | none => .err
 else if signB c then .tok 3 [c] 0 0 else .err

inductive Res where
 | ok (l : List Tok)
 | err (at_ : Nat)

def Xyj (t : Tok) : Res → Res
 | .ok l => .ok (t :: l)
 | .err e => .err e
def Xsc (l : List Tok) : Res → Res
 | .ok l' => .ok (l ++ l')
 | .err e => .err e

def Qu : List UInt8 → Nat → Res
 | [], _ => .ok []
 | c :: r, off => match stp c r with
  | .skip n => Qu (r.drop n) (off + n + 1)
  | .tok k t m n => Xyj ⟨k, t, m, off⟩ (Qu (r.drop n) (off + n + 1))
  | .err => .err off
termination_by l => l.length
decreasing_by all_goals (simp only [List.length_drop, List.length_cons]; omega)

def Ybx : Res → V
 | .ok l => .tup [.d (toks l), .d (.int .i64 0), .d (.int .i64 0)]
 | .err e => .tup [.d .nils, .d (.int .i64 e), .d (.int .i64 90)]
def X5c (s : List UInt8) : V := if s.length > 65536 then .tup [.d .nils, .d (.int .i64 0), .d (.int .i64 2)] else Ybx (Qu s 0)

theorem Xsv (r : Res) : Xsc [] r = r := by cases r <;> rfl
theorem Xdd (l : List Tok) (t : Tok) (r : Res) : Xsc l (Xyj t r) = Xsc (l ++ [t]) r := by cases r <;> simp [Xsc, Xyj]

def tw (p : UInt8 → Bool) (s : List UInt8) (j : Nat) : Nat := ((s.drop j).takeWhile p).length
theorem Yby {p : UInt8 → Bool} {s : List UInt8} {j : Nat} (h : s.length ≤ j) : tw p s j = 0 := by simp [tw, List.drop_of_length_le h]
theorem Xr4 {p : UInt8 → Bool} {s : List UInt8} {j : Nat} (h : j < s.length) (hp : p (s[j]?.getD 0) = true) : tw p s j = tw p s (j + 1) + 1 := by
 simp [h] at hp
 unfold tw
 rw [List.drop_eq_getElem_cons h, List.takeWhile_cons, if_pos hp]; rfl
theorem Ybz {p : UInt8 → Bool} {s : List UInt8} {j : Nat} (h : j < s.length) (hp : p (s[j]?.getD 0) = false) : tw p s j = 0 := by
 simp [h] at hp
 unfold tw
 rw [List.drop_eq_getElem_cons h, List.takeWhile_cons, hp]; rfl
theorem Xmx (p : UInt8 → Bool) (s : List UInt8) (j : Nat) (h : j ≤ s.length) : j + tw p s j ≤ s.length := by
 have := (List.takeWhile_sublist p (l := s.drop j)).length_le
 simp [tw] at this ⊢; omega
theorem Wf (p : UInt8 → Bool) : ∀ l : List UInt8, l.takeWhile p = l.take (l.takeWhile p).length
 | [] => rfl
 | c :: r => by
  simp only [List.takeWhile_cons]
  split
  ·simp; exact Wf p r
  ·rfl
theorem Xwv {p : UInt8 → Bool} {x : UInt8} : ∀ {l : List UInt8}, x ∈ l.takeWhile p → p x = true
 | c :: r, h => by
  rw [List.takeWhile_cons] at h
  split at h
  ·rename_i hc
   rcases List.mem_cons.mp h with rfl | h
   ·exact hc
   ·exact Xwv h
  ·cases h
theorem Vh {s : List UInt8} {i : Nat} (h : i < s.length) : s.drop i = (s[i]?.getD 0) :: s.drop (i + 1) := by
 rw [List.drop_eq_getElem_cons h]; simp [h]
theorem X28 (p : UInt8 → Bool) {s : List UInt8} {i : Nat} (h : i < s.length) (hp : p (s[i]?.getD 0) = true) :
  (s.take (i + tw p s i)).drop i = (s[i]?.getD 0) :: (s.drop (i + 1)).takeWhile p ∧ tw p s i = ((s.drop (i + 1)).takeWhile p).length + 1 := by
 have h1 : tw p s i = ((s.drop (i + 1)).takeWhile p).length + 1 := Xr4 h hp
 refine ⟨?_, h1⟩
 rw [List.drop_take, Nat.add_sub_cancel_left, h1, Vh h, List.take_succ_cons, ← Wf]

theorem Xve {s : List UInt8} {i off : Nat} (h : s.length ≤ i) : Qu (s.drop i) off = .ok [] := by
 rw [List.drop_of_length_le h, Qu]
theorem X2p {s : List UInt8} {i : Nat} (h : i < s.length) : Qu (s.drop i) i = match stp (s[i]?.getD 0) (s.drop (i + 1)) with
  | .skip n => Qu (s.drop (i + n + 1)) (i + n + 1)
  | .tok k t m n => Xyj ⟨k, t, m, i⟩ (Qu (s.drop (i + n + 1)) (i + n + 1))
  | .err => .err i := by
 rw [Vh h, Qu]
 cases stp (s[i]?.getD 0) (s.drop (i + 1)) with
 | err => rfl
 | skip n => simp only [List.drop_drop]; congr 2; omega
 | tok k t m n => simp only [List.drop_drop]; congr 3; omega
theorem Xfx {s : List UInt8} {i : Nat} : (s.drop i).head? = s[i]? := by simp [List.head?_drop]
end Go.Lx
/- Parsers as plain functions of tokens: a monad. No program. -/
namespace Go.Sx
open Go Go.Ab Go.Lx
inductive R (α : Type) where
 | ok (a : α) (ts : List Tok)
 | err (ts : List Tok) (e : Int)
abbrev M (α : Type) := List Tok → R α
def M.bind {α β : Type} (m : M α) (f : α → M β) : M β := fun ts => match m ts with
 | .ok a ts' => f a ts'
 | .err ts' e => .err ts' e
def M.pure {α : Type} (a : α) : M α := fun ts => .ok a ts
instance : Monad M where
 pure := M.pure
 bind := M.bind
section
variable {α β : Type}
@[simp] theorem pure_eq (a : α) (ts : List Tok) : (pure a : M α) ts = .ok a ts := rfl
theorem X8 (m : M α) (f : α → M β) (ts : List Tok) : (m >>= f) ts = match m ts with
 | .ok a ts' => f a ts'
 | .err ts' e => .err ts' e := rfl
def ifM (c : List Tok → Bool) (a b : M α) : M α := fun ts => if c ts then a ts else b ts
def X9n (e : Int) : M α := fun ts => .err ts e
end
def X3 (k : Int) (t : B) : List Tok → Bool
 | [] => false
 | x :: _ => decide (x.kind = k) && (decide (t = []) || x.text == t)
def Jw (k : Int) (t : B) : M Tok := fun ts => if X3 k t ts then .ok (ts.headD default) ts.tail else .err ts 100
def Xby : M B := do let t ← Jw 1 []; pure t.text
def Xsa (t : B) : M Unit := do let _ ← Jw 1 t; pure ()
def V6 (t : B) : M Unit := do let _ ← Jw 3 t; pure ()
def X5 (k : Int) (t : B) : M Bool := fun ts => if X3 k t ts then .ok true ts.tail else .ok false ts
end Go.Sx
/- Plain facts on runs of bytes. No program. -/
namespace Go.Lx
open Go Go.Ab
theorem Xg6 {i n : Nat} (h : i < n) (hn : n ≤ 1000000) : IntKind.i64.wrap ((i : Int) + 1) = (i : Int) + 1 := IntWalk.i64_in _ (by omega)
end Go.Lx
/- Tables of numbers as data; the classes of bytes. Condition: the program is the seat's. -/
namespace Go.Lx
open Go Go.Ab
def Xeu (f : Nat → Int) : List D := (List.range 256).map fun i => .int .i64 (f i)
def Vz (f : Nat → Int) : D := .agg (Xeu f)
def upd (f : Nat → Int) (n : Nat) (v : Int) (i : Nat) : Int := if i = n then v else f i
theorem Y0 {f g : Nat → Int} (h : ∀ i, i < 256 → f i = g i) : Vz f = Vz g := by
 unfold Vz Xeu
 congr 1
 exact List.map_congr_left fun i hi => by rw [h i (List.mem_range.mp hi)]
@[simp] theorem tbl_kids (f : Nat → Int) : V.kids (.d (Vz f)) = some ((Xeu f).map .d) := by simp only [Vz, V.kids]
@[simp] theorem tbl_getE (f : Nat → Int) {n : Nat} (h : n < (Xeu f).length) : (Xeu f)[n] = .int .i64 (f n) := by simp [Xeu]
@[simp] theorem Xbg (f : Nat → Int) : (Xeu f).length = 256 := by simp [Xeu]
@[simp] theorem allD_set (l : List D) (n : Nat) (x : D) : V.allD ((l.map V.d).set n (.d x)) = some (l.set n x) := by rw [← List.map_set, allD_map]
@[simp] theorem tblL_set (f : Nat → Int) (n : Nat) (v : Int) : (Xeu f).set n (.int .i64 v) = Xeu (upd f n v) := by
 unfold Xeu
 apply List.ext_getElem?
 intro i
 by_cases hi : n = i
 ·subst hi
  by_cases hl : n < 256
  ·simp [List.getElem?_set, hl, upd]
  ·simp [List.getElem?_set, hl]
 ·by_cases hl : i < 256
  ·simp [List.getElem?_set, hi, hl, upd, Ne.symm hi]
  ·simp [List.getElem?_set, hi, hl]
@[simp] theorem Xyl (f : Nat → Int) : D.agg (Xeu f) = Vz f := rfl
theorem X27 {l : List D} {n : Nat} (h : ∀ x ∈ l, x.sz = n) : D.szs l = l.length * n := D.szs_uniform l h
theorem Xev (f : Nat → Int) : ∀ x ∈ Xeu f, x.sz = 1 := by
 intro x hx
 simp only [Xeu, List.mem_map] at hx
 obtain ⟨i, _, rfl⟩ := hx
 rfl
@[simp] theorem X72 (f : Nat → Int) : (Vz f).sz = 256 := by simp only [Vz, D.sz, X27 (Xev f), Xbg]
@[simp] theorem tbl_size' (f : Nat → Int) : (Vz f).shape.size = 256 := by rw [D.size_shape, X72]
@[simp] theorem tbl_agg (f : Nat → Int) : V.isAgg (.d (Vz f)) = true := rfl
@[simp] theorem tbl_dagg (f : Nat → Int) : (Vz f).isAgg = true := rfl
@[simp] theorem tbl_ok (f : Nat → Int) : (∀ a, a ∈ Xeu f → a.shape.size = 1) = True :=
 eq_true fun x hx => by rw [D.size_shape]; exact Xev f x hx
theorem Xvj (n : Nat) (x : D) : List.replicate n x = (List.range n).map fun _ => x := by
 rw [List.map_const', List.length_range]
theorem Qh : ∀ s : List UInt8, bytesD s = s.map fun b => .int .u8 b.toNat
 | [] => rfl
 | b :: r => by simp [bytesD, Qh r]
theorem Xg9 : List.replicate 256 (D.int .i64 0) = Xeu fun _ => 0 := Xvj 256 _

def cl1 (k i : Nat) : Int := if 65 ≤ i ∧ i < 65 + k ∨ 97 ≤ i ∧ i < 97 + k then 2 else 0
def cl2 (k i : Nat) : Int := if 48 ≤ i ∧ i < 48 + k then 3 else cl1 26 i
def spc : List UInt8 := [32, 9, 10, 13]
def cl3 (k i : Nat) : Int := if i ∈ (spc.take k).map UInt8.toNat then 1 else cl2 10 i
def cl4 (k i : Nat) : Int := if i ∈ (signs.take k).map UInt8.toNat then 4 else cl3 4 i
def Xe3 : Nat → Int := cl4 15
theorem Xky {l : List UInt8} {k i : Nat} (h : k < l.length) : (i ∈ (l.take (k + 1)).map UInt8.toNat) ↔ (i = (l[k]?.getD 0).toNat ∨ i ∈ (l.take k).map UInt8.toNat) := by
 rw [List.take_add_one, List.map_append, List.mem_append, List.getElem?_eq_getElem h]
 simp only [Option.toList_some, List.map_cons, List.map_nil, List.mem_singleton, Option.getD_some]
 exact Or.comm
def Ycc : D := Vz Xe3
end Go.Lx
namespace Go.Proofs.YtmapdjjigmkbfaaGreatDoor
open Go Go.Ab Go.Lx
set_option maxRecDepth 100000
section
variable {P : Prg} (hP : P.p = Tryz.prog)
include hP
theorem Xlt {ob : Objs} {K : V → Prop} (h : K (.d Ycc)) : PCall P 44 [] ob K := by
 refine pcall_lift hP mixed (ds := []) Yfp Yh7 TOk.nil ?_
 simp only [Yd7, Xg9]
 rw [show D.agg (Xeu fun _ => 0) = Vz fun _ => 0 from rfl, show Vz (fun _ => 0) = Vz (cl1 0) from Y0 fun i _ => by simp [cl1]]
 simp
 refine ALoop.go (ι := Nat) (fun k => [(0, .ptr 0 []), (7, .d (.int .i64 k))]) (fun k => [(0, .box 127 (.d (Vz (cl1 k))))]) (fun k => k ≤ 26) (fun k => 26 - k) 0 (by omega) (by simp) (by simp) ?_
 intro k hk R rn re _ _
 by_cases hlt : k < 26
 ·have w1 : IntKind.i64.wrap (65 + (k : Int)) = 65 + (k : Int) := IntWalk.i64_in _ (by omega)
  have w2 : IntKind.i64.wrap (97 + (k : Int)) = 97 + (k : Int) := IntWalk.i64_in _ (by omega)
  have w3 := Xg6 hlt (by omega)
  simp [Xnq, w1, w2, w3, show (k : Int) < 26 by omega, show ¬ (26 : Int) ≤ k by omega, show (0 : Int) ≤ 65 + k by omega, show (0 : Int) ≤ 97 + k by omega, show 65 + (k : Int) < 256 by omega, show 97 + (k : Int) < 256 by omega, show (65 + (k : Int)).toNat = 65 + k by omega, show (97 + (k : Int)).toNat = 97 + k by omega, show 65 + k < 256 by omega, show 97 + k < 256 by omega]
  refine rn [] (k + 1) _ _ ?_ ?_ ?_ ?_ ?_ ?_
  ·omega
  ·omega
  ·simp
  ·simp
   refine Y0 fun i _ => ?_
   simp only [upd, cl1]
   repeat (first | split | omega)
   all_goals omega
  ·simp
  ·simp
 ·have hk' : k = 26 := by omega
  subst hk'
  simp [Xnq]
  refine re _ _ _ ?_
  simp
  clear rn re
  rw [show Vz (cl1 26) = Vz (cl2 0) from Y0 fun i _ => by simp [cl2]; omega]
  refine ALoop.go (ι := Nat) (fun k => [(0, .ptr 0 []), (17, .d (.int .i64 k))]) (fun k => [(0, .box 127 (.d (Vz (cl2 k))))]) (fun k => k ≤ 10) (fun k => 10 - k) 0 (by omega) (by simp) (by simp) ?_
  intro k hk R rn re _ _
  by_cases hlt : k < 10
  ·have w1 : IntKind.i64.wrap (48 + (k : Int)) = 48 + (k : Int) := IntWalk.i64_in _ (by omega)
   have w3 := Xg6 hlt (by omega)
   simp [Xnp, w1, w3, show (k : Int) < 10 by omega, show ¬ (10 : Int) ≤ k by omega, show (0 : Int) ≤ 48 + k by omega, show 48 + (k : Int) < 256 by omega, show (48 + (k : Int)).toNat = 48 + k by omega, show 48 + k < 256 by omega]
   refine rn [] (k + 1) _ _ ?_ ?_ ?_ ?_ ?_ ?_
   ·omega
   ·omega
   ·simp
   ·simp
    refine Y0 fun i _ => ?_
    simp only [upd, cl2]
    repeat (first | split | omega)
    all_goals omega
   ·simp
   ·simp
  ·have hk' : k = 10 := by omega
   subst hk'
   simp [Xnp]
   refine re _ _ _ ?_
   simp
   clear rn re
   rw [show Vz (cl2 10) = Vz (cl3 0) from Y0 fun i _ => by simp [cl3]]
   show ALoop _ _ _ [_, (25, V.d (D.list 1 (bytesD spc))), _, _] _
   refine ALoop.go (ι := Nat) (fun k => [(0, .ptr 0 []), (25, .d (.list 1 (bytesD spc))), (26, .d (.int .i64 4)), (27, .d (.int .i64 k))]) (fun k => [(1, .gone), (0, .box 127 (.d (Vz (cl3 k))))]) (fun k => k ≤ 4) (fun k => 4 - k) 0 (by omega) (by simp [Xd]) (by simp) ?_
   intro k hk R rn re _ _
   by_cases hlt : k < 4
   ·have w3 := Xg6 hlt (by omega)
    have hb : (bytesD spc)[k]?.getD default = .int .u8 (spc[k]?.getD 0).toNat := by
     rw [Qh]; simp [show k < spc.length from hlt]
    have hlen : (bytesD spc).length = 4 := rfl
    have hc := (spc[k]?.getD 0).toNat_lt
    generalize hcc : spc[k]?.getD 0 = c at *
    simp [Xno, w3, hb, hlen, show (k : Int) < 4 by omega, show ¬ (4 : Int) ≤ k by omega, hc, show ((c.toNat : Int) < 256) by omega]
    refine rn [] (k + 1) _ _ ?_ ?_ ?_ ?_ ?_ ?_
    ·omega
    ·omega
    ·simp
    ·simp
     refine Y0 fun i _ => ?_
     simp only [upd, cl3, Xky (show k < spc.length from hlt), hcc]
     split
     ·rename_i e; simp [e]
     ·rename_i e; simp [e]
    ·simp
    ·simp
   ·have hk' : k = 4 := by omega
    subst hk'
    simp [Xno]
    refine re _ _ _ ?_
    simp
    clear rn re
    rw [show Vz (cl3 4) = Vz (cl4 0) from Y0 fun i _ => by simp [cl4]]
    show ALoop _ _ _ [_, (35, V.d (D.list 1 (bytesD signs))), _, _] _
    refine ALoop.go (ι := Nat) (fun k => [(0, .ptr 0 []), (35, .d (.list 1 (bytesD signs))), (36, .d (.int .i64 15)), (37, .d (.int .i64 k))]) (fun k => [(2, .gone), (1, .gone), (0, .box 127 (.d (Vz (cl4 k))))]) (fun k => k ≤ 15) (fun k => 15 - k) 0 (by omega) (by simp [Xd]) (by simp) ?_
    intro k hk R rn re _ _
    by_cases hlt : k < 15
    ·have w3 := Xg6 hlt (by omega)
     have hb : (bytesD signs)[k]?.getD default = .int .u8 (signs[k]?.getD 0).toNat := by
      rw [Qh]; simp [show k < signs.length from hlt]
     have hlen : (bytesD signs).length = 15 := rfl
     have hc := (signs[k]?.getD 0).toNat_lt
     generalize hcc : signs[k]?.getD 0 = c at *
     simp [Xnn, w3, hb, hlen, show (k : Int) < 15 by omega, show ¬ (15 : Int) ≤ k by omega, hc, show ((c.toNat : Int) < 256) by omega]
     refine rn [] (k + 1) _ _ ?_ ?_ ?_ ?_ ?_ ?_
     ·omega
     ·omega
     ·simp
     ·simp
      refine Y0 fun i _ => ?_
      simp only [upd, cl4, Xky (show k < signs.length from hlt), hcc]
      split
      ·rename_i e; simp [e]
      ·rename_i e; simp [e]
     ·simp
     ·simp
    ·have hk' : k = 15 := by omega
     subst hk'
     simp [Xnn]
     refine re _ _ _ ?_
     simp
     refine ⟨rfl, ?_⟩
     exact h
end
end Go.Proofs.YtmapdjjigmkbfaaGreatDoor
/- Contracts: what the scanner calls. Condition: the program is the seat's. -/
namespace Go.Lx
open Go Go.Ab
@[simp] theorem idxPV_tbl (f : Nat → Int) (kd : IntKind) (i : Int) : Xdt (.d (.ref (Vz f))) (.d (.int kd i)) = .d (.ref ((Xeu f).getD i.toNat default)) := by simp only [Vz, Xdt]
@[simp] theorem idxPS_tbl (ob : Objs) (f : Nat → Int) (kd : IntKind) (i : Int) : Xh4 ob 256 1 (.d (.ref (Vz f))) (.d (.int kd i)) = (0 ≤ i ∧ i < 256) := by
 simp only [Vz, Xz2, Xbg]
 simp
 intro _ _ x hx; exact Xev f x hx
theorem Xb9 : ∀ n, n < 256 → (Xe3 n = 2 ↔ Za n = true) := by decide +kernel
theorem Xao : ∀ n, n < 256 → (Xe3 n = 3 ↔ Uc n = true) := by decide +kernel
theorem Xog : ∀ n, n < 256 → (Xe3 n = 1 ↔ Xc5 n = true) := by decide +kernel
theorem Xta : ∀ n, n < 256 → (Xe3 n = 4 ↔ signI n = true) := by decide +kernel
theorem Xof : ∀ n, n < 256 → 0 ≤ Xe3 n ∧ Xe3 n ≤ 4 := by decide +kernel
abbrev scD (s : List UInt8) (i : Int) (l : List D) : D := .agg [.str s, .int .i64 i, Vz Xe3, .list 4 l]
abbrev scV (s : List UInt8) (i : Int) (y n : Nat) : V := .agg [.d (.str s), .d (.int .i64 i), .d (Vz Xe3), .sl y n]
end Go.Lx
namespace Go.Proofs.YtmapdjjigmkbfaaGreatDoor
open Go Go.Ab Go.Lx
set_option maxRecDepth 100000
section
variable {P : Prg} (hP : P.p = Tryz.prog)
include hP
theorem Xy6 (c : UInt8) (s : List UInt8) (i : Int) (l : List D) {ob : Objs} {K : V → Prop} (h : K (.d (.bool (Y4 c)))) : PCall P 97 [.d (.int .u8 c.toNat), .d (.ref (.ref (scD s i l)))] ob K := by
 refine pcall_lift hP mixed (ds := [.int .u8 c.toNat, .ref (.ref (scD s i l))]) Yf5 Yio TOk.nil ?_
 have hc := c.toNat_lt
 simp [Yhe, hc, show (c.toNat : Int) < 256 by omega]
 refine (congrArg K ?_).mp h
 congr 2
 rw [Bool.eq_iff_iff]
 have h2 := Xb9 c.toNat hc
 have h3 := Xao c.toNat hc
 simp [Y4, Xgk, h2, h3]
theorem Xoc (c : UInt8) (s : List UInt8) (i : Int) (l : List D) {ob : Objs} {K : V → Prop} (h : K (.d (.bool (Xw c)))) : PCall P 99 [.d (.int .u8 c.toNat), .d (.ref (.ref (scD s i l)))] ob K := by
 refine pcall_lift hP mixed (ds := [.int .u8 c.toNat, .ref (.ref (scD s i l))]) Yf7 Yiq TOk.nil ?_
 have hc := c.toNat_lt
 simp [Yhg, hc, show (c.toNat : Int) < 256 by omega]
 refine (congrArg K ?_).mp h
 congr 2
 rw [Bool.eq_iff_iff]
 have h3 := Xao c.toNat hc
 simp [Xw, h3]
theorem Xy9 (c : UInt8) {ob : Objs} {K : V → Prop} (h : K (.d (.bool (V3 c)))) : PCall P 101 [.d (.int .u8 c.toNat)] ob K := by
 refine pcall_lift hP mixed (ds := [.int .u8 c.toNat]) X6i Yaq TOk.nil ?_
 simp [X8r]
 refine (congrArg K ?_).mp h
 congr 2
 rw [Bool.eq_iff_iff]
 simp [V3]
 constructor
 ·intro h1 h2; exact h1 (by rw [← UInt8.ofNat_toNat (x := c), show c.toNat = 10 by omega]; rfl)
 ·intro h1 h2; subst h2; exact h1 rfl
theorem Xs1 (s t : List UInt8) {ob : Objs} {K : V → Prop} (h : K (.d (.bool (t.isPrefixOf s)))) : PCall P 100 [.d (.str s), .d (.str t)] ob K := by
 have h0 : ∀ {K : V → Prop}, K (.d (.bool (t.isPrefixOf s))) → PCall P 129 [.d (.str s), .d (.str t)] [] K := fun {K} h => by
  refine pcall_lift hP mixed (ds := [.str s, .str t]) X6v Ya3 TOk.nil ?_
  simp [X8x]
  refine (congrArg K ?_).mp h
  congr 2
  rw [Bool.eq_iff_iff]
  simp only [List.isPrefixOf_iff_prefix, List.prefix_iff_eq_take]
  by_cases hl : t.length ≤ s.length
  ·simp [hl]; exact eq_comm
  ·simp [hl]
   intro e
   have := congrArg List.length e
   simp at this; omega
 refine pcall_lift hP mixed (ds := [.str s, .str t]) X6h Yap TOk.nil ?_
 simp [X8q]
 exact h0 (by simpa using h)
theorem Xy8 (s : List UInt8) (i : Nat) (hi : i ≤ s.length) (hs : s.length ≤ 1000000) (l : List D) (f : Nat) (fi ca : List D) (p : UInt8 → Bool) (hf : Xi P.p f = true)
  (hp : ∀ (c : UInt8) (K : V → Prop), K (.d (.bool (p c))) → PCall P f (fi.map .d ++ .d (.int .u8 c.toNat) :: ca.map .d) [] K)
  {ob : Objs} {K : V → Prop} (h : K (.d (.str ((s.drop i).takeWhile p)))) : PCall P 96 [.d (.ref (scD s i l)), .d (.fn f fi ca)] ob K := by
 refine pcall_lift hP mixed (ds := [.ref (scD s i l), .fn f fi ca]) Yf4 Yin TOk.nil ?_
 simp [Yhd]
 refine ALoop.go (ι := Nat) (fun j => [(0, .d (.ref (scD s i l))), (1, .d (.fn f fi ca)), (5, .d (.int .i64 j))]) (fun _ => []) (fun j => i ≤ j ∧ j ≤ s.length ∧ j + tw p s j = i + tw p s i) (fun j => s.length - j) i ⟨by omega, by omega, rfl⟩ rfl rfl ?_
 rintro j ⟨hj0, hj1, hj2⟩ R rn re _ _
 have ex : tw p s j = 0 → ∀ x, R (AExit.exit 0) [(0, .d (.ref (scD s i l))), (1, .d (.fn f fi ca)), (5, .d (.int .i64 j)), (26, x)] [] := fun h0 x => by
  refine re _ _ _ ?_
  simp [hj0, hj1]
  refine (congrArg K ?_).mp h
  congr 2
  rw [List.drop_take, Wf]
  congr 1
  simp only [tw] at hj2 h0 ⊢
  omega
 simp [Xyf]
 by_cases hjl : j < s.length
 ·have hwj := Xg6 hjl hs
  simp [hjl, hwj, hf]
  refine ⟨PCall.acall (hp s[j] _ ?_), fun h => absurd h (by omega)⟩
  by_cases hb : p s[j] = true
  ·simp [hb]
   refine rn [] (j + 1) _ _ ⟨?_, ?_, ?_⟩ ?_ ?_ ?_ ?_ ?_
   ·omega
   ·omega
   ·rw [← hj2, Xr4 hjl (by simpa [hjl] using hb)]; omega
   ·omega
   ·simp
   ·simp
   ·simp
   ·simp
  ·simp [hb]
   exact ex (Ybz hjl (by simpa [hjl] using hb)) _
 ·simp [hjl]
  exact fun _ => ex (Yby (by omega)) _
end
end Go.Proofs.YtmapdjjigmkbfaaGreatDoor
/- Contracts: the scanner's methods. Condition: the program is the seat's. -/
namespace Go.Proofs.YtmapdjjigmkbfaaGreatDoor
open Go Go.Ab Go.Lx
set_option maxRecDepth 100000
section
variable {P : Prg} (hP : P.p = Tryz.prog)
include hP
theorem Xy1 (s : List UInt8) (i n : Nat) (k m a0 : Int) (t : List UInt8) (ts : List D) (hn : i + n ≤ 1000000) (hts : ts.length ≤ 1000000) {ob : Objs} {x y : Nat} (hx : lookO ob x = some (.box 130 (scV s i y ts.length))) (hy : lookO ob y = some (.arr 59 4 ts))
  {K : Out → Objs → Prop} (h : K (.ret (.tup [])) (setO (setO ob y (.arr 59 4 (ts ++ [.agg [.int .i64 k, .str t, .int .i64 m, .int .i64 i]]))) x (.box 130 (scV s ((i + n : Nat) : Int) y (ts.length + 1))))) :
  ACall P 98 [.ptr x [], .d (.agg [.int .i64 k, .str t, .int .i64 m, .int .i64 a0]), .d (.int .i64 n)] ob K := by
 have hxy : (y == x) = false := by rw [beq_eq_false_iff_ne]; intro e; subst e; rw [hx] at hy; cases hy
 have hyx : (x == y) = false := by rw [beq_eq_false_iff_ne]; intro e; subst e; rw [hx] at hy; cases hy
 refine acall_lift hP mixed Yf6 Yip TOk.nil ?_
 intro _ hm
 have hw : IntKind.i64.wrap ((i : Int) + n) = (i : Int) + n := IntWalk.i64_in _ (by omega)
 simp [Yhf, hx, hy, hxy, hyx, hw]
 refine ⟨by omega, ?_⟩
 refine ⟨[], by simp, ?_, ?_⟩
 ·simp
  exact noMenO_set_box _ _ _ _ _ (noMenO_set_arr _ _ _ _ _ _ (hm _)) (by simp [hy])
 ·simpa using h
abbrev Xdc (ob : Objs) (x y : Nat) (s : List UInt8) (ts : List D) (k : Int) (t : List UInt8) (m : Int) (i n : Nat) : Objs :=
 setO (setO ob y (.arr 59 4 (ts ++ [.agg [.int .i64 k, .str t, .int .i64 m, .int .i64 i]]))) x (.box 130 (scV s ((i + n : Nat) : Int) y (ts.length + 1)))
theorem Xdh : Xi P.p 97 = true ∧ Xi P.p 99 = true ∧ Xi P.p 101 = true := by
 rw [hP]; exact ⟨by kernel_rfl, by kernel_rfl, by kernel_rfl⟩
section
variable (s : List UInt8) (i : Nat) (ts : List D) (hs : s.length ≤ 65536) (hi : i < s.length) (hts : ts.length ≤ 1000000) {ob : Objs} {x y : Nat} (hx : lookO ob x = some (.box 130 (scV s i y ts.length))) (hy : lookO ob y = some (.arr 59 4 ts)) {K : Out → Objs → Prop}
include hs hi hts hx hy
omit hs hi hts hy in
theorem Xy7 (h : K (.panic (.d (.iface 124 (.int .i64 i)))) ob) : ACall P 45 [.ptr x []] ob K := by
 refine acall_lift hP mixed Yfq Yh8 TOk.nil ?_
 intro _ hm
 simp [Yg2, hx]
 refine ⟨[], by simp, ?_, ?_⟩
 ·simp [hm]
 ·simpa using h
omit hts in
theorem Xzb (h : K (.ret (.tup [])) (setO ob x (.box 130 (scV s ((i + 1 : Nat) : Int) y ts.length)))) : ACall P 46 [.ptr x []] ob K := by
 refine acall_lift hP mixed Yfr Yh9 TOk.nil ?_
 intro _ hm
 have hw := Xg6 hi (by omega)
 simp [Yg3, hx, hw]
 refine ⟨[], by simp, ?_, ?_⟩
 ·simp
  exact noMenO_set_box _ _ _ _ _ (hm _) (by simp [hy])
 ·simpa using h
theorem X34 (h1 : 32 < tw Y4 s i → K (.panic (.d (.iface 124 (.int .i64 i)))) ob) (h2 : tw Y4 s i ≤ 32 → K (.ret (.tup [])) (Xdc ob x y s ts 1 ((s.drop i).takeWhile Y4) 0 i (tw Y4 s i))) : ACall P 47 [.ptr x []] ob K := by
 refine acall_lift hP mixed Yfs Yia TOk.nil ?_
 intro _ hm
 have hle := Xmx Y4 s i (by omega)
 simp [Yg4, hx]
 refine PCall.borrow (n := 5) (ds := [.ref (scD s i ts), .fn 97 [] [.ref (.ref (scD s i ts))]]) (by simp [hx, hy]) ?_
 refine Xy8 hP s i (by omega) (by omega) ts _ [] _ Y4 (Xdh hP).1 (fun c K h => by simpa using Xy6 hP c s i ts h) ?_
 simp
 have hl : ((s.drop i).takeWhile Y4).length = tw Y4 s i := rfl
 simp [hl, hx]
 refine ⟨fun h3 => ?_, fun h3 => ?_⟩
 ·refine ⟨[], by simp, ?_, ?_⟩
  ·simp [hm]
  ·simpa using h1 (by omega)
 ·simp [Xyb, hl, hx]
  refine Xy1 hP (y := y) s i _ 1 0 0 _ ts (by omega) hts (by simp [hx]) (by simp [hy]) ?_
  simp [hx, hy]
  refine ⟨[], by simp, ?_, ?_⟩
  ·simp
   exact noMenO_set_box _ _ _ _ _ (noMenO_set_arr _ _ _ _ _ _ (hm _)) (by simp [hy])
  ·simpa [Xdc] using h2 (by omega)
theorem Xod (hd : Xw (s[i]?.getD 0) = true) (h1 : Xa3 ((s.drop i).takeWhile Xw) = none → K (.panic (.d (.iface 124 (.int .i64 i)))) ob)
  (h2 : ∀ m, Xa3 ((s.drop i).takeWhile Xw) = some m → K (.ret (.tup [])) (Xdc ob x y s ts 2 [] m i (tw Xw s i))) : ACall P 48 [.ptr x []] ob K := by
 refine acall_lift hP mixed Yft Yib TOk.nil ?_
 intro _ hm
 have hle := Xmx Xw s i (by omega)
 simp [Yg5, hx]
 refine PCall.borrow (n := 5) (ds := [.ref (scD s i ts), .fn 99 [] [.ref (.ref (scD s i ts))]]) (by simp [hx, hy]) ?_
 refine Xy8 hP s i (by omega) (by omega) ts _ [] _ Xw (Xdh hP).2.1 (fun c K h => by simpa using Xoc hP c s i ts h) ?_
 have hl : ((s.drop i).takeWhile Xw).length = tw Xw s i := rfl
 have hdg : ∀ k, k < tw Xw s i → Uc (((s.drop i).takeWhile Xw)[k]?.getD 0).toNat = true := fun k hk => by
  have : ((s.drop i).takeWhile Xw)[k] ∈ (s.drop i).takeWhile Xw := List.getElem_mem hk
  rw [List.getElem?_eq_getElem hk]
  exact Xwv this
 have hne : 0 < tw Xw s i := by have := Xr4 hi hd; omega
 generalize ht : (s.drop i).takeWhile Xw = t at *
 rw [← hl] at hdg hne
 simp
 refine ALoop.go (ι := Nat × Int) (fun k => [(1, .ptr (fresh ob) []), (2, .d (.str t)), (3, .d (.int .i64 k.2)), (9, .d (.int .i64 t.length)), (10, .d (.int .i64 k.1))]) (fun _ => (fresh ob, .box 126 (.ptr x [])) :: ob)
  (fun k => k.1 ≤ t.length ∧ 0 ≤ k.2 ∧ k.2 ≤ 1099511627776 ∧ V4 0 t = V4 k.2 (t.drop k.1) ∧ (2 ≤ k.1 → t.headD 0 ≠ 48)) (fun k => t.length - k.1) (0, 0) ⟨by simp, by simp, by simp, by simp, by simp⟩ rfl rfl ?_
 rintro ⟨k, n⟩ ⟨hk, k1, k2, k3, k4⟩ R rn re _ rp
 simp only at hk k1 k2 k3 k4
 simp [Xyc]
 by_cases hlt : k < t.length
 ·have hc := hdg k hlt
  rw [Xmg hlt] at k3
  generalize hcc : t[k]?.getD 0 = c at *
  have hcc' : t[k] = c := by rw [← hcc]; simp [hlt]
  simp [Uc] at hc
  have hcl := c.toNat_lt
  have hw : IntKind.i64.wrap (IntKind.i64.wrap (10 * n) + IntKind.i64.wrap (IntKind.u8.wrap (c.toNat - 48))) = 10 * n + (c.toNat - 48) := by
   rw [IntWalk.u8_in _ (by omega), IntWalk.i64_in (10 * n) (by omega), IntWalk.i64_in (_ - 48) (by omega), IntWalk.i64_in _ (by omega)]
  have hwk := Xg6 hlt (by omega)
  have hpan : Xa3 t = none → R (AExit.panic (V.d (D.iface 124 (D.int IntKind.i64 i)))) [] ((fresh ob, .box 126 (.ptr x [])) :: ob) := fun hno => by
   refine rp _ _ _ ?_
   simp
   refine ⟨[], by simp, ?_, ?_⟩
   ·simp [hm]
   ·simpa using h1 hno
  have h0 : (t[0]?.getD 0) = t.headD 0 := by cases t <;> rfl
  have hlead : 0 < k → t[0]?.getD 0 = 48 → Xa3 t = none := fun k0 e => by
   rw [h0] at e
   unfold Xa3
   cases V4 0 t with
   | none => rfl
   | some m => simp only; rw [if_neg]; simp only [not_or, Classical.not_not]; exact ⟨by omega, e⟩
  simp [hlt, hcc', hw, hwk, hx]
  refine ⟨⟨fun _ _ => hne, fun e => hpan ?_, fun e1 e2 => ?_⟩, fun e => absurd e (by omega)⟩
  ·rcases e with e | ⟨e1, e2⟩
   ·rw [if_pos e] at k3
    simp [Xa3, k3]
   ·refine hlead e1 ?_
    have e3 : (t[0]?.getD 0).toNat = 48 := by omega
    generalize t[0]?.getD 0 = z at e3
    rw [← UInt8.ofNat_toNat (x := z), e3]; rfl
  ·rw [if_neg (by omega)] at k3
   simp [Xyd, hwk]
   refine rn [] (k + 1, 10 * n + (c.toNat - 48)) _ _ ⟨?_, ?_, ?_, ?_, ?_⟩ ?_ ?_ ?_ ?_ ?_
   ·simp only; omega
   ·simp only; omega
   ·exact e1
   ·exact k3
   ·intro h2k e3
    have hk0 : 0 < k := by simp only at h2k; omega
    refine e2 hk0 ?_
    rw [h0, e3]; rfl
   ·simp only; omega
   ·simp
   ·simp
   ·simp [young]
   ·simp [Xv _ hm, hx]
 ·have hk' : k = t.length := by omega
  subst hk'
  simp
  refine re _ _ _ ?_
  simp [hx]
  refine Xy1 hP (y := y) s i _ 2 n 0 _ ts (by omega) hts (by simp [hx]) (by simp [hy]) ?_
  simp [hx, hy]
  refine ⟨[], by simp, ?_, ?_⟩
  ·simp
   exact noMenO_set_box _ _ _ _ _ (noMenO_set_arr _ _ _ _ _ _ (hm _)) (by simp [hy])
  ·have hn : Xa3 t = some n := by
    simp [V4] at k3
    simp only [Xa3, k3]
    rw [if_pos]
    by_cases h2 : 2 ≤ t.length
    ·exact .inr (k4 h2)
    ·exact .inl (by omega)
   simpa [Xdc, hl] using h2 n hn
theorem Xza (hsg : signB (s[i]?.getD 0) = true) (h1 : s[i]?.getD 0 = 47 ∧ (s.drop (i + 1)).head? = some 47 → K (.ret (.tup [])) (setO ob x (.box 130 (scV s ((i + tw V3 s i : Nat) : Int) y ts.length))))
  (h2 : ¬ (s[i]?.getD 0 = 47 ∧ (s.drop (i + 1)).head? = some 47) → K (.ret (.tup [])) (Xdc ob x y s ts 3 [s[i]?.getD 0] 0 i 1)) : ACall P 49 [.ptr x []] ob K := by
 refine acall_lift hP mixed Yfu Yic TOk.nil ?_
 intro _ hm
 have hw := Xg6 hi (by omega)
 have hle := Xmx V3 s i (by omega)
 simp [Yg6, hx, hw, show i ≤ s.length by omega]
 refine PCall.data (ds := [.str (s.drop i), .str [47, 47]]) rfl (Xs1 hP _ _ ?_)
 have hpre : ([47, 47] : List UInt8).isPrefixOf (s.drop i) = decide (s[i]?.getD 0 = 47 ∧ (s.drop (i + 1)).head? = some 47) := by
  rw [Vh hi]
  cases hd : s.drop (i + 1) with
  | nil => simp [List.isPrefixOf]
  | cons a r =>
   rw [Bool.eq_iff_iff]
   simp only [List.isPrefixOf, Bool.and_eq_true, beq_iff_eq, Bool.and_true, decide_eq_true_eq, List.head?_cons, Option.some.injEq]
   exact ⟨fun h => ⟨h.1.symm, h.2.symm⟩, fun h => ⟨h.1.symm, h.2.symm⟩⟩
 rw [hpre]
 simp [hx, hw]
 refine ⟨fun e1 e2 => ?_, fun e => ⟨by omega, ?_⟩⟩
 ·refine PCall.borrow (n := 5) (ds := [.ref (scD s i ts), .fn 101 [] []]) (by simp [hx, hy]) ?_
  refine Xy8 hP s i (by omega) (by omega) ts _ [] [] V3 (Xdh hP).2.2 (fun c K h => by simpa using Xy9 hP c h) ?_
  have hl : ((s.drop i).takeWhile V3).length = tw V3 s i := rfl
  have hw2 : IntKind.i64.wrap ((i : Int) + tw V3 s i) = (i : Int) + tw V3 s i := IntWalk.i64_in _ (by omega)
  simp [hl, hw2]
  refine ⟨[], by simp, ?_, ?_⟩
  ·simp
   exact noMenO_set_box _ _ _ _ _ (hm _) (by simp [hy])
  ·have := h1 ⟨e1, by rw [Xfx]; exact e2⟩
   simpa using this
 ·have htx : (s.take (i + 1)).drop i = [s[i]?.getD 0] := by
   rw [List.drop_take, Nat.add_sub_cancel_left, Vh hi]; rfl
  rw [htx]
  refine Xy1 hP (y := y) s i 1 3 0 0 _ ts (by omega) hts hx hy ?_
  simp
  refine ⟨[], by simp, ?_, ?_⟩
  ·simp
   exact noMenO_set_box _ _ _ _ _ (noMenO_set_arr _ _ _ _ _ _ (hm _)) (by simp [hy])
  ·have := h2 (fun e1 => e e1.1 (by rw [← Xfx]; exact e1.2))
   simpa [Xdc] using this
end
end
end Go.Proofs.YtmapdjjigmkbfaaGreatDoor
/- Contracts: Lex. Condition: the program is the seat's. -/
namespace Go.Proofs.YtmapdjjigmkbfaaGreatDoor
open Go Go.Ab Go.Lx
set_option maxRecDepth 100000
section
variable {P : Prg} (hP : P.p = Tryz.prog)
include hP
theorem X35 {ob : Objs} {a b c : Nat} {K : Objs → Prop} (h : K ob) : DCall P 43 [.ptr a [], .ptr b [], .ptr c []] ob none K := by
 refine DCall.of_wf fun _ hm => ?_
 refine Xca hP mixed Ybw Ydo Ydm TOk.nil ?_
 simp [Xpu, Xpt, Yb3]
 refine ⟨[], by simp, ?_, ?_⟩
 ·simp [hm]
 ·simpa using h
theorem X36 {ob : Objs} {a b c : Nat} {i : Int} {K : Objs → Prop} {va vb vc : V} {Ea Eb Ec : Nat} (ha : lookO ob a = some (.box Ea va)) (hb : lookO ob b = some (.box Eb vb)) (hc : lookO ob c = some (.box Ec vc)) (sa : va.shape = .leaf) (sb : vb.shape = .leaf) (sc : vc.shape = .leaf)
  (hab : (a == b) = false) (hac : (a == c) = false) (hbc : (b == c) = false) (h : K (setO (setO (setO ob a (.box Ea (.d .nils))) b (.box Eb (.d (.int .i64 i)))) c (.box Ec (.d (.int .i64 90))))) : DCall P 43 [.ptr a [], .ptr b [], .ptr c []] ob (some (.d (.iface 124 (.int .i64 i)))) K := by
 refine DCall.of_wf fun _ hm => ?_
 refine Xca hP mixed Ybw Ydo Ydm TOk.nil ?_
 simp [Xpu, Xpt, Yb3, Xya, ha, hb, hc, hab, hac, hbc, sa, sb, sc]
 refine ⟨[], by simp, ?_, ?_⟩
 ·rw [Uq (by simp)]
  exact noMenO_set_box _ _ _ _ _ (noMenO_set_box _ _ _ _ _ (noMenO_set_box _ _ _ _ _ (hm _) (by simp)) (by simp)) (by simp)
 ·rw [Uq (by simp)]
  exact h
theorem Xs8 : Xi P.p 43 = true ∧ Xi P.p 45 = true ∧ Xi P.p 46 = true ∧ Xi P.p 47 = true ∧ Xi P.p 48 = true ∧ Xi P.p 49 = true := by
 rw [hP]; exact ⟨by kernel_rfl, by kernel_rfl, by kernel_rfl, by kernel_rfl, by kernel_rfl, by kernel_rfl⟩
omit hP in
theorem Xr1 (f g : Nat → Int) : (Vz f).shape = (Vz g).shape := by
 simp only [Vz, Xeu, D.shape, D.shapes_eq, List.map_map, Function.comp_def]
theorem X9g (s : List UInt8) {ob : Objs} {K : V → Prop} (h : K (X5c s)) : PCall P 16 [.d (.str s)] ob K := by
 refine Jt hP mixed (ds := [.str s]) Yiu Yhu TOk.nil ?_
 obtain ⟨d0, d1, d2, d3, d4, d5⟩ := Xs8 hP
 simp only [Ydt, Xg9, Xyl]
 simp [d0]
 refine ⟨fun hl => ?_, fun hl => ?_⟩
 ·simpa [X5c, show 65536 < s.length by omega] using h
 ·have hl' : ¬ 65536 < s.length := by omega
  simp only [X5c, gt_iff_lt, hl', if_false] at h
  refine Xlt hP ?_
  simp [Ycc]
  refine ⟨Xr1 _ _, ?_⟩
  refine ALoop.go (ι := Nat × List Tok) (fun _ => [(0, .d (.str s)), (2, .ptr 0 []), (3, .ptr 1 []), (4, .ptr 2 []), (5, .ptr 3 []), (6, .ptr 5 [])])
   (fun k => [(5, .box 131 (.agg [.fn 45 [.ptr 3 []] [], .fn 46 [.ptr 3 []] [], .fn 47 [.ptr 3 []] [], .fn 48 [.ptr 3 []] [], .fn 49 [.ptr 3 []] []])),
    (4, .arr 59 4 (k.2.map Tok.enc)), (3, .box 130 (scV s k.1 4 k.2.length)), (2, .box 45 (.d (.int .i64 0))), (1, .box 3 (.d (.int .i64 0))), (0, .box 55 (.d .nils))])
   (fun k => k.1 ≤ s.length ∧ k.2.length ≤ k.1 ∧ Qu s 0 = Xsc k.2 (Qu (s.drop k.1) k.1)) (fun k => s.length - k.1) (0, []) ⟨by simp, by simp, by simp [Xsv]⟩ rfl (by simp) ?_
  rintro ⟨i, out⟩ ⟨hi, ho, he⟩ R rn re _ rp
  simp only at hi ho he
  have nx : ∀ j out' ob', j ≤ s.length → out'.length ≤ j → Qu s 0 = Xsc out' (Qu (s.drop j) j) → i < j → ob' = [(5, .box 131 (.agg [.fn 45 [.ptr 3 []] [], .fn 46 [.ptr 3 []] [], .fn 47 [.ptr 3 []] [], .fn 48 [.ptr 3 []] [], .fn 49 [.ptr 3 []] []])),
    (4, .arr 59 4 (out'.map Tok.enc)), (3, .box 130 (scV s j 4 out'.length)), (2, .box 45 (.d (.int .i64 0))), (1, .box 3 (.d (.int .i64 0))), (0, .box 55 (.d .nils))] → R .normal [(0, .d (.str s)), (2, .ptr 0 []), (3, .ptr 1 []), (4, .ptr 2 []), (5, .ptr 3 []), (6, .ptr 5 [])] ob' := fun j out' ob' h1 h2 h3 h4 h6 =>
   rn [] (j, out') _ _ ⟨h1, h2, h3⟩ (by simp only; omega) rfl (by rw [h6]; simp [young]) (by simp [young]) (by simp [young])
  clear rn
  by_cases hlt : i < s.length
  ·rw [X2p hlt] at he
   generalize hc : s[i]?.getD 0 = c at *
   have hc' : s[i] = c := by rw [← hc]; simp [hlt]
   have hcl := c.toNat_lt
   have hout : (out.map Tok.enc).length ≤ 1000000 := by simp; omega
   have pan : Qu s 0 = .err i → R (.panic (.d (.iface 124 (.int .i64 i)))) [(2, .ptr 0 []), (3, .ptr 1 []), (4, .ptr 2 [])] [(5, .box 131 (.agg [.fn 45 [.ptr 3 []] [], .fn 46 [.ptr 3 []] [], .fn 47 [.ptr 3 []] [], .fn 48 [.ptr 3 []] [], .fn 49 [.ptr 3 []] []])),
    (4, .arr 59 4 (out.map Tok.enc)), (3, .box 130 (scV s i 4 out.length)), (2, .box 45 (.d (.int .i64 0))), (1, .box 3 (.d (.int .i64 0))), (0, .box 55 (.d .nils))] := fun hr => by
    refine rp _ _ _ ?_
    simp
    refine X36 hP (Ea := 55) (Eb := 3) (Ec := 45) (va := .d .nils) (vb := .d (.int .i64 0)) (vc := .d (.int .i64 0)) (by simp) (by simp) (by simp) (by simp) (by simp) (by simp) rfl rfl rfl ?_
    simp
    rw [hr] at h
    exact h
   have hx : ∀ (o5 : Ob), lookO [(5, o5), (4, Ob.arr 59 4 (out.map Tok.enc)), (3, Ob.box 130 (scV s i 4 (out.map Tok.enc).length)), (2, .box 45 (.d (.int .i64 0))), (1, .box 3 (.d (.int .i64 0))), (0, .box 55 (.d .nils))] 3 = some (.box 130 (scV s i 4 (out.map Tok.enc).length)) := fun _ => by simp
   have hcr := Xof c.toNat hcl
   have cls : ∀ m : Nat, Xe3 c.toNat = m → (Xe3 c.toNat).toNat = m := fun m e => by omega
   have g1 := Xog c.toNat hcl
   have g2 := Xb9 c.toNat hcl
   have g3 := Xao c.toNat hcl
   have g4 := Xta c.toNat hcl
   have e47 : Xe3 c.toNat ≠ 4 → ¬ (c = 47 ∧ (s.drop (i + 1)).head? = some 47) := fun hne h => by
    obtain ⟨rfl, _⟩ := h; exact hne (by decide +kernel)
   have key : ∀ m : Int, Xe3 c.toNat = m → (Vq c = decide (m = 1)) ∧ (Yv c = decide (m = 2)) ∧ (Xw c = decide (m = 3)) ∧ (signB c = decide (m = 4)) := fun m e => by
    rw [e] at g1 g2 g3 g4
    refine ⟨?_, ?_, ?_, ?_⟩ <;> rw [Bool.eq_iff_iff, decide_eq_true_eq]
    ·exact g1.symm
    ·exact g2.symm
    ·exact g3.symm
    ·exact g4.symm
   have htwt : ∀ p : UInt8 → Bool, p c = true → tw p s i = ((s.drop (i + 1)).takeWhile p).length + 1 ∧ (s.drop i).takeWhile p = c :: (s.drop (i + 1)).takeWhile p := fun p hp => by
    refine ⟨(X28 p hlt (by rw [hc]; exact hp)).2, ?_⟩
    rw [Vh hlt, hc, List.takeWhile_cons, if_pos hp]
   rcases (by omega : Xe3 c.toNat = 0 ∨ Xe3 c.toNat = 1 ∨ Xe3 c.toNat = 2 ∨ Xe3 c.toNat = 3 ∨ Xe3 c.toNat = 4) with e | e | e | e | e
   ·obtain ⟨k1, k2, k3, k4⟩ := key 0 e
    simp only [stp, k1, k2, k3, k4, e47 (by rw [e]; decide), if_false, Xsc] at he
    simp [Qf, hlt, hc', hcl, show (c.toNat : Int) < 256 by omega, e, d1]
    refine Xy7 hP s i (out.map Tok.enc) (y := 4) (by simp) ?_
    simp
    exact pan (by simpa using he)
   ·obtain ⟨k1, k2, k3, k4⟩ := key 1 e
    simp [stp, k1] at he
    simp [Qf, hlt, hc', hcl, show (c.toNat : Int) < 256 by omega, e, d2]
    refine Xzb hP s i (out.map Tok.enc) (by omega) hlt (y := 4) (by simp) (by simp) ?_
    simp
    refine nx (i + 1) out _ (by omega) (by omega) he (by omega) (by simp)
   ·obtain ⟨k1, k2, k3, k4⟩ := key 2 e
    have hp : Y4 c = true := by
     have : Za c.toNat = true := by simpa [Yv] using k2
     simp [Y4, Xgk, this]
    obtain ⟨t1, t2⟩ := htwt Y4 hp
    have hle := Xmx Y4 s i (by omega)
    have k1 : Vq c = false := by simpa using k1
    have k2 : Yv c = true := by simpa using k2
    simp only [stp, k1, k2, e47 (by rw [e]; decide), Bool.false_eq_true, if_false, if_true] at he
    simp [Qf, hlt, hc', hcl, show (c.toNat : Int) < 256 by omega, e, d3]
    refine X34 hP s i (out.map Tok.enc) (by omega) hlt hout (y := 4) (by simp) (by simp) (fun h5 => ?_) (fun h5 => ?_)
    ·simp
     rw [if_neg (by omega)] at he
     exact pan (by simpa [Xsc] using he)
    ·simp [Xdc]
     rw [if_pos (by omega)] at he
     simp only [Xdd] at he
     have hjj : i + ((s.drop (i + 1)).takeWhile Y4).length + 1 = i + tw Y4 s i := by omega
     rw [hjj] at he
     refine nx (i + tw Y4 s i) (out ++ [⟨1, c :: (s.drop (i + 1)).takeWhile Y4, 0, i⟩]) _ (by omega) (by simp; omega) he (by omega) ?_
     simp [Tok.enc, t2]
   ·obtain ⟨k1, k2, k3, k4⟩ := key 3 e
    have hp : Xw c = true := by simpa using k3
    obtain ⟨t1, t2⟩ := htwt Xw hp
    have hle := Xmx Xw s i (by omega)
    have k1 : Vq c = false := by simpa using k1
    have k2 : Yv c = false := by simpa using k2
    simp only [stp, k1, k2, hp, e47 (by rw [e]; decide), Bool.false_eq_true, if_false, if_true] at he
    simp [Qf, hlt, hc', hcl, show (c.toNat : Int) < 256 by omega, e, d4]
    refine Xod hP s i (out.map Tok.enc) (by omega) hlt hout (y := 4) (by simp) (by simp) (by rw [hc]; exact hp) (fun h5 => ?_) (fun m h5 => ?_)
    ·simp
     rw [t2] at h5
     rw [h5] at he
     exact pan (by simpa [Xsc] using he)
    ·simp [Xdc]
     rw [t2] at h5
     rw [h5] at he
     simp only [Xdd] at he
     have hjj : i + ((s.drop (i + 1)).takeWhile Xw).length + 1 = i + tw Xw s i := by omega
     rw [hjj] at he
     refine nx (i + tw Xw s i) (out ++ [⟨2, [], m, i⟩]) _ (by omega) (by simp; omega) he (by omega) ?_
     simp [Tok.enc]
   ·obtain ⟨k1, k2, k3, k4⟩ := key 4 e
    simp [Qf, hlt, hc', hcl, show (c.toNat : Int) < 256 by omega, e, d5]
    refine Xza hP s i (out.map Tok.enc) (by omega) hlt hout (y := 4) (by simp) (by simp) (by rw [hc]; simpa using k4) (fun h5 => ?_) (fun h5 => ?_)
    ·rw [hc] at h5
     obtain ⟨rfl, h6⟩ := h5
     obtain ⟨t1, t2⟩ := htwt V3 rfl
     have hle := Xmx V3 s i (by omega)
     simp only [stp, k1, h6, and_self, if_true, decide_eq_true_eq, show ¬ ((4 : Int) = 1) by decide, if_false] at he
     simp
     have hjj : i + ((s.drop (i + 1)).takeWhile V3).length + 1 = i + tw V3 s i := by omega
     rw [hjj] at he
     refine nx (i + tw V3 s i) out _ (by omega) (by omega) he (by omega) ?_
     simp
    ·rw [hc] at h5
     simp only [stp, k1, k2, k3, k4, h5, if_false, decide_eq_true_eq, show ¬ ((4 : Int) = 1) by decide, show ¬ ((4 : Int) = 2) by decide, show ¬ ((4 : Int) = 3) by decide, if_true, Xdd] at he
     simp [Xdc]
     refine nx (i + 1) (out ++ [⟨3, [c], 0, i⟩]) _ (by omega) (by simp; omega) he (by omega) ?_
     simp [Tok.enc, hc]
  ·have hi' : i = s.length := by omega
   subst hi'
   simp [Qf]
   refine re _ _ _ ?_
   simp
   refine X35 hP ?_
   simp
   rw [Xve (Nat.le_refl _)] at he
   rw [he] at h
   simpa [Xsc, Ybx, toks] using h
end
end Go.Proofs.YtmapdjjigmkbfaaGreatDoor
/- strings.Builder: copyCheck, walked (the shelf's body has a panic where this dump refuses). Condition: the program is the seat's. -/
namespace Go.Proofs.YtmapdjjigmkbfaaGreatDoor
open Go Go.Ab Go.Lx
set_option maxRecDepth 100000
open Go.RowKit in
set_option maxHeartbeats 1000000 in
theorem cc_used (b : Nat) (w : World) (h0 : w.cell? ⟨b, 0, none⟩ = some (.pointer (some ⟨b, 0, none⟩))) :
  Calls Tryz.prog 103 #[.pointer (some ⟨b, 0, none⟩)] w fun e w' => e = .returned (.tuple #[]) ∧ w' = w := by
 have hX : (Tryz.prog.info? 134).map (·.size) = some 2 := by kernel_rfl
 obtain ⟨j, hj, _⟩ := Option.map_eq_some_iff.1 hX
 go_enter Tryz.func103, Tryz.ntmps103
 go_wp2
 rw [Lib.run_neq_ptr_same w _ Tryz.underlying132 hj]
 go_wp2
 go_end0
 exact ⟨rfl, rfl⟩
open Go.RowKit in
set_option maxHeartbeats 1000000 in
theorem cc_fresh (b : Nat) (w : World) (h0 : w.cell? ⟨b, 0, none⟩ = some (.pointer none)) (hsh : w.shape? b = some (134, 2)) (hfz : w.frozen? ⟨b, 0, none⟩ = false) :
  Calls Tryz.prog 103 #[.pointer (some ⟨b, 0, none⟩)] w fun e w' => e = .returned (.tuple #[]) ∧ w' = w.setCell ⟨b, 0, none⟩ (.pointer (some ⟨b, 0, none⟩)) := by
 have hX : (Tryz.prog.info? 134).map (·.size) = some 2 := by kernel_rfl
 have hY : liesAt Tryz.prog Tryz.prog.depth 134 (2 / Tryz.prog.cellsOf 134) 0 134 1 = true := by kernel_rfl
 obtain ⟨j, hj, hjs⟩ := Option.map_eq_some_iff.1 hX
 go_enter Tryz.func103, Tryz.ntmps103
 go_wp2
 rw [Lib.run_to_unsafe w ⟨b, 0, none⟩ Tryz.underlying132 Tryz.underlying229 hj (by rw [hjs]; decide) hsh (Nat.zero_lt_succ 1)]
 simp only [Result.andThen]
 rw [Oper.upon_value]
 go_wp2
 rw [run_callFunc_extern Tryz.func131 (by kernel_rfl) (by kernel_rfl) (by kernel_rfl) (e := Extern.AbiNoEscape.same) (by kernel_rfl)]
 rw [Lib.run_noEscape]
 simp only [Result.andThen]
 rw [Oper.upon_value]
 go_wp2
 rw [Lib.run_from_unsafe w ⟨b, 0, none⟩ Tryz.underlying229 Tryz.underlying132 hj hsh hY]
 simp only [Result.andThen]
 rw [Oper.upon_value]
 go_wp2
 go_end0
 exact ⟨rfl, rfl⟩
theorem bytesD_len : ∀ t : List UInt8, (bytesD t).length = t.length
 | [] => rfl
 | _ :: r => by simp [bytesD, bytesD_len r]
theorem bytesD_app : ∀ s t : List UInt8, bytesD (s ++ t) = bytesD s ++ bytesD t
 | [], _ => rfl
 | _ :: r, t => by simp [bytesD, bytesD_app r t]
theorem noMenO_set_gone {ob : Objs} (ids : Nat → Bool) (k : Nat) (h : noMenO ids ob = true) : noMenO ids (setO ob k .gone) = true := by
 induction ob with
 | nil => rfl
 | cons e r ih =>
  obtain ⟨j, o⟩ := e
  simp only [setO]
  split
  ·cases o <;> simp_all [noMenO]
  ·cases o <;> simp_all [noMenO]
section
variable {P : Prg} (hP : P.p = Tryz.prog)
include hP
theorem c_cc0 {ob : Objs} {x : Nat} (hx : lookO ob x = some (.box 134 (.d (.agg [.nilp, .nils])))) {K : Out → Objs → Prop} (h : K (.ret (.tup [])) (setO ob x (.box 134 (.agg [.ptr x [], .d .nils])))) : ACall P 103 [.ptr x []] ob K := by
 refine ⟨fun w ρ args ho hg hr => ?_⟩
 obtain ⟨b, cs, h1, h2, h3⟩ := ho.one x _ hx
 simp only [V.repC, D.rep, D.repL] at h3
 obtain ⟨c1, c2, rfl, rfl, c3, c4, rfl, rfl, rfl⟩ := h3
 simp only [V.reps, ↓reduceCtorEq, false_or] at hr
 obtain ⟨u, us, rfl, hu, rfl⟩ := hr
 have hu' : (V.ptr x []).rep w ρ u := hu.elim (fun h => .inr (.inl h)) (fun h => .inr (.inr h))
 obtain ⟨b', sh, g1, g2⟩ := rep_ptr_box ho hx hu'
 rw [h1] at g1; simp only [Option.some.injEq, RO.box.injEq] at g1
 obtain ⟨rfl, rfl⟩ := g1
 have hoff : Sh.off (V.d (.agg [.nilp, .nils])).shape [] = 0 := rfl
 rw [hoff] at g2; subst g2
 rw [hP]
 have hre : (V.agg [.ptr x [], .d .nils]).repC w ρ [.pointer (some ⟨b, 0, none⟩), .slice none 0 0] := by
  simp only [V.repC, V.repCs, D.rep]
  exact ⟨[_], [_], rfl, .inl ⟨b, _, h1, rfl⟩, [_], [], rfl, rfl, rfl⟩
 obtain ⟨t1, o1⟩ := write_box (t' := .agg [.ptr x [], .d .nils]) ho hx h1 h2 rfl hre
 refine (cc_fresh b w (by simp [World.cell?, h2]) (by simp [World.shape?, h2]) (by simp [World.frozen?, h2])).mono ?_
 rintro e w' ⟨rfl, rfl⟩
 have hw : w.setCell ⟨b, 0, none⟩ (.pointer (some ⟨b, 0, none⟩)) = w.setRow b [.pointer (some ⟨b, 0, none⟩), .slice none 0 0].toArray := by
  simp only [World.setCell, World.setRow]
  congr 1
  apply Array.ext_getElem?
  intro i
  simp only [Array.getElem?_modify]
  split
  ·rename_i e; subst e; rw [h2]; simp
  ·rfl
 rw [hw]
 exact ⟨_, _, ρ, h, rep_tup.2 ⟨[], rfl, rfl⟩, o1, t1⟩
theorem c_cc1 {ob : Objs} {x : Nat} {v : V} (hx : lookO ob x = some (.box 134 (.agg [.ptr x [], v]))) {K : Out → Objs → Prop} (h : K (.ret (.tup [])) ob) : ACall P 103 [.ptr x []] ob K := by
 refine ⟨fun w ρ args ho hg hr => ?_⟩
 obtain ⟨b, cs, h1, h2, h3⟩ := ho.one x _ hx
 simp only [V.repC, V.repCs] at h3
 obtain ⟨c1, c2, rfl, h3, _⟩ := h3
 rcases h3 with ⟨b', sh, h4, rfl⟩ | ⟨h4, _⟩
 ·rw [h1] at h4; simp only [Option.some.injEq, RO.box.injEq] at h4
  obtain ⟨rfl, rfl⟩ := h4
  simp only [V.reps, ↓reduceCtorEq, false_or] at hr
  obtain ⟨u, us, rfl, hu, rfl⟩ := hr
  have hu' : (V.ptr x []).rep w ρ u := hu.elim (fun h => .inr (.inl h)) (fun h => .inr (.inr h))
  obtain ⟨b', sh, g1, g2⟩ := rep_ptr_box ho hx hu'
  rw [h1] at g1; simp only [Option.some.injEq, RO.box.injEq] at g1
  obtain ⟨rfl, rfl⟩ := g1
  have hoff : Sh.off (V.agg [.ptr x [], v]).shape [] = 0 := rfl
  rw [hoff] at g2; subst g2
  rw [hP]
  refine (cc_used b w (by rw [hoff] at h2; simp [World.cell?, h2])).mono ?_
  rintro e w' ⟨rfl, rfl⟩
  exact ⟨_, _, ρ, h, rep_tup.2 ⟨[], rfl, rfl⟩, ho, .refl _ _⟩
 ·rw [h1] at h4; cases h4
theorem c_wb {ob : Objs} {x y : Nat} {c : Int} {l : List D} (hx : lookO ob x = some (.box 134 (.agg [.ptr x [], .sl y l.length]))) (hy : lookO ob y = some (.arr 5 1 l)) (hl : l.length ≤ 100000000) {K : Out → Objs → Prop} (h : K (.ret (.d .nili)) (setO (setO ob y (.arr 5 1 (l ++ [.int .u8 c]))) x (.box 134 (.agg [.ptr x [], .sl y (l.length + 1)])))) : ACall P 51 [.ptr x [], .d (.int .u8 c)] ob K := by
 have hxy : (y == x) = false := by rw [beq_eq_false_iff_ne]; intro e; subst e; rw [hx] at hy; cases hy
 have hyx : (x == y) = false := by rw [beq_eq_false_iff_ne]; intro e; subst e; rw [hx] at hy; cases hy
 refine acall_lift hP mixed ok51 lf51 TOk.nil ?_
 intro _ hm
 simp [Et51, hx]
 refine c_cc1 hP hx ?_
 simp [hx, hy, hxy, hyx]
 refine ⟨by omega, [], by simp, ?_, ?_⟩
 ·simp
  exact noMenO_set_box _ _ _ _ _ (noMenO_set_arr _ _ _ _ _ _ (hm _)) (by simp [hx, hy])
 ·simpa using h
theorem c_ws {ob : Objs} {x y : Nat} {t : List UInt8} {l : List D} (hx : lookO ob x = some (.box 134 (.agg [.ptr x [], .sl y l.length]))) (hy : lookO ob y = some (.arr 5 1 l)) (hl : l.length + t.length ≤ 100000000) {K : Out → Objs → Prop} (h : K (.ret (.tup [.d (.int .i64 t.length), .d .nili])) (setO (setO ob y (.arr 5 1 (l ++ bytesD t))) x (.box 134 (.agg [.ptr x [], .sl y (l.length + t.length)])))) : ACall P 52 [.ptr x [], .d (.str t)] ob K := by
 have hxy : (y == x) = false := by rw [beq_eq_false_iff_ne]; intro e; subst e; rw [hx] at hy; cases hy
 have hyx : (x == y) = false := by rw [beq_eq_false_iff_ne]; intro e; subst e; rw [hx] at hy; cases hy
 refine acall_lift hP mixed ok52 lf52 TOk.nil ?_
 intro _ hm
 simp [Et52, hx]
 refine c_cc1 hP hx ?_
 simp [hx, hy, hxy, hyx, bytesD_len]
 refine ⟨by omega, [], by simp, ?_, ?_⟩
 ·simp
  exact noMenO_set_box _ _ _ _ _ (noMenO_set_arr _ _ _ _ _ _ (hm _)) (by simp [hx, hy])
 ·simpa using h
theorem c_ws0 {ob : Objs} {x : Nat} {t : List UInt8} (hx : lookO ob x = some (.box 134 (.d (.agg [.nilp, .nils])))) (hl : t.length ≤ 100000000) {K : Out → Objs → Prop} (h : K (.ret (.tup [.d (.int .i64 t.length), .d .nili])) ((fresh ob, .arr 5 1 (bytesD t)) :: (setO ob x (.box 134 (.agg [.ptr x [], .sl (fresh ob) t.length]))))) : ACall P 52 [.ptr x [], .d (.str t)] ob K := by
 refine acall_lift hP mixed ok52 lf52 TOk.nil ?_
 intro _ hm
 simp [Et52, hx]
 refine c_cc0 hP hx ?_
 simp [hx, bytesD_len]
 have hy : young (fresh ob) [fresh ob] (fresh ob) = false := by simp [young]
 refine ⟨by omega, [fresh ob], by simp, ?_, ?_⟩
 ·simp [hy]
  exact noMenO_set_box _ _ _ _ _ (hm _) (by simp [hx, hy])
 ·simpa [hy] using h
theorem c_bs0 {ob : Objs} {x : Nat} (hx : lookO ob x = some (.box 134 (.d (.agg [.nilp, .nils])))) {K : Out → Objs → Prop} (h : K (.ret (.d (.str []))) ob) : ACall P 54 [.ptr x []] ob K := by
 refine acall_lift hP mixed ok54 lf54 TOk.nil ?_
 intro _ hm
 simp [Et54, hx]
 refine ⟨[], by simp, ?_, ?_⟩
 ·simp [hm]
 ·simpa using h
theorem c_bs {ob : Objs} {x y : Nat} {t : List UInt8} (hx : lookO ob x = some (.box 134 (.agg [.ptr x [], .sl y t.length]))) (hy : lookO ob y = some (.arr 5 1 (bytesD t))) (h0 : t ≠ []) (hl : t.length ≤ 100000000) {K : Out → Objs → Prop} (h : K (.ret (.d (.str t))) (setO ob y .gone)) : ACall P 54 [.ptr x []] ob K := by
 refine acall_lift hP mixed ok54 lf54 TOk.nil ?_
 intro _ hm
 have hb : bytesD t ≠ [] := by cases t with
  | nil => exact (h0 rfl).elim
  | cons c r => simp [bytesD]
 simp [Et54, hx, hy, bytesD_len, hb]
 have e1 : ∃ E z xs, (5 = E ∧ 1 = z ∧ bytesD t = xs) ∧ t.length = xs.length := ⟨_, _, _, ⟨rfl, rfl, rfl⟩, (bytesD_len t).symm⟩
 have e2 : ∃ E sz xs, (5 = E ∧ 1 = sz ∧ bytesD t = xs) ∧ ¬sz = 0 ∧ t.length = xs.length ∧ ¬xs = [] := ⟨_, _, _, ⟨rfl, rfl, rfl⟩, by decide, (bytesD_len t).symm, hb⟩
 first | refine ⟨e1, e2, e1, e2, by omega, t, rfl, [], by simp, ?_, ?_⟩ | refine ⟨e2, by omega, t, rfl, [], by simp, ?_, ?_⟩
 ·simp
  exact noMenO_set_gone _ _ (hm _)
 ·simpa using h
end
end Go.Proofs.YtmapdjjigmkbfaaGreatDoor
/- Laid by the kit's lay-shelf.mjs and lay-plain.mjs (a tool's print), cut down by shl.py. -/
namespace Go.Proofs
open Go.Shelf
def Tryz.laysM171_ren : Go.Shelf.Ren := ⟨fun | 171 => 53 | 243 => 104 | 246 => 132 | 283 => 143 | 284 => 144 | 285 => 145 | 286 => 146 | 129 => 162 | 317 => 161 | 318 => 163 | 319 => 164 | 320 => 165 | 337 => 174 | 338 => 175 | n => n, fun | 3 => 3 | 9 => 9 | 2 => 2 | 4 => 4 | 171 => 247 | 0 => 0 | 53 => 236 | 37 => 80 | 5 => 5 | 173 => 250 | 212 => 260 | 51 => 200 | 20 => 20 | 213 => 261 | 46 => 239 | 232 => 75 | 233 => 235 | n => n, fun | 17 => 2 | 18 => 3 | 19 => 4 | n => n⟩
theorem Tryz.laysM171 : Go.Proofs.LaysM.n171 Tryz.prog Tryz.laysM171_ren := {
 mixed := by kernel_rfl
 f129 := Tryz.func162.trans (congrArg some (by kernel_rfl))
 f171 := Tryz.func53.trans (congrArg some (by kernel_rfl))
 f243 := Tryz.func104.trans (congrArg some (by kernel_rfl))
 f246 := Tryz.func132.trans (congrArg some (by kernel_rfl))
 f283 := Tryz.func143.trans (congrArg some (by kernel_rfl))
 f284 := Tryz.func144.trans (congrArg some (by kernel_rfl))
 f285 := Tryz.func145.trans (congrArg some (by kernel_rfl))
 f286 := Tryz.func146.trans (congrArg some (by kernel_rfl))
 f317 := Tryz.func161.trans (congrArg some (by kernel_rfl))
 f318 := Tryz.func163.trans (congrArg some (by kernel_rfl))
 f319 := Tryz.func164.trans (congrArg some (by kernel_rfl))
 f320 := Tryz.func165.trans (congrArg some (by kernel_rfl))
 f337 := Tryz.func174.trans (congrArg some (by kernel_rfl))
 f338 := Tryz.func175.trans (congrArg some (by kernel_rfl))
 t0 := Tryz.underlying0
 a0 := Tryz.isAgg0
 z0 := Tryz.sizeOf0
 v0 := Tryz.zeroValue0
 t2 := Tryz.underlying2
 a2 := Tryz.isAgg2
 z2 := Tryz.sizeOf2
 v2 := Tryz.zeroValue2
 t3 := Tryz.underlying3
 a3 := Tryz.isAgg3
 z3 := Tryz.sizeOf3
 v3 := Tryz.zeroValue3
 t4 := Tryz.underlying4
 a4 := Tryz.isAgg4
 z4 := Tryz.sizeOf4
 v4 := Tryz.zeroValue4
 t5 := Tryz.underlying5
 a5 := Tryz.isAgg5
 z5 := Tryz.sizeOf5
 v5 := Tryz.zeroValue5
 t9 := Tryz.underlying9
 a9 := Tryz.isAgg9
 z9 := Tryz.sizeOf9
 v9 := Tryz.zeroValue9
 t20 := Tryz.underlying20
 a20 := Tryz.isAgg20
 z20 := Tryz.sizeOf20
 v20 := Tryz.zeroValue20
 t37 := Tryz.underlying80
 a37 := Tryz.isAgg80
 z37 := Tryz.sizeOf80
 v37 := Tryz.zeroValue80
 t46 := Tryz.underlying239
 a46 := Tryz.isAgg239
 z46 := Tryz.sizeOf239
 v46 := Tryz.zeroValue239
 t51 := Tryz.underlying200
 a51 := Tryz.isAgg200
 z51 := Tryz.sizeOf200
 v51 := Tryz.zeroValue200
 t53 := Tryz.underlying236
 a53 := Tryz.isAgg236
 z53 := Tryz.sizeOf236
 v53 := Tryz.zeroValue236
 t171 := Tryz.underlying247
 a171 := Tryz.isAgg247
 z171 := Tryz.sizeOf247
 v171 := Tryz.zeroValue247
 t173 := Tryz.underlying250
 a173 := Tryz.isAgg250
 z173 := Tryz.sizeOf250
 v173 := Tryz.zeroValue250
 t212 := Tryz.underlying260
 a212 := Tryz.isAgg260
 z212 := Tryz.sizeOf260
 v212 := Tryz.zeroValue260
 t213 := Tryz.underlying261
 a213 := Tryz.isAgg261
 z213 := Tryz.sizeOf261
 t232 := Tryz.underlying75
 a232 := Tryz.isAgg75
 z232 := Tryz.sizeOf75
 v232 := Tryz.zeroValue75
 t233 := Tryz.underlying235
 a233 := Tryz.isAgg235
 z233 := Tryz.sizeOf235
 v233 := Tryz.zeroValue235
 g17 := by kernel_rfl
 g18 := by kernel_rfl
 g19 := by kernel_rfl
 i0 := by kernel_rfl
 i2 := by kernel_rfl
 i3 := by kernel_rfl
 i4 := by kernel_rfl
 i5 := by kernel_rfl
 i9 := by kernel_rfl
 i20 := by kernel_rfl
 i37 := by kernel_rfl
 i46 := by kernel_rfl
 i51 := by kernel_rfl
 i53 := by kernel_rfl
 i171 := by kernel_rfl
 i173 := by kernel_rfl
 i212 := by kernel_rfl
 i232 := by kernel_rfl
 i233 := by kernel_rfl
 m17 := by kernel_rfl
 m18 := by kernel_rfl
 m19 := by kernel_rfl }
open Go.RowKit Go.Sort Go.Lib in
theorem Tryz.strconv_Itoa (n : Int) (h0 : -9223372036854775808 ≤ n) (h1 : n ≤ 9223372036854775807) (w : World) (htab : Lib.TabIs Tryz.prog w "internal/strconv.uint64pow10" .u64 Lib.pow10Tab) :
  Calls Tryz.prog 53 #[.int .i64 n] w fun e w' => e = .returned (.string ⟨(Lib.itoa n).toArray⟩) ∧ ∃ k os, w' = grow (w.drewN k) os := Any.strconv_Itoa Tryz.laysM171 n h0 h1 w htab
def Tryz.lays144_ren : Go.Shelf.Ren := ⟨fun | 144 => 102 | 143 => 130 | 219 => 142 | 217 => 157 | 225 => 158 | 224 => 159 | 267 => 160 | 266 => 172 | 314 => 173 | n => n, fun | 9 => 9 | 4 => 4 | 3 => 3 | 5 => 5 | 46 => 239 | 146 => 270 | 51 => 200 | n => n, fun | 1 => 1 | n => n⟩
theorem Tryz.lays144 : Go.Proofs.Lays.n144 Tryz.prog Tryz.lays144_ren := {
 mixed := by kernel_rfl
 f143 := Tryz.func130.trans (congrArg some (by kernel_rfl))
 f144 := Tryz.func102.trans (congrArg some (by kernel_rfl))
 f217 := Tryz.func157.trans (congrArg some (by kernel_rfl))
 f219 := Tryz.func142.trans (congrArg some (by kernel_rfl))
 f224 := Tryz.func159.trans (congrArg some (by kernel_rfl))
 f225 := Tryz.func158.trans (congrArg some (by kernel_rfl))
 f266 := Tryz.func172.trans (congrArg some (by kernel_rfl))
 f267 := Tryz.func160.trans (congrArg some (by kernel_rfl))
 f314 := Tryz.func173.trans (congrArg some (by kernel_rfl))
 t3 := Tryz.underlying3
 a3 := Tryz.isAgg3
 z3 := Tryz.sizeOf3
 v3 := Tryz.zeroValue3
 t4 := Tryz.underlying4
 a4 := Tryz.isAgg4
 z4 := Tryz.sizeOf4
 v4 := Tryz.zeroValue4
 t5 := Tryz.underlying5
 a5 := Tryz.isAgg5
 z5 := Tryz.sizeOf5
 v5 := Tryz.zeroValue5
 t9 := Tryz.underlying9
 a9 := Tryz.isAgg9
 z9 := Tryz.sizeOf9
 v9 := Tryz.zeroValue9
 t46 := Tryz.underlying239
 a46 := Tryz.isAgg239
 z46 := Tryz.sizeOf239
 v46 := Tryz.zeroValue239
 t51 := Tryz.underlying200
 a51 := Tryz.isAgg200
 z51 := Tryz.sizeOf200
 v51 := Tryz.zeroValue200
 t146 := Tryz.underlying270
 a146 := Tryz.isAgg270
 z146 := Tryz.sizeOf270
 v146 := Tryz.zeroValue270
 g1 := by kernel_rfl }
open Go.RowKit Go.Lib in
theorem Tryz.strings_Contains_one (s : ByteArray) (c : UInt8) (w : World) :
  Calls Tryz.prog 102 #[.string s, .string ⟨#[c]⟩] w fun e w' => e = .returned (.bool (decide (0 ≤ Lib.indexByte s.data.toList c))) ∧ w' = w := Any.strings_Contains_one Tryz.lays144 s c w
end Go.Proofs
/- Contracts: strings.Contains at one byte, strconv.Itoa, which tokens are valid, decimal digits. Condition: the program is the seat's; the powers of ten are laid. -/
namespace Go.Lx
open Go Go.Ab
def hasB (s : List UInt8) (c : UInt8) : Bool := s.any fun b => b == c
def fnC : Ab.Fn := ⟨fun vs => match vs with | [.d (.str _), .d (.str t)] => t.length = 1 | _ => False, fun vs => match vs with | [.d (.str s), .d (.str t)] => .d (.bool (hasB s (t.headD 0))) | _ => .any⟩
@[simp] theorem fnC_pre (s t : List UInt8) : fnC.pre [.d (.str s), .d (.str t)] = (t.length = 1) := by simp only [fnC]
@[simp] theorem fnC_val (s t : List UInt8) : fnC.val [.d (.str s), .d (.str t)] = .d (.bool (hasB s (t.headD 0))) := by simp only [fnC]
def validB (t : Tok) : Bool :=
 if t.kind = 1 then nameB t.text && decide (t.n = 0)
 else if t.kind = 2 then decide (t.text = []) && decide (0 ≤ t.n) && decide (t.n ≤ 1099511627776)
 else if t.kind = 3 then decide (t.text.length = 1) && signB (t.text.headD 0) && decide (t.n = 0)
 else false
def Pow (P : Prg) : Prop := ∃ T f, P.g 2 = some (.cells (Lib.pow10Tab.map fun z => Value.int .u64 z).toArray T f)
theorem ext_grow (w : World) (k : Nat) (os : Array Obj) : Ext w (Go.Sort.grow (w.drewN k) os) := by
 refine ⟨by simp [Go.Sort.grow], fun b hb => ?_, rfl, rfl, rfl⟩
 simp [Go.Sort.grow, Array.getElem?_append, hb]
theorem any_index (s : List UInt8) (c : UInt8) : decide (0 ≤ Lib.indexByte s c) = hasB s c := by
 unfold hasB
 induction s with
 | nil => rfl
 | cons b r ih =>
  have hg := Lib.indexByte_ge r c
  simp only [Lib.indexByte, List.any_cons, ← ih]
  by_cases h : b == c
  ·simp [h]
  ·simp only [h]
   by_cases h2 : Lib.indexByte r c = -1
   ·simp [h2]
   ·have h3 : (Lib.indexByte r c == -1) = false := by simp [h2]
    simp only [h3, Bool.false_or]
    have : 0 ≤ Lib.indexByte r c := by omega
    simp [this]; omega
theorem hasB_signs (c : UInt8) : hasB [123, 125, 40, 41, 59, 44, 61, 35, 47, 60, 33, 45, 46, 58, 43] c = signB c := by
 unfold hasB signB signI signs
 congr 1
 funext b
 rw [Bool.eq_iff_iff]
 simp only [beq_iff_eq, decide_eq_true_eq, Int.natCast_inj]
 constructor
 ·intro h; rw [h]
 ·intro h; exact UInt8.toNat_inj.1 h
theorem len1 (s : List UInt8) : decide ((s.length : Int) = 1) = decide (s.length = 1) := by
 rw [Bool.eq_iff_iff]; simp only [decide_eq_true_eq]; omega
theorem head0 (s : List UInt8) : s[0]? = s.head? := by cases s <;> rfl
end Go.Lx
namespace Go.Proofs.YtmapdjjigmkbfaaGreatDoor
open Go Go.Ab Go.Lx
set_option maxRecDepth 100000
section
variable {P : Prg} (hP : P.p = Tryz.prog)
include hP
theorem c_Contains : PFn P 102 fnC := by
 intro vs hp ob K hK
 simp only [fnC] at hp hK
 split at hp
 ·rename_i s t
  simp only at hK
  match t, hp with
  | [c], _ =>
   refine ⟨fun w ρ args ho hg hr => ?_⟩
   simp only [V.reps, ↓reduceCtorEq, false_or, V.isAgg, Bool.false_eq_true, false_and, V.repC, D.rep, true_and, List.cons.injEq, and_true] at hr
   obtain ⟨u, us, rfl, hu, u2, us2, rfl, hu2, rfl⟩ := hr
   subst hu; subst hu2
   rw [hP]
   refine (Tryz.strings_Contains_one ⟨s.toArray⟩ c w).mono ?_
   rintro e w' ⟨rfl, rfl⟩
   refine ⟨_, _, hK, rfl, ?_, Ext.refl w'⟩
   rw [rep_bool, any_index]
   rfl
 ·exact hp.elim
theorem c_Itoa (hT : Pow P) (n : Int) (h0 : 0 ≤ n) (h1 : n ≤ 9223372036854775807) {ob : Objs} {K : V → Prop} (h : K (.d (.str (Lib.itoa n)))) : PCall P 53 [.d (.int .i64 n)] ob K := by
 refine ⟨fun w ρ args ho hg hr => ?_⟩
 simp only [V.reps, ↓reduceCtorEq, false_or, V.isAgg, Bool.false_eq_true, false_and, V.repC, D.rep, true_and, List.cons.injEq, and_true] at hr
 obtain ⟨u, us, rfl, hu, rfl⟩ := hr
 subst hu
 rw [hP]
 obtain ⟨T, f, hT⟩ := hT
 have hb := (ho.glb 2 _ (by rw [hg, hT])).1
 have htab : Lib.TabIs Tryz.prog w "internal/strconv.uint64pow10" .u64 Lib.pow10Tab := by
  have hn : Tryz.prog.globalNamed "internal/strconv.uint64pow10" = some 2 := by kernel_rfl
  simp only [Lib.TabIs, World.var?, hn, Option.bind_some, hb]
 refine (Tryz.strconv_Itoa n (by omega) h1 w htab).mono ?_
 rintro e w' ⟨rfl, k, os, rfl⟩
 exact ⟨_, _, h, rfl, rep_str.2 rfl, ext_grow w k os⟩
theorem c_valid (t : Tok) {ob : Objs} {K : V → Prop} (h : K (.d (.bool (validB t)))) : PCall P 50 [.d t.enc] ob K := by
 refine pcall_lift hP mixed (ds := [t.enc]) ok50 lf50 (TOk.cons (c_Name hP) (TOk.cons (c_Contains hP) TOk.nil)) ?_
 have h' : ∀ x, x = validB t → K (.d (.bool x)) := fun b e => e ▸ h
 clear h
 obtain ⟨k, s, n, i⟩ := t
 simp [Et50, Tok.enc, hasB_signs]
 refine ⟨fun h1 => h' _ ?_, fun h1 => ⟨fun h2 => h' _ ?_, fun h2 => ⟨fun h3 => ⟨fun h4 => by omega, h' _ ?_⟩, fun h3 => h' _ ?_⟩⟩⟩
 ·subst h1; simp [validB, Bool.beq_eq_decide_eq]
 ·subst h2; simp [validB]
 ·subst h3; simp [validB, Bool.beq_eq_decide_eq, len1, signB, head0]
 ·simp [validB, h1, h2, h3]
end
end Go.Proofs.YtmapdjjigmkbfaaGreatDoor
/- Plain facts on decimal digits and equal tokens. No program. -/
namespace Go.Lx
open Go Go.Ab
def X4g (n : Nat) : UInt8 := UInt8.ofNat (48 + n % 10)
theorem X7 (n : Nat) : Lib.decDigits n = (if n < 10 then [] else Lib.decDigits (n / 10)) ++ [X4g n] := by
 rw [Lib.decDigits]
 split
 ·rename_i h; simp [X4g, Nat.mod_eq_of_lt h]
 ·simp [X4g]
theorem Xdn (n : Nat) : (X4g n).toNat = 48 + n % 10 := by
 have : n % 10 < 10 := Nat.mod_lt _ (by decide)
 simp [X4g, UInt8.toNat_ofNat']; omega
theorem Xkk (n : Nat) : Lib.itoa n = Lib.decDigits n := by
 unfold Lib.itoa; rw [if_neg (by omega)]; rfl
end Go.Lx
/- Plain facts on the text of tokens. No program. -/
namespace Go.Lx
open Go Go.Ab
def V7 (t : Tok) : List UInt8 := if t.kind = 2 then Lib.itoa t.n else t.text
def Yq : List Tok → List UInt8
 | [] => []
 | [t] => V7 t
 | t :: r => V7 t ++ 32 :: Yq r
def Xew (l : List Tok) : V := if l.all validB then .tup [.d (.str (Yq l)), .d (.int .i64 0)] else .tup [.d (.str []), .d (.int .i64 90)]
theorem Xcn : ∀ (l : List Tok) (t : Tok), Yq (l ++ [t]) = if l = [] then V7 t else Yq l ++ 32 :: V7 t
 | [], t => rfl
 | [a], t => by simp [Yq]
 | a :: b :: r, t => by
  have h := Xcn (b :: r) t
  simp only [List.cons_append, Yq] at h ⊢
  rw [h]; simp
theorem Wt (n : Nat) : (Lib.decDigits n).length ≤ n + 1 ∧ Lib.decDigits n ≠ [] := by
 refine ⟨?_, by rw [X7]; simp⟩
 induction n using Nat.strongRecOn with
 | ind n ih =>
  rw [X7]
  split
  ·simp
  ·have := ih (n / 10) (by omega)
   simp; omega
theorem Xcd : ∀ (k n : Nat), n < 10 ^ (k + 1) → (Lib.decDigits n).length ≤ k + 1
 | 0, n, h => by rw [X7, if_pos (by omega)]; simp
 | k + 1, n, h => by
  rw [X7]
  split
  ·simp
  ·have := Xcd k (n / 10) (by rw [Nat.pow_succ] at h; omega)
   simp; omega
theorem Xbm {t : Tok} (h : validB t = true) : V7 t ≠ [] ∧ (V7 t).length ≤ 32 := by
 unfold validB at h
 unfold V7
 split at h
 ·rename_i e
  rw [if_neg (by omega)]
  simp [nameB] at h
  refine ⟨fun e => ?_, by omega⟩
  simp [e] at h
 ·split at h
  ·rename_i e
   rw [if_pos e]
   simp at h
   obtain ⟨N, hN⟩ := Int.eq_ofNat_of_zero_le h.1.2
   rw [hN, Xkk]
   exact ⟨(Wt N).2, Nat.le_trans (Xcd 12 N (by omega)) (by decide)⟩
  ·rename_i e
   rw [if_neg e]
   split at h
   ·simp at h
    refine ⟨fun e => ?_, by omega⟩
    simp [e] at h
   ·cases h
theorem U0 : ∀ (l : List Tok), (∀ t ∈ l, validB t = true) → (Yq l).length ≤ 33 * l.length
 | [], _ => by simp [Yq]
 | [t], h => by have := Xbm (h t (by simp)); simp [Yq]; omega
 | a :: b :: r, h => by
  have h1 := Xbm (h a (by simp))
  have h2 := U0 (b :: r) (fun t ht => h t (by simp [ht]))
  simp only [Yq, List.length_append, List.length_cons] at h2 ⊢
  omega
theorem Xu7 {l : List Tok} (h : ∀ t ∈ l, validB t = true) (h0 : l ≠ []) : Yq l ≠ [] := by
 match l, h0 with
 | [t], _ => exact (Xbm (h t (by simp))).1
 | a :: b :: r, _ => simp [Yq]
theorem Xg3 {l : List Tok} {k : Nat} (hk : k < l.length) : l.take (k + 1) = l.take k ++ [l[k]] := (List.take_append_getElem hk).symm
end Go.Lx
/- Plain laws of the lexer: shifting, joining. No program. -/
namespace Go.Lx
open Go Go.Ab
theorem Xpk {c : UInt8} {r : List UInt8} {n off : Nat} (h : stp c r = .skip n) : Qu (c :: r) off = Qu (r.drop n) (off + n + 1) := by
 rw [Qu, h]
theorem Xkr {c : UInt8} {r : List UInt8} {k m : Int} {t : List UInt8} {n off : Nat} (h : stp c r = .tok k t m n) : Qu (c :: r) off = Xyj ⟨k, t, m, off⟩ (Qu (r.drop n) (off + n + 1)) := by
 rw [Qu, h]
theorem Xf5 (off : Nat) : Qu [] off = .ok [] := by rw [Qu]
theorem We (p : UInt8 → Bool) {z : UInt8} (hz : p z = false) : ∀ (r b : List UInt8), (r ++ z :: b).takeWhile p = r.takeWhile p
 | [], b => by simp [List.takeWhile, hz]
 | c :: r, b => by
  simp only [List.cons_append, List.takeWhile_cons, We p hz r b]
theorem Jn (p : UInt8 → Bool) : ∀ (r x : List UInt8), (r.takeWhile p).length < r.length → (r ++ x).takeWhile p = r.takeWhile p
 | [], x, h => by simp at h
 | c :: r, x, h => by
  simp only [List.cons_append, List.takeWhile_cons] at h ⊢
  split
  ·rename_i hc
   rw [hc] at h
   simp at h
   rw [Jn p r x h]
  ·rfl
def X9j (c : UInt8) (r : List UInt8) : Prop := c = 47 ∧ r.head? = some 47
theorem X71 {c : UInt8} {r more : List UInt8} (h : (r.takeWhile V3).length < r.length ∨ ¬ X9j c r) : stp c (r ++ 32 :: more) = stp c r := by
 have h1 : (r ++ 32 :: more).takeWhile Y4 = r.takeWhile Y4 := We _ (by decide) r more
 have h2 : (r ++ 32 :: more).takeWhile Xw = r.takeWhile Xw := We _ (by decide) r more
 have h4 : ((r ++ 32 :: more).head? = some 47) = (r.head? = some 47) := by cases r <;> simp
 unfold stp
 rw [h1, h2]
 simp only [h4]
 rcases h with h | h
 ·rw [Jn _ _ _ h]
 ·have hf : ¬ (c = 47 ∧ r.head? = some 47) := h
  simp only [if_neg hf]
end Go.Lx
/- Plain laws of the lexer: places, names. No program. -/
namespace Go.Lx
open Go Go.Ab
theorem W7 {p : UInt8 → Bool} : ∀ {r : List UInt8}, (∀ x ∈ r, p x = true) → r.takeWhile p = r
 | [], _ => rfl
 | c :: r, h => by
  rw [List.takeWhile_cons, if_pos (h c (by simp)), W7 (fun x hx => h x (by simp [hx]))]
theorem Xv6 {c : UInt8} {r : List UInt8} (hc : Yv c = true) (hr : ∀ x ∈ r, Y4 x = true) (hl : r.length + 1 ≤ 32) : stp c r = .tok 1 (c :: r) 0 r.length := by
 have h1 : r.takeWhile Y4 = r := by
  exact W7 hr
 have h2 : Vq c = false := by
  simp only [Yv, Vq, Za, Xc5, decide_eq_true_eq, decide_eq_false_iff_not] at hc ⊢; omega
 have h3 : ¬ (c = 47 ∧ r.head? = some 47) := by
  rintro ⟨rfl, _⟩; revert hc; decide
 unfold stp
 rw [h2, if_neg (by simp), if_neg h3, if_pos hc, h1, if_pos hl]
theorem Xqk {s : List UInt8} : nameB s = true ↔ ∃ c r, s = c :: r ∧ Yv c = true ∧ (∀ x ∈ r, Y4 x = true) ∧ r.length + 1 ≤ 32 := by
 cases s with
 | nil => simp [nameB]
 | cons c r =>
  have hp : Yv c = true → Y4 c = true := by
   intro h; simp only [Yv, Y4, Xgk] at h ⊢; simp [h]
  simp only [nameB, List.length_cons, List.getD_cons_zero, Bool.and_eq_true, decide_eq_true_eq, List.all_cons, List.all_eq_true, List.cons.injEq, Yv] at *
  constructor
  ·rintro ⟨⟨⟨_, h1⟩, h2⟩, h3, h4⟩
   exact ⟨c, r, ⟨rfl, rfl⟩, h2, h4, h1⟩
  ·rintro ⟨c', r', ⟨rfl, rfl⟩, h2, h4, h1⟩
   exact ⟨⟨⟨by omega, h1⟩, h2⟩, hp h2, h4⟩
end Go.Lx
/- The parser of questions as a plain function of tokens; what is printed is parsed back. No program. -/
namespace Go.Sx
open Go Go.Ab Go.Lx
abbrev X3s : B := [97, 115, 107]
abbrev X3t : B := [102, 111, 114]
abbrev Xb4 : B := [102, 114, 111, 109]
abbrev Xlm : B := [111, 116, 104, 101, 114]
abbrev Yjk : B := [97, 108, 108]
abbrev Yjl : B := [97, 110, 121]
abbrev X78 : B := [108, 101, 97, 115, 116]
abbrev Yjm : B := [104, 97, 115]
def Xtu (ts : List Tok) : Bool := X3 3 [46] ts.tail
def X7g : M RTerm := do let a ← Xby; V6 [46]; let b ← Xby; pure ⟨a, b, 0, 0, 0⟩
def X6g : M Int := do let t ← Jw 2 []; pure t.n
def Xr3 : M RTerm := ifM (X3 2 []) (do let n ← X6g; pure ⟨[], [], -1, 0, n⟩) X7g
def opQ : M Int := do
 let b ← X5 3 [61]
 if b then pure 1 else do
  let b ← X5 3 [60]
  if b then do
   let b ← X5 3 [61]
   pure (if b then 3 else 2)
  else do V6 [33]; V6 [61]; pure 4
def Xsw : M RForm := do let a ← Xr3; let o ← opQ; let b ← Xr3; pure (.mk 5 0 [] ⟨o, a, b⟩)
def Ycm : M RForm := do let a ← Xby; pure (.mk 4 0 [] ⟨0, ⟨a, [], 0, 0, 0⟩, Xr2⟩)
def Xg1 {α : Type} (m : M α) : M α := fun ts => m ts.tail
def Xjh (ts : List Tok) : Bool := X3 1 [] ts && !Xtu ts
def Jc (w : B) (ts : List Tok) : Bool := decide ((ts.headD default).text = w)
mutual
def Xfr : Nat → M RForm
 | 0 => X9n 0
 | n + 1 => ifM Xjh
  (ifM (Jc Yjk) (Xg1 do V6 [123]; let l ← Xia n; pure (.mk 1 0 l Xe9))
  (ifM (Jc Yjl) (Xg1 do V6 [123]; let l ← Xia n; pure (.mk 2 0 l Xe9))
  (ifM (Jc X78) (Xg1 do let k ← X6g; V6 [123]; let l ← Xia n; pure (.mk 3 k l Xe9))
  (ifM (Jc Yjm) (Xg1 Ycm) Xsw)))) Xsw
def Xia : Nat → M (List RForm)
 | 0 => X9n 0
 | n + 1 => do
  let b ← X5 3 [125]
  if b then pure [] else do
   let f ← Xfr n
   V6 [59]
   let l ← Xia n
   pure (f :: l)
end
def Xbt (ts : List Tok) : Bool := X3 1 Xb4 ts && !Xtu ts
def Ygr : M RVar := do Xsa Xb4; let a ← Xby; let b ← Xby; let c ← X5 1 Xlm; V6 [59]; pure ⟨a, b, 0, c⟩
def Xr7 : Nat → M (List RVar)
 | 0 => X9n 0
 | n + 1 => ifM Xbt (do let v ← Ygr; let l ← Xr7 n; pure (v :: l)) (pure [])
def Ycg : M Unit := fun ts => if ts = [] then .ok () [] else .err ts 100
def Xxx (n : Nat) : M (RQ × B) := do
 Xsa X3s
 let a ← Xby
 Xsa X3t
 let p ← Xby
 V6 [123]
 let vs ← Xr7 n
 let f ← Xfr n
 V6 [59]
 V6 [125]
 Ycg
 pure (⟨a, 0, vs, f⟩, p)
def fieldsOf (y : RSrc) (v : RVar) : List RField := match y.schemas[v.schema.toNat]? with | some c => c.fields | none => []
def X3p (y : RSrc) (vs : List RVar) (t : RTerm) : Option RTerm :=
 if t.name = [] then some t else
  match vs[(Xn RVar.name vs t.name 0).toNat]? with
  | none => none
  | some v => if Xn RVar.name vs t.name 0 < 0 ∨ Xn RField.name (fieldsOf y v) t.path 0 < 0 then none
   else some ⟨t.name, t.path, Xn RVar.name vs t.name 0, Xn RField.name (fieldsOf y v) t.path 0, t.n⟩
mutual
def X25 (y : RSrc) (vs : List RVar) : RForm → Option RForm
 | .mk op n k a =>
  if op = 4 then (if Xn RVar.name vs a.a.name 0 < 0 then none else some (.mk 4 (Xn RVar.name vs a.a.name 0) k Xe9))
  else if op = 5 then (match X3p y vs a.a, X3p y vs a.b with
   | some x, some z => some (.mk 5 n k ⟨a.op, x, z⟩)
   | _, _ => none)
  else (match X7k y vs k with
   | some l => some (.mk op n l a)
   | none => none)
def X7k (y : RSrc) (vs : List RVar) : List RForm → Option (List RForm)
 | [] => some []
 | f :: r => match X25 y vs f, X7k y vs r with
  | some g, some l => some (g :: l)
  | _, _ => none
end
def Ug (t : RTerm) : RTerm := if t.name = [] then ⟨[], [], -1, 0, t.n⟩ else ⟨t.name, t.path, 0, 0, 0⟩
mutual
def RForm.strip (vs : List RVar) : RForm → RForm
 | .mk op n k a =>
  if op = 4 then .mk 4 0 [] ⟨0, ⟨X3c vs n, [], 0, 0, 0⟩, Xr2⟩
  else if op = 5 then .mk 5 0 [] ⟨a.op, Ug a.a, Ug a.b⟩
  else if op = 3 then .mk 3 n (RForm.stripL vs k) Xe9
  else .mk op 0 (RForm.stripL vs k) Xe9
def RForm.stripL (vs : List RVar) : List RForm → List RForm
 | [] => []
 | f :: r => f.strip vs :: RForm.stripL vs r
end
def Xbk (v : RVar) : List Tok := nmT Xb4 :: nmT v.name :: nmT v.kind :: ((if v.other then [nmT Xlm] else []) ++ [sgT [59]])
def U8 (q : RQ) (p : B) : List Tok := nmT X3s :: nmT q.name :: nmT X3t :: nmT p :: sgT [123] :: (q.vars.flatMap Xbk ++ (Yp q.vars q.form ++ [sgT [59], sgT [125]]))
@[simp] theorem k_name (s : B) (p : List Tok) : Xby (nmT s :: p) = .ok s p := by simp [Xby, X8, Jw, X3, nmT]
@[simp] theorem k_word (s : B) (p : List Tok) : Xsa s (nmT s :: p) = .ok () p := by simp [Xsa, X8, Jw, X3, nmT]
@[simp] theorem k_sign (s : B) (p : List Tok) : V6 s (sgT s :: p) = .ok () p := by simp [V6, X8, Jw, X3, sgT]
@[simp] theorem k_num (n : Int) (p : List Tok) : X6g (nuT n :: p) = .ok n p := by simp [X6g, X8, Jw, X3, nuT]
@[simp] theorem k_acc_s (s t : B) (p : List Tok) : X5 3 s (sgT t :: p) = if s = [] ∨ t = s then .ok true p else .ok false (sgT t :: p) := by
 by_cases h : s = [] ∨ t = s <;> simp [X5, X3, sgT, h]
@[simp] theorem k_acc_w (s t : B) (p : List Tok) : X5 1 s (nmT t :: p) = if s = [] ∨ t = s then .ok true p else .ok false (nmT t :: p) := by
 by_cases h : s = [] ∨ t = s <;> simp [X5, X3, nmT, h]
@[simp] theorem k_acc_sn (s t : B) (p : List Tok) : X5 1 s (sgT t :: p) = .ok false (sgT t :: p) := by simp [X5, X3, sgT]
@[simp] theorem k_acc_sw (s t : B) (p : List Tok) : X5 3 s (nmT t :: p) = .ok false (nmT t :: p) := by simp [X5, X3, nmT]
@[simp] theorem k_acc_us (s : B) (n : Int) (p : List Tok) : X5 3 s (nuT n :: p) = .ok false (nuT n :: p) := by simp [X5, X3, nuT]
@[simp] theorem k_next_w (s t : B) (p : List Tok) : X3 1 s (nmT t :: p) = decide (s = [] ∨ t = s) := by rw [Bool.eq_iff_iff]; simp [X3, nmT]
@[simp] theorem k_next_wn (s : B) (n : Int) (p : List Tok) : X3 1 s (nuT n :: p) = false := by simp [X3, nuT]
@[simp] theorem k_next_s (s t : B) (p : List Tok) : X3 3 s (sgT t :: p) = decide (s = [] ∨ t = s) := by rw [Bool.eq_iff_iff]; simp [X3, sgT]
@[simp] theorem k_next_sw (s t : B) (p : List Tok) : X3 3 s (nmT t :: p) = false := by simp [X3, nmT]
@[simp] theorem k_next_sn (s : B) (n : Int) (p : List Tok) : X3 3 s (nuT n :: p) = false := by simp [X3, nuT]
@[simp] theorem k_next_nw (s t : B) (p : List Tok) : X3 2 s (nmT t :: p) = false := by simp [X3, nmT]
@[simp] theorem k_next_nn (n : Int) (p : List Tok) : X3 2 [] (nuT n :: p) = true := by simp [X3, nuT]
theorem X2i (t : RTerm) (p : List Tok) : Xr3 (Yb t ++ p) = .ok (Ug t) p := by
 by_cases h : t.name = []
 ·simp [Yb, Ug, h, Xr3, ifM, X8]
 ·simp [Yb, Ug, h, Xr3, ifM, X7g, X8]
theorem Yan {o : Int} (h : 1 ≤ o ∧ o ≤ 4) (t : Tok) (ht : ∀ p, X3 3 [61] (t :: p) = false) (p : List Tok) : opQ (opT o ++ t :: p) = .ok o (t :: p) := by
 have ha : X5 3 [61] (t :: p) = .ok false (t :: p) := by simp [X5, ht]
 have h4 : o = 1 ∨ o = 2 ∨ o = 3 ∨ o = 4 := by omega
 rcases h4 with rfl | rfl | rfl | rfl <;> simp [opT, opQ, X8, ha]
theorem V0 (t : RTerm) : ∃ x r, Yb t = x :: r ∧ (∀ p, X3 3 [61] (x :: p) = false) ∧ (∀ s p, X5 3 s (x :: p) = .ok false (x :: p)) ∧ (∀ p, X3 1 [] (x :: (r ++ p)) = true → Xtu (x :: (r ++ p)) = true) := by
 by_cases h : t.name = []
 ·exact ⟨nuT t.n, [], by simp [Yb, h], by simp, by simp, by simp⟩
 ·exact ⟨nmT t.name, [sgT [46], nmT t.path], by simp [Yb, h], by simp, by simp, by simp [Xtu]⟩
theorem X2h {a : RAtom} (h : 1 ≤ a.op ∧ a.op ≤ 4) (p : List Tok) : Xsw (Yb a.a ++ (opT a.op ++ (Yb a.b ++ p))) = .ok (.mk 5 0 [] ⟨a.op, Ug a.a, Ug a.b⟩) p := by
 obtain ⟨x, r, e, hx, _⟩ := V0 a.b
 have ho : opQ (opT a.op ++ (Yb a.b ++ p)) = .ok a.op (Yb a.b ++ p) := by rw [e]; exact Yan h x hx _
 simp [Xsw, X8, X2i, ho]
mutual
def RForm.pr (vs : List RVar) : RForm → Prop
 | .mk op n k a => (op = 1 ∧ RForm.prL vs k) ∨ (op = 2 ∧ RForm.prL vs k) ∨ (op = 3 ∧ RForm.prL vs k) ∨ op = 4 ∨ (op = 5 ∧ 1 ≤ a.op ∧ a.op ≤ 4)
def RForm.prL (vs : List RVar) : List RForm → Prop
 | [] => True
 | f :: r => f.pr vs ∧ RForm.prL vs r
end
theorem Xo2 {vs : List RVar} {f : RForm} (h : f.pr vs) : ∃ x r, Yp vs f = x :: r ∧ ∀ s p, X5 3 s (x :: p) = .ok false (x :: p) := by
 obtain ⟨op, n, k, a⟩ := f
 rw [RForm.pr] at h
 rw [Yp]
 rcases h with ⟨rfl, _⟩ | ⟨rfl, _⟩ | ⟨rfl, _⟩ | rfl | ⟨rfl, _, _⟩
 ·exact ⟨_, _, by simp; exact ⟨rfl, rfl⟩, by simp⟩
 ·exact ⟨_, _, by simp; exact ⟨rfl, rfl⟩, by simp⟩
 ·exact ⟨_, _, by simp; exact ⟨rfl, rfl⟩, by simp⟩
 ·exact ⟨_, _, by simp; exact ⟨rfl, rfl⟩, by simp⟩
 ·obtain ⟨x, r, e, _, hx, _⟩ := V0 a.a
  exact ⟨x, _, by simp [e]; rfl, hx⟩
mutual
theorem Xwo (vs : List RVar) : ∀ (f : RForm), f.pr vs → ∀ (n : Nat) (p : List Tok), (Yp vs f).length ≤ n → Xfr n (Yp vs f ++ p) = .ok (f.strip vs) p
 | .mk op m k a, h, n, p, hn => by
  rw [RForm.pr] at h
  rw [Yp] at hn ⊢
  rw [RForm.strip]
  rcases h with ⟨rfl, hk⟩ | ⟨rfl, hk⟩ | ⟨rfl, hk⟩ | rfl | ⟨rfl, ha⟩
  ·simp at hn
   obtain ⟨j, rfl⟩ : ∃ j, n = j + 1 := ⟨n - 1, by omega⟩
   have hl := Xkl vs k hk j p (by omega)
   simp [Xfr, ifM, Xjh, Xtu, Jc, nmT, X3, sgT, Xg1, X8] at hl ⊢
   simp [V6, Jw, X3, X8, hl]
  ·simp at hn
   obtain ⟨j, rfl⟩ : ∃ j, n = j + 1 := ⟨n - 1, by omega⟩
   have hl := Xkl vs k hk j p (by omega)
   simp [Xfr, ifM, Xjh, Xtu, Jc, nmT, X3, sgT, Xg1, X8] at hl ⊢
   simp [V6, Jw, X3, X8, hl]
  ·simp at hn
   obtain ⟨j, rfl⟩ : ∃ j, n = j + 1 := ⟨n - 1, by omega⟩
   have hl := Xkl vs k hk j p (by omega)
   simp [Xfr, ifM, Xjh, Xtu, Jc, nmT, nuT, X3, sgT, Xg1, X8] at hl ⊢
   simp [X6g, V6, Jw, X3, X8, hl]
  ·simp at hn
   obtain ⟨j, rfl⟩ : ∃ j, n = j + 1 := ⟨n - 1, by omega⟩
   simp [Xfr, ifM, Xjh, Xtu, Jc, nmT, X3, Xg1]
   simp [Ycm, Xby, Jw, X3, X8]
  ·obtain ⟨x, r, e, _, _, hx⟩ := V0 a.a
   have hn1 : 1 ≤ n := by simp [e] at hn; omega
   obtain ⟨j, rfl⟩ : ∃ j, n = j + 1 := ⟨n - 1, by omega⟩
   have hr : Xjh (Yb a.a ++ (opT a.op ++ (Yb a.b ++ p))) = false := by
    have := hx (opT a.op ++ (Yb a.b ++ p))
    rw [e]
    simp only [List.cons_append, Xjh]
    cases hb : X3 1 [] (x :: (r ++ (opT a.op ++ (Yb a.b ++ p)))) with
    | false => rfl
    | true => rw [this hb]; rfl
   have ha' := X2h (a := a) ha p
   simp [Xfr, ifM, hr, ha']
theorem Xkl (vs : List RVar) : ∀ (l : List RForm), RForm.prL vs l → ∀ (n : Nat) (p : List Tok), (X4 vs l).length + 1 ≤ n → Xia n (X4 vs l ++ sgT [125] :: p) = .ok (RForm.stripL vs l) p
 | [], _, n, p, hn => by
  obtain ⟨j, rfl⟩ : ∃ j, n = j + 1 := ⟨n - 1, by omega⟩
  simp [Xia, X4, RForm.stripL, X8]
 | f :: r, h, n, p, hn => by
  rw [RForm.prL] at h
  rw [X4] at hn ⊢
  rw [RForm.stripL]
  obtain ⟨j, rfl⟩ : ∃ j, n = j + 1 := ⟨n - 1, by omega⟩
  simp at hn
  obtain ⟨x, s, e, hx⟩ := Xo2 h.1
  have hf := Xwo vs f h.1 j (sgT [59] :: (X4 vs r ++ sgT [125] :: p)) (by omega)
  have hl := Xkl vs r h.2 j p (by omega)
  have ha : X5 3 [125] (Yp vs f ++ sgT [59] :: (X4 vs r ++ sgT [125] :: p)) = .ok false (Yp vs f ++ sgT [59] :: (X4 vs r ++ sgT [125] :: p)) := by
   rw [e]; exact hx _ _
  simp only [List.append_assoc, List.cons_append]
  simp [Xia, X8, ha, hf, hl]
end
theorem Xwp : ∀ (vs : List RVar) (n : Nat) (p : List Tok), Xbt p = false → vs.length + 1 ≤ n → Xr7 n (vs.flatMap Xbk ++ p) = .ok (vs.map fun v => ⟨v.name, v.kind, 0, v.other⟩) p
 | [], n, p, hp, hn => by
  obtain ⟨j, rfl⟩ : ∃ j, n = j + 1 := ⟨n - 1, by simp at hn; omega⟩
  simp [Xr7, ifM, hp]
 | v :: r, n, p, hp, hn => by
  obtain ⟨j, rfl⟩ : ∃ j, n = j + 1 := ⟨n - 1, by simp at hn; omega⟩
  have ih := Xwp r j p hp (by simpa using hn)
  have hf : ∀ q, Xbt (nmT Xb4 :: nmT v.name :: q) = true := fun q => by simp [Xbt, Xtu]
  cases ho : v.other <;> simp [Xr7, ifM, Xbk, ho, hf, Ygr, X8, ih]
theorem Xo5 {vs : List RVar} {f : RForm} (h : f.pr vs) (p : List Tok) : Xbt (Yp vs f ++ p) = false := by
 obtain ⟨op, n, k, a⟩ := f
 rw [RForm.pr] at h
 rw [Yp]
 rcases h with ⟨rfl, _⟩ | ⟨rfl, _⟩ | ⟨rfl, _⟩ | rfl | ⟨rfl, _, _⟩
 ·simp [Xbt]
 ·simp [Xbt]
 ·simp [Xbt]
 ·simp [Xbt]
 ·obtain ⟨x, r, e, _, _, hx⟩ := V0 a.a
  have := hx (opT a.op ++ (Yb a.b ++ p))
  simp [e, Xbt]
  intro h1
  refine this ?_
  cases hk : X3 1 [] (x :: (r ++ (opT a.op ++ (Yb a.b ++ p)))) with
  | true => rfl
  | false =>
   simp [X3] at h1 hk
   exact absurd h1.1 hk
theorem Xpb {q : RQ} (hf : q.form.pr q.vars) (p : B) (n : Nat) (hn : (U8 q p).length ≤ n) : Xxx n (U8 q p) = .ok (⟨q.name, 0, q.vars.map fun v => ⟨v.name, v.kind, 0, v.other⟩, q.form.strip q.vars⟩, p) [] := by
 have hfm : ∀ vs : List RVar, vs.length ≤ (vs.flatMap Xbk).length := by
  intro vs
  induction vs with
  | nil => simp
  | cons v r ih => simp only [List.flatMap_cons, List.length_append, List.length_cons, Xbk]; omega
 have h1 := hfm q.vars
 simp only [U8, List.length_cons, List.length_append, List.length_nil] at hn
 have hv := Xwp q.vars n (Yp q.vars q.form ++ [sgT [59], sgT [125]]) (Xo5 hf _) (by omega)
 have hq := Xwo q.vars q.form hf n [sgT [59], sgT [125]] (by omega)
 simp [U8, Xxx, X8, hv, hq, Ycg]
end Go.Sx
/- Plain laws of the lexer: words, numbers, what is printed is read again. No program. -/
namespace Go.Lx
open Go Go.Ab
theorem Xon {c : UInt8} (h : Xw c = true) : 48 ≤ c.toNat ∧ c.toNat ≤ 57 := by
 simp only [Xw, Uc, decide_eq_true_eq] at h; omega
theorem Jk : ∀ (s t : List UInt8) (m : Int), V4 m (s ++ t) = (V4 m s).bind fun k => V4 k t
 | [], t, m => rfl
 | c :: r, t, m => by
  simp only [List.cons_append, V4]
  split
  ·rfl
  ·exact Jk r t _
theorem Xqm : ∀ N : Nat, N ≤ 1099511627776 → V4 0 (Lib.decDigits N) = some (N : Int) := by
 intro N
 induction N using Nat.strongRecOn with
 | ind N ih =>
  intro h
  have hd := Xdn N
  rw [X7, Jk]
  by_cases h10 : N < 10
  ·rw [if_pos h10]
   simp only [V4, Option.bind_some, hd]
   rw [if_neg (by omega)]
   congr 1; omega
  ·rw [if_neg h10, ih (N / 10) (by omega) (by omega)]
   simp only [V4, Option.bind_some, hd]
   rw [if_neg (by omega)]
   congr 1; omega
theorem Xol : ∀ N : Nat, ∀ c ∈ Lib.decDigits N, Xw c = true := by
 intro N
 induction N using Nat.strongRecOn with
 | ind N ih =>
  intro c hc
  rw [X7] at hc
  rcases List.mem_append.1 hc with hc | hc
  ·split at hc
   ·cases hc
   ·exact ih (N / 10) (by omega) c hc
  ·rw [List.mem_singleton.1 hc]
   have := Xdn N
   simp only [Xw, Uc, decide_eq_true_eq]; omega
theorem Xtd : ∀ N : Nat, 0 < N → (Lib.decDigits N).headD 0 ≠ 48 := by
 intro N
 induction N using Nat.strongRecOn with
 | ind N ih =>
  intro h
  rw [X7]
  split
  ·simp
   intro e
   have := Xdn N
   rw [e] at this
   have h48 : (48 : UInt8).toNat = 48 := rfl
   omega
  ·have := ih (N / 10) (by omega) (by omega)
   have hne := (Wt (N / 10)).2
   cases hx : Lib.decDigits (N / 10) with
   | nil => exact (hne hx).elim
   | cons c r => rw [hx] at this; simpa using this
theorem Xqn (N : Nat) (h : N ≤ 1099511627776) : Xa3 (Lib.decDigits N) = some (N : Int) := by
 unfold Xa3
 rw [Xqm N h]
 simp only
 rw [if_pos]
 by_cases h0 : N = 0
 ·subst h0; left; rw [X7]; rfl
 ·right; exact Xtd N (by omega)
theorem Xv0 {c : UInt8} (h : signB c = true) : Vq c = false ∧ Yv c = false ∧ Xw c = false := by
 simp only [signB, signI, signs, List.any_cons, List.any_nil, Bool.or_false, Bool.or_eq_true, decide_eq_true_eq] at h
 simp only [Vq, Xc5, Yv, Za, Xw, Uc, decide_eq_false_iff_not]
 have e : ∀ n : Nat, n < 256 → (UInt8.ofNat n).toNat = n := fun n hn => by simp [UInt8.toNat_ofNat']; omega
 refine ⟨?_, ?_, ?_⟩ <;> intro hx <;> (rcases h with h | h | h | h | h | h | h | h | h | h | h | h | h | h | h) <;> (simp at h; omega)
theorem Xln {t : Tok} (h : validB t = true) : ∃ c r, V7 t = c :: r ∧ stp c r = .tok t.kind t.text t.n r.length ∧ ¬ X9j c r := by
 obtain ⟨k, s, n, i⟩ := t
 unfold validB at h
 simp only at h
 split at h
 ·rename_i hk
  subst hk
  simp at h
  obtain ⟨h1, rfl⟩ := h
  obtain ⟨c, r, rfl, h2, h3, h4⟩ := Xqk.1 h1
  refine ⟨c, r, by simp [V7], Xv6 h2 h3 h4, ?_⟩
  rintro ⟨rfl, _⟩; revert h2; decide
 ·split at h
  ·rename_i hk
   subst hk
   simp at h
   obtain ⟨⟨rfl, h0⟩, h1⟩ := h
   obtain ⟨N, rfl⟩ := Int.eq_ofNat_of_zero_le h0
   have hN := Xqn N (by omega)
   have hD := Xol N
   simp only [V7, if_true, Xkk]
   cases hx : Lib.decDigits N with
   | nil => exact ((Wt N).2 hx).elim
   | cons c r =>
    rw [hx] at hN hD
    have hc := hD c (by simp)
    have hb := Xon hc
    have hnc : ¬ X9j c r := by rintro ⟨rfl, _⟩; revert hc; decide
    refine ⟨c, r, rfl, ?_, hnc⟩
    have h2 : Vq c = false := by simp only [Vq, Xc5, decide_eq_false_iff_not]; omega
    have h3 : Yv c = false := by simp only [Yv, Za, decide_eq_false_iff_not]; omega
    have hf : ¬ (c = 47 ∧ r.head? = some 47) := hnc
    have h4 : r.takeWhile Xw = r := W7 (fun x hx => hD x (by simp [hx]))
    unfold stp
    rw [h2, if_neg (by simp), if_neg hf, h3, if_neg (by simp), if_pos hc, h4, hN]
  ·split at h
   ·rename_i hk
    subst hk
    simp at h
    obtain ⟨⟨h1, h2⟩, rfl⟩ := h
    match s, h1 with
    | [c], _ =>
     simp at h2
     obtain ⟨s1, s2, s3⟩ := Xv0 h2
     refine ⟨c, [], by simp [V7], ?_, by rintro ⟨_, h⟩; simp at h⟩
     unfold stp
     simp [s1, s2, s3, h2]
   ·cases h
theorem Qv : ∀ (l : List Tok) (off : Nat), (∀ t ∈ l, validB t = true) → ∃ m, Qu (Yq l) off = .ok m ∧ Vn l m = true
 | [], off, _ => ⟨[], by simp [Yq, Xf5], rfl⟩
 | [t], off, h => by
  obtain ⟨c, r, e1, e2, _⟩ := Xln (h t (by simp))
  refine ⟨[⟨t.kind, t.text, t.n, off⟩], ?_, by simp [Vn, Xq7]⟩
  simp only [Yq]
  rw [e1, Xkr e2]
  simp [Xf5, Xyj]
 | t :: u :: l, off, h => by
  obtain ⟨c, r, e1, e2, e3⟩ := Xln (h t (by simp))
  obtain ⟨m, m1, m2⟩ := Qv (u :: l) (off + r.length + 1 + 1) (fun x hx => h x (by simp [hx]))
  refine ⟨⟨t.kind, t.text, t.n, off⟩ :: m, ?_, ?_⟩
  ·have hs : stp 32 (Yq (u :: l)) = .skip 0 := by simp [stp, Vq, Xc5]
   have hj : Yq (t :: u :: l) = V7 t ++ 32 :: Yq (u :: l) := rfl
   rw [hj, e1, List.cons_append, Xkr ((X71 (.inr e3)).trans e2)]
   simp only [List.drop_left]
   rw [Xpk hs]
   simp only [List.drop_zero, Nat.add_zero]
   rw [m1]; rfl
  ·rw [Vn, m2]; simp [Xq7]
end Go.Lx
/- A valid question is what its source says; printing is one to one. No program. -/
namespace Go.Sx
open Go Go.Ab Go.Lx
theorem Xei {s : B} (h : nameB s = true) : s ≠ [] := by
 rintro rfl
 simp [nameB] at h
theorem Xc7 {y : RSrc} {vs : List RVar} {t : RTerm} (h : (refO y vs t).isSome = true ∨ t.isNum = true) :
  (t = ⟨[], [], -1, 0, t.n⟩ ∧ 0 ≤ t.n ∧ t.n ≤ 1048576) ∨ (nameB t.name = true ∧ nameB t.path = true ∧ t.n = 0 ∧ X3p y vs ⟨t.name, t.path, 0, 0, 0⟩ = some t) := by
 rcases h with h | h
 ·right
  obtain ⟨r, hr⟩ := Option.isSome_iff_exists.1 h
  unfold refO at hr
  split at hr
  ·rename_i h0
   simp only [Bool.and_eq_true, decide_eq_true_eq] at h0
   refine ⟨h0.1.1, h0.1.2, h0.2, ?_⟩
   have hn : t.name ≠ [] := Xei h0.1.1
   simp only [X3p, hn, if_false]
   split at hr
   ·rename_i v hv
    rw [hv]
    split at hr
    ·cases hr
    ·rename_i h1
     split at hr
     ·rename_i c hc
      split at hr
      ·cases hr
      ·rename_i h2
       have hfo : fieldsOf y v = c.fields := by simp [fieldsOf, hc]
       simp only [hfo]
       rw [if_neg (by omega)]
       obtain ⟨n, p, var, fld, m⟩ := t
       simp only at h1 h2 h0 ⊢
       congr 2
       ·omega
       ·omega
       ·exact h0.2.symm
     ·cases hr
   ·cases hr
  ·cases hr
 ·left
  simp only [RTerm.isNum, Bool.and_eq_true, decide_eq_true_eq] at h
  obtain ⟨n, p, var, fld, m⟩ := t
  simp only at h ⊢
  obtain ⟨⟨⟨⟨⟨rfl, rfl⟩, rfl⟩, rfl⟩, h1⟩, h2⟩ := h
  exact ⟨rfl, h1, h2⟩
theorem Xg2 {y : RSrc} {vs : List RVar} {t : RTerm} (h : (refO y vs t).isSome = true ∨ t.isNum = true) : X3p y vs (Ug t) = some t := by
 rcases Xc7 h with ⟨e, _⟩ | ⟨h1, _, h3, h4⟩
 ·rw [e]; simp [Ug, X3p]
 ·simp [Ug, Xei h1, h4]
theorem Xbh {y : RSrc} {vs : List RVar} {t : RTerm} (h : (refO y vs t).isSome = true ∨ t.isNum = true) : ∀ x ∈ Yb t, validB x = true := by
 rcases Xc7 h with ⟨e, h1, h2⟩ | ⟨h1, h2, _⟩
 ·rw [e]
  have h3 : t.n ≤ 1099511627776 := by omega
  simp [Yb, validB, nuT, h1, h3]
 ·have hd : signB 46 = true := by decide
  simp [Yb, Xei h1, validB, nmT, sgT, h1, h2, hd]
theorem Xhm {y : RSrc} {vs : List RVar} {a : RAtom} (h : Wh y vs a = true) : 1 ≤ a.op ∧ a.op ≤ 4 ∧ ((refO y vs a.a).isSome = true ∨ a.a.isNum = true) ∧ ((refO y vs a.b).isSome = true ∨ a.b.isNum = true) := by
 simp only [Wh, Bool.and_eq_true, Bool.or_eq_true, decide_eq_true_eq] at h
 obtain ⟨⟨⟨⟨⟨⟨o1, o2⟩, tA⟩, tB⟩, _⟩, _⟩, _⟩ := h
 exact ⟨o1, o2, tA, tB⟩
theorem Xl0 {y : RSrc} {vs : List RVar} (hv : Wp y vs = true) {i : Nat} (hi : i < vs.length) : Xn RVar.name vs vs[i].name 0 = i ∧ nameB vs[i].name = true := by
 have := V1 hv i hi
 simp only [Xhf, Bool.and_eq_true, decide_eq_true_eq] at this
 exact ⟨this.2, this.1.2⟩
structure FormOk (y : RSrc) (vs : List RVar) (f : RForm) : Prop where
 pr : f.pr vs
 toks : ∀ x ∈ Yp vs f, validB x = true
 res : X25 y vs (f.strip vs) = some f
structure FormsOk (y : RSrc) (vs : List RVar) (l : List RForm) : Prop where
 pr : RForm.prL vs l
 toks : ∀ x ∈ X4 vs l, validB x = true
 res : X7k y vs (RForm.stripL vs l) = some l
theorem Xjm {a : RAtom} (h : a.zero = true) : a = Xe9 := by
 obtain ⟨o, ⟨n1, p1, v1, f1, m1⟩, ⟨n2, p2, v2, f2, m2⟩⟩ := a
 simpa [RAtom.zero, RTerm.zero, Xe9, Xr2, and_assoc] using h
mutual
theorem Xo3 {y : RSrc} {vs : List RVar} (hv : Wp y vs = true) : ∀ (f : RForm) (d : Nat) (c : Nat × Nat), (f.okS y vs d c).1 = true → FormOk y vs f
 | .mk op n k a, d, c, h => by
  have s123 : signB 123 = true := by decide
  have s125 : signB 125 = true := by decide
  unfold RForm.okS at h
  split at h
  ·cases h
  split at h
  ·rename_i h1
   split at h
   ·rename_i h2
    simp only [Bool.and_eq_true, decide_eq_true_eq] at h2
    have ih := Xdq hv k (d + 1) (c.1 + 1, c.2) h
    obtain ⟨hz, rfl⟩ := h2
    have hz := Xjm hz
    subst hz
    rcases h1 with rfl | rfl
    ·refine ⟨by rw [RForm.pr]; exact .inl ⟨rfl, ih.pr⟩, ?_, ?_⟩
     ·rw [Yp]
      have hn : nameB [97, 108, 108] = true := by decide
      simp only [if_true, List.mem_cons, List.mem_append, List.not_mem_nil, or_false]
      rintro x (rfl | rfl | hx | rfl)
      ·simp [validB, nmT, hn]
      ·simp [validB, sgT, s123]
      ·exact ih.toks x hx
      ·simp [validB, sgT, s125]
     ·simp [RForm.strip, X25, ih.res]
    ·refine ⟨by rw [RForm.pr]; exact .inr (.inl ⟨rfl, ih.pr⟩), ?_, ?_⟩
     ·rw [Yp]
      have hn : nameB [97, 110, 121] = true := by decide
      have h21 : ¬ (2 : Int) = 1 := by decide
      simp only [h21, if_false, if_true, List.mem_cons, List.mem_append, List.not_mem_nil, or_false]
      rintro x (rfl | rfl | hx | rfl)
      ·simp [validB, nmT, hn]
      ·simp [validB, sgT, s123]
      ·exact ih.toks x hx
      ·simp [validB, sgT, s125]
     ·simp [RForm.strip, X25, ih.res]
   ·cases h
  split at h
  ·rename_i h1
   split at h
   ·rename_i h2
    rename_i h00 h0
    simp only [Bool.and_eq_true, decide_eq_true_eq] at h2
    have ih := Xdq hv k (d + 1) (c.1 + 1, c.2) h
    obtain ⟨⟨hz, h3⟩, h4⟩ := h2
    have hz := Xjm hz
    subst hz
    subst h1
    refine ⟨by rw [RForm.pr]; exact .inr (.inr (.inl ⟨rfl, ih.pr⟩)), ?_, ?_⟩
    ·rw [Yp]
     have hn : nameB [108, 101, 97, 115, 116] = true := by decide
     have h31 : ¬ (3 : Int) = 1 := by decide
     have h32 : ¬ (3 : Int) = 2 := by decide
     have hk8 : k.length ≤ 8 := by omega
     have h5 : n ≤ 1099511627776 := by omega
     have h6 : 0 ≤ n := by omega
     simp only [h31, h32, if_false, if_true, List.mem_cons, List.mem_append, List.not_mem_nil, or_false]
     rintro x (rfl | rfl | rfl | hx | rfl)
     ·simp [validB, nmT, hn]
     ·simp [validB, nuT, h5, h6]
     ·simp [validB, sgT, s123]
     ·exact ih.toks x hx
     ·simp [validB, sgT, s125]
    ·simp [RForm.strip, X25, ih.res]
   ·cases h
  split at h
  ·rename_i h1
   simp only [Bool.and_eq_true, decide_eq_true_eq] at h
   obtain ⟨⟨⟨hz, hk⟩, h3⟩, h4⟩ := h
   have hz := Xjm hz
   have hk : k = [] := List.length_eq_zero_iff.1 hk
   subst hz
   subst hk
   subst h1
   obtain ⟨i, rfl⟩ : ∃ i : Nat, n = i := ⟨n.toNat, by omega⟩
   have hi : i < vs.length := by omega
   obtain ⟨f1, f2⟩ := Xl0 hv hi
   have hvn : X3c vs (i : Int) = vs[i].name := by simp [X3c, hi]
   have hn : nameB [104, 97, 115] = true := by decide
   refine ⟨by rw [RForm.pr]; exact .inr (.inr (.inr (.inl rfl))), ?_, ?_⟩
   ·rw [Yp]
    simp [validB, nmT, hn, hvn, f2]
   ·have hi0 : ¬ (i : Int) < 0 := by omega
    simp [RForm.strip, X25, hvn, f1, hi0]
  split at h
  ·rename_i h1
   simp only [Bool.and_eq_true, decide_eq_true_eq] at h
   obtain ⟨⟨⟨rfl, hk⟩, _⟩, ha⟩ := h
   have hk : k = [] := List.length_eq_zero_iff.1 hk
   subst hk
   subst h1
   obtain ⟨o1, o2, tA, tB⟩ := Xhm ha
   refine ⟨by rw [RForm.pr]; exact .inr (.inr (.inr (.inr ⟨rfl, o1, o2⟩))), ?_, ?_⟩
   ·rw [Yp]
    have hA := Xbh tA
    have hB := Xbh tB
    have hO : ∀ x ∈ opT a.op, validB x = true := by
     have h4 : a.op = 1 ∨ a.op = 2 ∨ a.op = 3 ∨ a.op = 4 := by omega
     have c1 : signB 61 = true := by decide
     have c2 : signB 60 = true := by decide
     have c3 : signB 33 = true := by decide
     rcases h4 with e | e | e | e <;> simp [opT, e, validB, sgT, c1, c2, c3]
    intro x hx
    simp at hx
    rcases hx with hx | hx | hx
    ·exact hA x hx
    ·exact hO x hx
    ·exact hB x hx
   ·simp [RForm.strip, X25, Xg2 tA, Xg2 tB]
  ·cases h
theorem Xdq {y : RSrc} {vs : List RVar} (hv : Wp y vs = true) : ∀ (l : List RForm) (d : Nat) (c : Nat × Nat), (RForm.okL y vs l d c).1 = true → FormsOk y vs l
 | [], d, c, h => ⟨by rw [RForm.prL]; trivial, by simp [X4], by simp [RForm.stripL, X7k]⟩
 | f :: r, d, c, h => by
  unfold RForm.okL at h
  split at h
  ·rename_i h1
   have i1 := Xo3 hv f d c h1
   have i2 := Xdq hv r d _ h
   have s59 : signB 59 = true := by decide
   refine ⟨by rw [RForm.prL]; exact ⟨i1.pr, i2.pr⟩, ?_, by simp [RForm.stripL, X7k, i1.res, i2.res]⟩
   rw [X4]
   simp only [List.mem_append, List.mem_cons]
   rintro x (hx | rfl | hx)
   ·exact i1.toks x hx
   ·simp [validB, sgT, s59]
   ·exact i2.toks x hx
  ·cases h
end
def Xvs (y : RSrc) (n : Int) : B := match y.purposes[n.toNat]? with | some p => p.name | none => []
def Ye (y : RSrc) (q : RQ) : List Tok := U8 q (Xvs y q.purpose)
structure QOk (y : RSrc) (q : RQ) : Prop where
 name : nameB q.name = true
 pur0 : 0 ≤ q.purpose
 pur : Xn RPurpose.name y.purposes (Xvs y q.purpose) 0 = q.purpose
 purIn : q.purpose.toNat < y.purposes.length
 purName : nameB (Xvs y q.purpose) = true
 vars : Wp y q.vars = true
 form : FormOk y q.vars q.form
theorem Zz {y : RSrc} {q : RQ} (h : Xz y q = true) : QOk y q := by
 simp only [Xz, Bool.and_eq_true, decide_eq_true_eq] at h
 obtain ⟨⟨⟨⟨h1, h2⟩, h3⟩, h4⟩, h5⟩ := h
 cases hp : y.purposes[q.purpose.toNat]? with
 | none => rw [hp] at h3; cases h3
 | some p =>
  rw [hp] at h3
  simp only [Bool.and_eq_true, decide_eq_true_eq] at h3
  have hn : Xvs y q.purpose = p.name := by simp [Xvs, hp]
  obtain ⟨hl, _⟩ := List.getElem?_eq_some_iff.1 hp
  exact ⟨h1, h2, by rw [hn]; exact h3.1, hl, by rw [hn]; exact h3.2, h4, Xo3 h4 q.form 1 (0, 0) h5⟩
theorem Xm0 {y : RSrc} {vs : List RVar} (hv : Wp y vs = true) : ∀ x ∈ vs.flatMap Xbk, validB x = true := by
 intro x hx
 rw [List.mem_flatMap] at hx
 obtain ⟨v, hm, hx⟩ := hx
 obtain ⟨i, hi, rfl⟩ := List.mem_iff_getElem.1 hm
 have h := V1 hv i hi
 simp only [Xhf, Bool.and_eq_true, decide_eq_true_eq] at h
 have a1 : nameB Xb4 = true := by decide
 have a2 : nameB Xlm = true := by decide
 have a3 : signB 59 = true := by decide
 simp only [Xbk, List.mem_cons, List.mem_append, List.not_mem_nil, or_false] at hx
 rcases hx with rfl | rfl | rfl | hx | rfl
 ·simp [validB, nmT, a1]
 ·simp [validB, nmT, h.1.2]
 ·simp [validB, nmT, h.1.1.2]
 ·cases ho : vs[i].other
  ·simp [ho] at hx
  ·simp [ho] at hx
   subst hx
   simp [validB, nmT, a2]
 ·simp [validB, sgT, a3]
theorem W3 {y : RSrc} {q : RQ} (h : QOk y q) : ∀ x ∈ Ye y q, validB x = true := by
 have a1 : nameB X3s = true := by decide
 have a2 : nameB X3t = true := by decide
 have a3 : signB 123 = true := by decide
 have a4 : signB 59 = true := by decide
 have a5 : signB 125 = true := by decide
 intro x hx
 simp only [Ye, U8, List.mem_cons, List.mem_append, List.not_mem_nil, or_false] at hx
 rcases hx with rfl | rfl | rfl | rfl | rfl | hx | hx | rfl | rfl
 ·simp [validB, nmT, a1]
 ·simp [validB, nmT, h.name]
 ·simp [validB, nmT, a2]
 ·simp [validB, nmT, h.purName]
 ·simp [validB, sgT, a3]
 ·exact Xm0 h.vars x hx
 ·exact h.form.toks x hx
 ·simp [validB, sgT, a4]
 ·simp [validB, sgT, a5]
theorem Xqx {y : RSrc} {q r : RQ} (hq : Xz y q = true) (hr : Xz y r = true) (h : Ye y q = Ye y r) : q = r := by
 have a := Zz hq
 have b := Zz hr
 have k1 := Xpb a.form.pr (Xvs y q.purpose) (Ye y q).length (Nat.le_refl _)
 have k2 := Xpb b.form.pr (Xvs y r.purpose) (Ye y r).length (Nat.le_refl _)
 unfold Ye at h
 rw [Ye, h] at k1
 rw [Ye] at k2
 rw [k2] at k1
 simp only [R.ok.injEq, Prod.mk.injEq, RQ.mk.injEq, and_true, true_and] at k1
 obtain ⟨⟨e1, e2, e3⟩, e4⟩ := k1
 have hvars : r.vars = q.vars := by
  apply List.ext_getElem
  ·have := congrArg List.length e2
   simpa using this
  ·intro i h1 h2
   have hi := congrArg (fun l => l[i]?) e2
   simp [h1, h2] at hi
   have c1 := V1 b.vars i h1
   have c2 := V1 a.vars i h2
   simp only [Xhf, Bool.and_eq_true, decide_eq_true_eq] at c1 c2
   have s1 := c1.1.1.1.2
   have s2 := c2.1.1.1.2
   rw [hi.2.1] at s1
   cases hx : r.vars[i]
   cases hz : q.vars[i]
   rw [hx] at hi s1
   rw [hz] at hi s1 s2
   simp only at hi s1 s2
   simp only [RVar.mk.injEq]
   exact ⟨hi.1, hi.2.1, by omega, hi.2.2⟩
 have hform : r.form = q.form := by
  have f1 := a.form.res
  have f2 := b.form.res
  rw [← e3, ← hvars] at f1
  rw [f2] at f1
  exact Option.some.inj f1
 have hpur : q.purpose = r.purpose := by rw [← a.pur, ← b.pur, e4]
 obtain ⟨n1, p1, v1, g1⟩ := q
 obtain ⟨n2, p2, v2, g2⟩ := r
 simp only at e1 hvars hform hpur ⊢
 subst e1; subst hvars; subst hform; subst hpur
 rfl
end Go.Sx
