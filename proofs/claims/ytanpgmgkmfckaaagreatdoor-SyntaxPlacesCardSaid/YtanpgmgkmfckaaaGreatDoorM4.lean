/- Texts of this claim joined by a program, part 4 of 7; the last is: Contracts: the definitions. Condition: the program is the seat's, and its intervals are laid. -/
import Derived.Test.YtanpgmgkmfckaaaGreatDoorM3
import Derived.Test.YtanpgmgkmfckaaaGreatDoorProg
import Derived.KernelRfl
set_option linter.unusedSimpArgs false
set_option linter.unusedVariables false
set_option linter.unusedSectionVars false
/- The same statements with their regions folded into expressions, printed by the fold itself; that they are that is checked by the kernel. No condition. -/
namespace Go.Proofs.YtanpgmgkmfckaaaGreatDoor
open Go Go.Ab
set_option maxRecDepth 100000
def lt15_l0 : S2 := .seq (.seq (.rg [] [(0, (.a (.t 0))), (2, (.a (.t 2))), (3, (.a (.t 3))), (4, (.a (.t 4))), (5, (.a (.t 5))), (6, (.a (.t 6))), (32, (.b (.bin .lss (.t 0) (.t 1)) (.u (.ld 1 false (.t 0)) (.u (.fldA 1 1 (.t 0)) (.u (.nilc (.t 0)) (.a (.t 5))))) (.u (.lenS (.t 0)) (.a (.t 0)))))] [2, 3, 4])
 (.cond (.t 32) (.skip) (.exit 0)))
 (.block 1 (.rg [.chk [] (.u (.ld 1 false (.t 0)) (.b (.idxP 5 1 (.t 0) (.t 1)) (.a (.t 6)) (.u (.ld 1 false (.t 0)) (.b (.idxP 256 1 (.t 0) (.t 1)) (.u (.fldA 2 2 (.t 0)) (.u (.nilc (.t 0)) (.a (.t 5)))) (.b (.idx (.t 0) (.t 1)) (.a (.t 0)) (.u (.ld 1 false (.t 0)) (.u (.fldA 1 1 (.t 0)) (.u (.nilc (.t 0)) (.a (.t 5)))))))))), .lt 45 [] (.u (.ld 1 false (.t 0)) (.b (.idxP 5 1 (.t 0) (.t 1)) (.a (.t 6)) (.u (.ld 1 false (.t 0)) (.b (.idxP 256 1 (.t 0) (.t 1)) (.u (.fldA 2 2 (.t 0)) (.u (.nilc (.t 0)) (.a (.t 5)))) (.b (.idx (.t 0) (.t 1)) (.a (.t 0)) (.u (.ld 1 false (.t 0)) (.u (.fldA 1 1 (.t 0)) (.u (.nilc (.t 0)) (.a (.t 5)))))))))), .op (some 46) (.callv (.t 45) [])] [(0, (.a (.t 0))), (2, (.a (.t 2))), (3, (.a (.t 3))), (4, (.a (.t 4))), (5, (.a (.t 5))), (6, (.a (.t 6)))] [2, 3, 4]))
def lt15 : FS2 := .pre (.rg [.op (some 2) (.alloc 40 .nils), .op (some 3) (.alloc 3 (.int .i64 0)), .op (some 4) (.alloc 31 (.int .i64 0))] [(0, (.a (.t 0))), (2, (.a (.t 2))), (3, (.a (.t 3))), (4, (.a (.t 4)))] [])
 (.pre (.seq (.rg [] [(0, (.a (.t 0))), (2, (.a (.t 2))), (3, (.a (.t 3))), (4, (.a (.t 4))), (9, (.b (.bin .gtr (.t 0) (.t 1)) (.u (.lenS (.t 0)) (.a (.t 0))) (.a (.int .i64 65536))))] [])
 (.cond (.t 9) (.seq (.rg [.op none (.st 1 (.t 2) .nils), .op none (.st 1 (.t 3) (.int .i64 0)), .op none (.st 1 (.t 4) (.int .i64 2))] [(2, (.a (.t 2))), (3, (.a (.t 3))), (4, (.a (.t 4)))] [])
 (.ret)) (.skip)))
 (.dfr [.op (some 10) (.c (.mkf 41 [] [(.t 2), (.t 3), (.t 4)]))] [(0, (.a (.t 0))), (2, (.a (.t 2))), (3, (.a (.t 3))), (4, (.a (.t 4))), (10, (.a (.t 10)))] 10
 (.seq (.rg [.op (some 12) (.pcall 42 []), .lt 11 [] (.a (.t 0)), .op (some 13) (.c (.bld [(.str []), (.int .i64 0), (.agg (List.replicate 256 (.int .i64 0))), .nils] [(0, (.t 11)), (2, (.t 12))])), .op (some 14) (.box 119 (.t 13)), .op (some 5) (.mvg 44 4 (.t 14) (.t 14) [3])] [(0, (.a (.t 0))), (2, (.a (.t 2))), (3, (.a (.t 3))), (4, (.a (.t 4))), (5, (.a (.t 5)))] [2, 3, 4])
 (.seq (.rg [.lt 15 [] (.a (.t 5)), .op (some 16) (.c (.mkf 43 [(.t 15)] [])), .lt 17 [] (.a (.t 5)), .op (some 18) (.c (.mkf 44 [(.t 17)] [])), .lt 19 [] (.a (.t 5)), .op (some 20) (.c (.mkf 45 [(.t 19)] [])), .lt 21 [] (.a (.t 5)), .op (some 22) (.c (.mkf 46 [(.t 21)] [])), .lt 23 [] (.a (.t 5)), .op (some 24) (.c (.mkf 47 [(.t 23)] [])), .op (some 25) (.c (.bld [.nilf, .nilf, .nilf, .nilf, .nilf] [(0, (.t 16)), (1, (.t 18)), (2, (.t 20)), (3, (.t 22)), (4, (.t 24))])), .op (some 6) (.alloc 120 (.agg [.nilf, .nilf, .nilf, .nilf, .nilf])), .op none (.st 5 (.t 6) (.t 25))] [(0, (.a (.t 0))), (2, (.a (.t 2))), (3, (.a (.t 3))), (4, (.a (.t 4))), (5, (.a (.t 5))), (6, (.a (.t 6)))] [2, 3, 4])
 (.seq (.block 0 (.loop [0, 2, 3, 4, 5, 6] lt15_l0))
 (.seq (.rg [.chk [] (.u (.ld 1 false (.t 0)) (.u (.fldA 3 258 (.t 0)) (.u (.nilc (.t 0)) (.a (.t 5))))), .lt 50 [] (.u (.ld 1 false (.t 0)) (.u (.fldA 3 258 (.t 0)) (.u (.nilc (.t 0)) (.a (.t 5))))), .op none (.st 1 (.t 2) (.t 50)), .op none (.st 1 (.t 3) (.int .i64 0)), .op none (.st 1 (.t 4) (.int .i64 0))] [(2, (.a (.t 2))), (3, (.a (.t 3))), (4, (.a (.t 4)))] [2, 3, 4])
 (.ret)))))))
theorem lf15 : ir15.lift [] = some lt15 := by kernel_rfl
def lt38_s0 : S2 := .rg [] [(4, (.a (.t 4))), (7, (.a (.t 7))), (8, (.a (.t 8))), (9, (.b (.bin .add (.t 0) (.t 1)) (.a (.t 9)) (.a (.int .i64 1))))] []
def lt38_s1 : S2 := .seq (.rg [] [(4, (.a (.t 4))), (6, (.a (.t 6))), (7, (.a (.t 7))), (8, (.a (.t 8))), (9, (.a (.t 9))), (22, (.b (.bin .eql (.t 0) (.t 1)) (.u (.ld 1 false (.t 0)) (.u (.fldA 0 0 (.t 0)) (.a (.t 6)))) (.a (.int .i64 2))))] [])
 (.cond (.t 22) (.rg [.chk [] (.u (.ld 1 false (.t 0)) (.u (.fldA 2 2 (.t 0)) (.a (.t 6)))), .lt 24 [] (.u (.ld 1 false (.t 0)) (.u (.fldA 2 2 (.t 0)) (.a (.t 6)))), .op (some 25) (.pcall 115 [(.t 24)]), .op (some 26) (.call 114 [(.t 4), (.t 25)])] [(4, (.a (.t 4))), (7, (.a (.t 7))), (8, (.a (.t 8))), (9, (.a (.t 9)))] []) (.rg [.chk [] (.u (.ld 1 false (.t 0)) (.u (.fldA 1 1 (.t 0)) (.a (.t 6)))), .lt 28 [] (.u (.ld 1 false (.t 0)) (.u (.fldA 1 1 (.t 0)) (.a (.t 6)))), .op (some 29) (.call 114 [(.t 4), (.t 28)])] [(4, (.a (.t 4))), (7, (.a (.t 7))), (8, (.a (.t 8))), (9, (.a (.t 9)))] []))
def lt38_l2 : S2 := .seq (.rg [] [(4, (.a (.t 4))), (7, (.a (.t 7))), (8, (.a (.t 8))), (9, (.a (.t 9))), (10, (.b (.bin .lss (.t 0) (.t 1)) (.a (.t 9)) (.a (.t 8))))] [])
 (.seq (.cond (.t 10) (.skip) (.exit 0))
 (.seq (.block 1 (.seq (.rg [.chk [] (.u (.ld 4 true (.t 0)) (.b (.idxA 4 (.t 0) (.t 1)) (.a (.t 7)) (.a (.t 9)))), .lt 13 [] (.u (.ld 4 true (.t 0)) (.b (.idxA 4 (.t 0) (.t 1)) (.a (.t 7)) (.a (.t 9)))), .op (some 6) (.alloc 44 (.agg [(.int .i64 0), (.str []), (.int .i64 0), (.int .i64 0)])), .op none (.st 4 (.t 6) (.t 13))] [(4, (.a (.t 4))), (5, (.a (.t 9))), (6, (.a (.t 6))), (7, (.a (.t 7))), (8, (.a (.t 8))), (9, (.a (.t 9)))] [])
 (.seq (.seq (.rg [.chk [] (.u (.ld 4 true (.t 0)) (.a (.t 6))), .lt 14 [] (.u (.ld 4 true (.t 0)) (.a (.t 6))), .op (some 15) (.pcall 112 [(.t 14)])] [(4, (.a (.t 4))), (5, (.a (.t 5))), (6, (.a (.t 6))), (7, (.a (.t 7))), (8, (.a (.t 8))), (9, (.a (.t 9))), (16, (.u (.not (.t 0)) (.a (.t 15))))] [])
 (.cond (.t 16) (.seq (.rg [] [(2, (.a (.str []))), (3, (.a (.int .i64 90)))] [])
 (.ret)) (.skip)))
 (.seq (.seq (.rg [] [(4, (.a (.t 4))), (6, (.a (.t 6))), (7, (.a (.t 7))), (8, (.a (.t 8))), (9, (.a (.t 9))), (18, (.b (.bin .gtr (.t 0) (.t 1)) (.a (.t 5)) (.a (.int .i64 0))))] [])
 (.cond (.t 18) (.rg [.op (some 19) (.call 113 [(.t 4), (.int .u8 32)])] [(4, (.a (.t 4))), (6, (.a (.t 6))), (7, (.a (.t 7))), (8, (.a (.t 8))), (9, (.a (.t 9)))] []) (.skip)))
 (lt38_s1)))))
 (lt38_s0)))
def lt38 : S2 := .seq (.rg [] [(0, (.a (.t 0)))] [])
 (.seq (.rg [.op (some 4) (.alloc 184 (.agg [.nilp, .nils]))] [(0, (.a (.t 0))), (4, (.a (.t 4)))] [])
 (.seq (.seq (.rg [] [(4, (.a (.t 4))), (7, (.a (.t 0))), (8, (.u (.lenL (.t 0)) (.a (.t 0)))), (9, (.a (.int .i64 0)))] [])
 (.block 0 (.loop [4, 7, 8, 9] lt38_l2)))
 (.seq (.rg [.op (some 31) (.call 116 [(.t 4)])] [(2, (.a (.t 31))), (3, (.a (.int .i64 0)))] [])
 (.ret))))
theorem lf38 : ir38.lift [] = some lt38 := by kernel_rfl
def lt41_s0 : S2 := .rg [.op none (.st 1 (.t 0) .nils), .lt 17 [] (.a (.t 4)), .op none (.st 1 (.t 1) (.t 17)), .op none (.st 1 (.t 2) (.int .i64 90))] [] []
def lt41_r : List It2 := []
def lt41_k : List (Nat × E) := [(0, (.a (.t 0))), (1, (.a (.t 1))), (2, (.a (.t 2))), (3, (.a (.t 6)))]
theorem lr41 : liftR [] ir41_k [] ir41_r [] [] [] = some (lt41_r, lt41_k) := by kernel_rfl
def lt41 : S2 := .seq (.rg [] [(0, (.a (.t 0))), (1, (.a (.t 1))), (2, (.a (.t 2))), (3, (.a (.t 3))), (8, (.u (.isnil false (.t 0)) (.a (.t 3))))] [])
 (.cond (.t 8) (.seq (.rg [] [(0, (.a (.t 0))), (1, (.a (.t 1))), (2, (.a (.t 2))), (3, (.a (.t 3))), (4, (.u (.ext (.t 0) 0) (.u (.tas 113 (.int .i64 0) (.t 0)) (.a (.t 3))))), (5, (.u (.ext (.t 0) 1) (.u (.tas 113 (.int .i64 0) (.t 0)) (.a (.t 3)))))] [])
 (.seq (.seq (.rg [] [(0, (.a (.t 0))), (1, (.a (.t 1))), (2, (.a (.t 2))), (3, (.a (.t 3))), (4, (.a (.t 4))), (15, (.u (.not (.t 0)) (.a (.t 5))))] [])
 (.cond (.t 15) (.rg [.lt 16 [] (.a (.t 3)), .op none (.panic (.t 16))] [(0, (.a (.t 0))), (1, (.a (.t 1))), (2, (.a (.t 2))), (4, (.a (.t 4)))] []) (.skip)))
 (lt41_s0))) (.skip))
theorem lf41 : ir41.lift [] = some lt41 := by kernel_rfl
def lt42_l0 : S2 := .seq (.rg [] [(0, (.a (.t 0))), (35, (.a (.t 35))), (36, (.a (.t 36))), (37, (.a (.t 37))), (38, (.b (.bin .lss (.t 0) (.t 1)) (.a (.t 37)) (.a (.t 36))))] [])
 (.seq (.cond (.t 38) (.skip) (.exit 6))
 (.seq (.block 7 (.seq (.rg [] [(0, (.a (.t 0))), (6, (.u (.ld 1 false (.t 0)) (.b (.idxA 1 (.t 0) (.t 1)) (.a (.t 35)) (.a (.t 37))))), (35, (.a (.t 35))), (36, (.a (.t 36))), (37, (.a (.t 37)))] [])
 (.rg [.chk [] (.b (.idxP 256 1 (.t 0) (.t 1)) (.a (.t 0)) (.a (.t 6))), .lt 42 [] (.b (.idxP 256 1 (.t 0) (.t 1)) (.a (.t 0)) (.a (.t 6))), .op none (.st 1 (.t 42) (.int .i64 4))] [(0, (.a (.t 0))), (35, (.a (.t 35))), (36, (.a (.t 36))), (37, (.a (.t 37)))] [])))
 (.rg [] [(0, (.a (.t 0))), (35, (.a (.t 35))), (36, (.a (.t 36))), (37, (.b (.bin .add (.t 0) (.t 1)) (.a (.t 37)) (.a (.int .i64 1))))] [])))
def lt42_l1 : S2 := .seq (.rg [] [(0, (.a (.t 0))), (25, (.a (.t 25))), (26, (.a (.t 26))), (27, (.a (.t 27))), (28, (.b (.bin .lss (.t 0) (.t 1)) (.a (.t 27)) (.a (.t 26))))] [])
 (.seq (.cond (.t 28) (.skip) (.exit 4))
 (.seq (.block 5 (.seq (.rg [] [(0, (.a (.t 0))), (4, (.u (.ld 1 false (.t 0)) (.b (.idxA 1 (.t 0) (.t 1)) (.a (.t 25)) (.a (.t 27))))), (25, (.a (.t 25))), (26, (.a (.t 26))), (27, (.a (.t 27)))] [])
 (.rg [.chk [] (.b (.idxP 256 1 (.t 0) (.t 1)) (.a (.t 0)) (.a (.t 4))), .lt 32 [] (.b (.idxP 256 1 (.t 0) (.t 1)) (.a (.t 0)) (.a (.t 4))), .op none (.st 1 (.t 32) (.int .i64 1))] [(0, (.a (.t 0))), (25, (.a (.t 25))), (26, (.a (.t 26))), (27, (.a (.t 27)))] [])))
 (.rg [] [(0, (.a (.t 0))), (25, (.a (.t 25))), (26, (.a (.t 26))), (27, (.b (.bin .add (.t 0) (.t 1)) (.a (.t 27)) (.a (.int .i64 1))))] [])))
def lt42_l2 : S2 := .seq (.rg [] [(0, (.a (.t 0))), (17, (.a (.t 17))), (18, (.b (.bin .lss (.t 0) (.t 1)) (.a (.t 17)) (.a (.int .i64 10))))] [])
 (.seq (.cond (.t 18) (.skip) (.exit 2))
 (.seq (.block 3 (.seq (.rg [] [(0, (.a (.t 0))), (2, (.a (.t 17))), (17, (.a (.t 17)))] [])
 (.rg [.chk [] (.b (.idxP 256 1 (.t 0) (.t 1)) (.a (.t 0)) (.b (.bin .add (.t 0) (.t 1)) (.a (.int .i64 48)) (.a (.t 2)))), .lt 22 [] (.b (.idxP 256 1 (.t 0) (.t 1)) (.a (.t 0)) (.b (.bin .add (.t 0) (.t 1)) (.a (.int .i64 48)) (.a (.t 2)))), .op none (.st 1 (.t 22) (.int .i64 3))] [(0, (.a (.t 0))), (17, (.a (.t 17)))] [])))
 (.rg [] [(0, (.a (.t 0))), (17, (.b (.bin .add (.t 0) (.t 1)) (.a (.t 17)) (.a (.int .i64 1))))] [])))
def lt42_l3 : S2 := .seq (.rg [] [(0, (.a (.t 0))), (7, (.a (.t 7))), (8, (.b (.bin .lss (.t 0) (.t 1)) (.a (.t 7)) (.a (.int .i64 26))))] [])
 (.seq (.cond (.t 8) (.skip) (.exit 0))
 (.seq (.block 1 (.seq (.rg [] [(0, (.a (.t 0))), (1, (.a (.t 7))), (7, (.a (.t 7)))] [])
 (.rg [.chk [] (.b (.idxP 256 1 (.t 0) (.t 1)) (.a (.t 0)) (.b (.bin .add (.t 0) (.t 1)) (.a (.int .i64 65)) (.a (.t 1)))), .chk [] (.b (.bin .add (.t 0) (.t 1)) (.a (.int .i64 97)) (.a (.t 1))), .lt 14 [] (.b (.idxP 256 1 (.t 0) (.t 1)) (.a (.t 0)) (.b (.bin .add (.t 0) (.t 1)) (.a (.int .i64 65)) (.a (.t 1)))), .op none (.st 1 (.t 14) (.int .i64 2)), .chk [] (.b (.idxP 256 1 (.t 0) (.t 1)) (.a (.t 0)) (.b (.bin .add (.t 0) (.t 1)) (.a (.int .i64 97)) (.a (.t 1)))), .lt 15 [] (.b (.idxP 256 1 (.t 0) (.t 1)) (.a (.t 0)) (.b (.bin .add (.t 0) (.t 1)) (.a (.int .i64 97)) (.a (.t 1)))), .op none (.st 1 (.t 15) (.int .i64 2))] [(0, (.a (.t 0))), (7, (.a (.t 7)))] [])))
 (.rg [] [(0, (.a (.t 0))), (7, (.b (.bin .add (.t 0) (.t 1)) (.a (.t 7)) (.a (.int .i64 1))))] [])))
def lt42 : S2 := .seq (.rg [.op (some 0) (.alloc 116 (.agg (List.replicate 256 (.int .i64 0))))] [(0, (.a (.t 0)))] [])
 (.seq (.seq (.rg [] [(0, (.a (.t 0))), (7, (.a (.int .i64 0)))] [])
 (.block 0 (.loop [0, 7] lt42_l3)))
 (.seq (.seq (.rg [] [(0, (.a (.t 0))), (17, (.a (.int .i64 0)))] [])
 (.block 2 (.loop [0, 17] lt42_l2)))
 (.seq (.seq (.rg [.op (some 24) (.blo 5 1 [(.int .u8 0), (.int .u8 0), (.int .u8 0), (.int .u8 0)] [(0, (.int .u8 32)), (1, (.int .u8 9)), (2, (.int .u8 10)), (3, (.int .u8 13))]), .op (some 25) (.cvb (.t 24))] [(0, (.a (.t 0))), (25, (.a (.t 25))), (26, (.u (.lenL (.t 0)) (.a (.t 25)))), (27, (.a (.int .i64 0)))] [])
 (.block 4 (.loop [0, 25, 26, 27] lt42_l1)))
 (.seq (.seq (.rg [.op (some 34) (.blo 5 1 (List.replicate 15 (.int .u8 0)) [(0, (.int .u8 123)), (1, (.int .u8 125)), (2, (.int .u8 40)), (3, (.int .u8 41)), (4, (.int .u8 59)), (5, (.int .u8 44)), (6, (.int .u8 61)), (7, (.int .u8 35)), (8, (.int .u8 47)), (9, (.int .u8 60)), (10, (.int .u8 33)), (11, (.int .u8 45)), (12, (.int .u8 46)), (13, (.int .u8 58)), (14, (.int .u8 43))]), .op (some 35) (.cvb (.t 34))] [(0, (.a (.t 0))), (35, (.a (.t 35))), (36, (.u (.lenL (.t 0)) (.a (.t 35)))), (37, (.a (.int .i64 0)))] [])
 (.block 6 (.loop [0, 35, 36, 37] lt42_l0)))
 (.seq (.rg [.chk [] (.u (.ld 256 true (.t 0)) (.a (.t 0))), .lt 44 [] (.u (.ld 256 true (.t 0)) (.a (.t 0))), .op none (.st 256 (.t 0) (.t 44))] [(0, (.a (.t 0)))] [])
 (.ret))))))
theorem lf42 : ir42.lift [] = some lt42 := by kernel_rfl
def lt43 : S2 := .rg [.chk [] (.u (.mki 113 (.t 0)) (.u (.ld 1 false (.t 0)) (.u (.fldA 1 1 (.t 0)) (.u (.nilc (.t 0)) (.a (.t 0)))))), .lt 6 [] (.u (.mki 113 (.t 0)) (.u (.ld 1 false (.t 0)) (.u (.fldA 1 1 (.t 0)) (.u (.nilc (.t 0)) (.a (.t 0)))))), .op none (.panic (.t 6))] [] []
theorem lf43 : ir43.lift [] = some lt43 := by kernel_rfl
def lt44 : S2 := .rg [.chk [] (.u (.fldA 1 1 (.t 0)) (.u (.nilc (.t 0)) (.a (.t 0)))), .chk [] (.b (.bin .add (.t 0) (.t 1)) (.u (.ld 1 false (.t 0)) (.u (.fldA 1 1 (.t 0)) (.u (.nilc (.t 0)) (.a (.t 0))))) (.a (.int .i64 1))), .lt 8 [] (.u (.fldA 1 1 (.t 0)) (.u (.nilc (.t 0)) (.a (.t 0)))), .lt 6 [] (.b (.bin .add (.t 0) (.t 1)) (.u (.ld 1 false (.t 0)) (.u (.fldA 1 1 (.t 0)) (.u (.nilc (.t 0)) (.a (.t 0))))) (.a (.int .i64 1))), .op none (.st 1 (.t 8) (.t 6))] [] []
theorem lf44 : ir44.lift [] = some lt44 := by kernel_rfl
def lt45_s0 : S2 := .rg [.chk [] (.u (.ld 1 false (.t 0)) (.a (.t 1))), .lt 15 [] (.a (.t 2)), .lt 14 [] (.u (.ld 1 false (.t 0)) (.a (.t 1))), .op (some 16) (.c (.bld [(.int .i64 0), (.str []), (.int .i64 0), (.int .i64 0)] [(0, (.int .i64 1)), (1, (.t 15))])), .chk [] (.u (.lenS (.t 0)) (.a (.t 2))), .lt 18 [] (.u (.lenS (.t 0)) (.a (.t 2))), .op (some 19) (.call 120 [(.t 14), (.t 16), (.t 18)])] [] []
def lt45 : S2 := .seq (.rg [.op (some 1) (.box 115 (.t 0))] [(1, (.a (.t 1)))] [])
 (.seq (.rg [.chk [] (.u (.ld 1 false (.t 0)) (.a (.t 1))), .lt 3 [] (.u (.ld 1 false (.t 0)) (.a (.t 1))), .op (some 4) (.c (.mkf 119 [] [(.t 1)])), .op (some 5) (.pcall 118 [(.t 3), (.t 4)])] [(1, (.a (.t 1))), (2, (.a (.t 5)))] [])
 (.seq (.seq (.rg [] [(1, (.a (.t 1))), (2, (.a (.t 2))), (8, (.b (.bin .gtr (.t 0) (.t 1)) (.u (.lenS (.t 0)) (.a (.t 2))) (.a (.int .i64 32))))] [])
 (.cond (.t 8) (.rg [.chk [] (.u (.mki 113 (.t 0)) (.u (.ld 1 false (.t 0)) (.u (.fldA 1 1 (.t 0)) (.u (.nilc (.t 0)) (.u (.ld 1 false (.t 0)) (.a (.t 1))))))), .lt 13 [] (.u (.mki 113 (.t 0)) (.u (.ld 1 false (.t 0)) (.u (.fldA 1 1 (.t 0)) (.u (.nilc (.t 0)) (.u (.ld 1 false (.t 0)) (.a (.t 1))))))), .op none (.panic (.t 13))] [(1, (.a (.t 1))), (2, (.a (.t 2)))] []) (.skip)))
 (lt45_s0)))
theorem lf45 : ir45.lift [] = some lt45 := by kernel_rfl
def lt46_s0 : S2 := .rg [] [(1, (.a (.t 1))), (2, (.a (.t 2))), (3, (.a (.t 3))), (9, (.a (.t 9))), (10, (.b (.bin .add (.t 0) (.t 1)) (.a (.t 10)) (.a (.int .i64 1))))] []
def lt46_l1 : S2 := .seq (.rg [] [(1, (.a (.t 1))), (2, (.a (.t 2))), (3, (.a (.t 3))), (9, (.a (.t 9))), (10, (.a (.t 10))), (11, (.b (.bin .lss (.t 0) (.t 1)) (.a (.t 10)) (.a (.t 9))))] [])
 (.seq (.cond (.t 11) (.skip) (.exit 0))
 (.seq (.block 1 (.seq (.rg [] [(1, (.a (.t 1))), (2, (.a (.t 2))), (3, (.a (.t 3))), (4, (.a (.t 10))), (9, (.a (.t 9))), (10, (.a (.t 10)))] [])
 (.seq (.rg [] [(1, (.a (.t 1))), (2, (.a (.t 2))), (3, (.b (.bin .add (.t 0) (.t 1)) (.b (.bin .mul (.t 0) (.t 1)) (.a (.int .i64 10)) (.a (.t 3))) (.u (.cvi .i64 (.t 0)) (.b (.bin .sub (.t 0) (.t 1)) (.b (.idx (.t 0) (.t 1)) (.a (.t 2)) (.a (.t 4))) (.a (.int .u8 48)))))), (4, (.a (.t 4))), (9, (.a (.t 9))), (10, (.a (.t 10)))] [])
 (.seq (.rg [] [(1, (.a (.t 1))), (2, (.a (.t 2))), (3, (.a (.t 3))), (9, (.a (.t 9))), (10, (.a (.t 10))), (31, (.ite (.b (.bin .gtr (.t 0) (.t 1)) (.a (.t 3)) (.a (.int .i64 1099511627776))) (.a (.bool true)) (.ite (.b (.bin .gtr (.t 0) (.t 1)) (.a (.t 4)) (.a (.int .i64 0))) (.b (.bin .eql (.t 0) (.t 1)) (.b (.idx (.t 0) (.t 1)) (.a (.t 2)) (.a (.int .i64 0))) (.a (.int .u8 48))) (.a (.bool false)))))] [])
 (.cond (.t 31) (.rg [.chk [] (.u (.mki 113 (.t 0)) (.u (.ld 1 false (.t 0)) (.u (.fldA 1 1 (.t 0)) (.u (.nilc (.t 0)) (.u (.ld 1 false (.t 0)) (.a (.t 1))))))), .lt 36 [] (.u (.mki 113 (.t 0)) (.u (.ld 1 false (.t 0)) (.u (.fldA 1 1 (.t 0)) (.u (.nilc (.t 0)) (.u (.ld 1 false (.t 0)) (.a (.t 1))))))), .op none (.panic (.t 36))] [(1, (.a (.t 1))), (2, (.a (.t 2))), (3, (.a (.t 3))), (9, (.a (.t 9))), (10, (.a (.t 10)))] []) (.skip))))))
 (lt46_s0)))
def lt46 : S2 := .seq (.rg [.op (some 1) (.box 115 (.t 0))] [(1, (.a (.t 1)))] [])
 (.seq (.rg [.chk [] (.u (.ld 1 false (.t 0)) (.a (.t 1))), .lt 5 [] (.u (.ld 1 false (.t 0)) (.a (.t 1))), .op (some 6) (.c (.mkf 121 [] [(.t 1)])), .op (some 7) (.pcall 118 [(.t 5), (.t 6)])] [(1, (.a (.t 1))), (2, (.a (.t 7)))] [])
 (.seq (.rg [] [(1, (.a (.t 1))), (2, (.a (.t 2))), (3, (.a (.int .i64 0)))] [])
 (.seq (.seq (.rg [] [(1, (.a (.t 1))), (2, (.a (.t 2))), (3, (.a (.t 3))), (9, (.u (.lenS (.t 0)) (.a (.t 2)))), (10, (.a (.int .i64 0)))] [])
 (.block 0 (.loop [1, 2, 3, 9, 10] lt46_l1)))
 (.rg [.chk [] (.u (.ld 1 false (.t 0)) (.a (.t 1))), .lt 39 [] (.a (.t 3)), .lt 38 [] (.u (.ld 1 false (.t 0)) (.a (.t 1))), .op (some 40) (.c (.bld [(.int .i64 0), (.str []), (.int .i64 0), (.int .i64 0)] [(0, (.int .i64 2)), (2, (.t 39))])), .chk [] (.u (.lenS (.t 0)) (.a (.t 2))), .lt 42 [] (.u (.lenS (.t 0)) (.a (.t 2))), .op (some 43) (.call 120 [(.t 38), (.t 40), (.t 42)])] [] []))))
theorem lf46 : ir46.lift [] = some lt46 := by kernel_rfl
def lt47 : S2 := .seq (.seq (.rg [.chk [] (.b (.slcS (.t 0) (some (.t 1)) none) (.u (.ld 1 false (.t 0)) (.u (.fldA 0 0 (.t 0)) (.u (.nilc (.t 0)) (.a (.t 0))))) (.u (.ld 1 false (.t 0)) (.u (.fldA 1 1 (.t 0)) (.u (.nilc (.t 0)) (.a (.t 0)))))), .lt 10 [] (.b (.slcS (.t 0) (some (.t 1)) none) (.u (.ld 1 false (.t 0)) (.u (.fldA 0 0 (.t 0)) (.u (.nilc (.t 0)) (.a (.t 0))))) (.u (.ld 1 false (.t 0)) (.u (.fldA 1 1 (.t 0)) (.u (.nilc (.t 0)) (.a (.t 0)))))), .op (some 11) (.pcall 122 [(.t 10), (.str [47, 47])])] [(0, (.a (.t 0))), (11, (.a (.t 11)))] [])
 (.cond (.t 11) (.seq (.rg [.chk [] (.u (.ld 1 false (.t 0)) (.u (.fldA 1 1 (.t 0)) (.u (.nilc (.t 0)) (.a (.t 0))))), .lt 15 [] (.u (.ld 1 false (.t 0)) (.u (.fldA 1 1 (.t 0)) (.u (.nilc (.t 0)) (.a (.t 0))))), .lt 16 [] (.a (.t 0)), .op (some 17) (.pcall 118 [(.t 16), (.fn 123)]), .chk [] (.u (.fldA 1 1 (.t 0)) (.u (.nilc (.t 0)) (.a (.t 0)))), .chk [] (.b (.bin .add (.t 0) (.t 1)) (.a (.t 15)) (.u (.lenS (.t 0)) (.a (.t 17)))), .lt 21 [] (.u (.fldA 1 1 (.t 0)) (.u (.nilc (.t 0)) (.a (.t 0)))), .lt 19 [] (.b (.bin .add (.t 0) (.t 1)) (.a (.t 15)) (.u (.lenS (.t 0)) (.a (.t 17)))), .op none (.st 1 (.t 21) (.t 19))] [] [])
 (.ret)) (.skip)))
 (.rg [.chk [] (.t (.slcS (.t 0) (some (.t 1)) (some (.t 2))) (.u (.ld 1 false (.t 0)) (.u (.fldA 0 0 (.t 0)) (.u (.nilc (.t 0)) (.a (.t 0))))) (.u (.ld 1 false (.t 0)) (.u (.fldA 1 1 (.t 0)) (.u (.nilc (.t 0)) (.a (.t 0))))) (.b (.bin .add (.t 0) (.t 1)) (.u (.ld 1 false (.t 0)) (.u (.fldA 1 1 (.t 0)) (.u (.nilc (.t 0)) (.a (.t 0))))) (.a (.int .i64 1)))), .lt 36 [] (.t (.slcS (.t 0) (some (.t 1)) (some (.t 2))) (.u (.ld 1 false (.t 0)) (.u (.fldA 0 0 (.t 0)) (.u (.nilc (.t 0)) (.a (.t 0))))) (.u (.ld 1 false (.t 0)) (.u (.fldA 1 1 (.t 0)) (.u (.nilc (.t 0)) (.a (.t 0))))) (.b (.bin .add (.t 0) (.t 1)) (.u (.ld 1 false (.t 0)) (.u (.fldA 1 1 (.t 0)) (.u (.nilc (.t 0)) (.a (.t 0))))) (.a (.int .i64 1)))), .op (some 37) (.c (.bld [(.int .i64 0), (.str []), (.int .i64 0), (.int .i64 0)] [(0, (.int .i64 3)), (1, (.t 36))])), .lt 22 [] (.a (.t 0)), .op (some 38) (.call 120 [(.t 22), (.t 37), (.int .i64 1)])] [] [])
theorem lf47 : ir47.lift [] = some lt47 := by kernel_rfl
def lt79 : S2 := .seq (.rg [] [(0, (.a (.t 0)))] [])
 (.seq (.rg [] [(2, (.ite (.ite (.ite (.b (.bin .eql (.t 0) (.t 1)) (.a (.t 0)) (.a (.int .u8 32))) (.a (.bool true)) (.b (.bin .eql (.t 0) (.t 1)) (.a (.t 0)) (.a (.int .u8 9)))) (.a (.bool true)) (.b (.bin .eql (.t 0) (.t 1)) (.a (.t 0)) (.a (.int .u8 10)))) (.a (.bool true)) (.b (.bin .eql (.t 0) (.t 1)) (.a (.t 0)) (.a (.int .u8 13)))))] [])
 (.ret))
theorem lf79 : ir79.lift [] = some lt79 := by kernel_rfl
def lt80 : S2 := .seq (.rg [] [(0, (.a (.t 0)))] [])
 (.seq (.rg [] [(2, (.ite (.ite (.b (.bin .geq (.t 0) (.t 1)) (.a (.t 0)) (.a (.int .u8 97))) (.b (.bin .leq (.t 0) (.t 1)) (.a (.t 0)) (.a (.int .u8 122))) (.a (.bool false))) (.a (.bool true)) (.ite (.b (.bin .geq (.t 0) (.t 1)) (.a (.t 0)) (.a (.int .u8 65))) (.b (.bin .leq (.t 0) (.t 1)) (.a (.t 0)) (.a (.int .u8 90))) (.a (.bool false)))))] [])
 (.ret))
theorem lf80 : ir80.lift [] = some lt80 := by kernel_rfl
def lt81 : S2 := .seq (.rg [] [(0, (.a (.t 0)))] [])
 (.seq (.rg [] [(2, (.ite (.ite (.call 80 (.cons (.a (.t 0)) .nil)) (.a (.bool true)) (.call 83 (.cons (.a (.t 0)) .nil))) (.a (.bool true)) (.b (.bin .eql (.t 0) (.t 1)) (.a (.t 0)) (.a (.int .u8 95)))))] [])
 (.ret))
theorem lf81 : ir81.lift [80, 83] = some lt81 := by kernel_rfl
def lt82_l0 : S2 := .seq (.seq (.rg [] [(0, (.a (.t 0))), (3, (.a (.t 3))), (21, (.b (.bin .lss (.t 0) (.t 1)) (.a (.t 3)) (.u (.lenS (.t 0)) (.a (.t 0)))))] [])
 (.cond (.t 21) (.skip) (.exit 0)))
 (.seq (.block 1 (.seq (.rg [] [(0, (.a (.t 0))), (3, (.a (.t 3))), (28, (.u (.not (.t 0)) (.call 81 (.cons (.b (.idx (.t 0) (.t 1)) (.a (.t 0)) (.a (.t 3))) .nil))))] [])
 (.cond (.t 28) (.seq (.rg [] [(2, (.a (.bool false)))] [])
 (.ret)) (.skip))))
 (.rg [] [(0, (.a (.t 0))), (3, (.b (.bin .add (.t 0) (.t 1)) (.a (.t 3)) (.a (.int .i64 1))))] []))
def lt82 : S2 := .seq (.rg [] [(0, (.a (.t 0)))] [])
 (.seq (.seq (.rg [] [(0, (.a (.t 0))), (17, (.ite (.ite (.b (.bin .lss (.t 0) (.t 1)) (.u (.lenS (.t 0)) (.a (.t 0))) (.a (.int .i64 1))) (.a (.bool true)) (.b (.bin .gtr (.t 0) (.t 1)) (.u (.lenS (.t 0)) (.a (.t 0))) (.a (.int .i64 32)))) (.a (.bool true)) (.u (.not (.t 0)) (.call 80 (.cons (.b (.idx (.t 0) (.t 1)) (.a (.t 0)) (.a (.int .i64 0))) .nil)))))] [])
 (.cond (.t 17) (.seq (.rg [] [(2, (.a (.bool false)))] [])
 (.ret)) (.skip)))
 (.seq (.seq (.rg [] [(0, (.a (.t 0))), (3, (.a (.int .i64 0)))] [])
 (.block 0 (.loop [0, 3] lt82_l0)))
 (.seq (.rg [] [(2, (.a (.bool true)))] [])
 (.ret))))
theorem lf82 : ir82.lift [80, 81] = some lt82 := by kernel_rfl
def lt83 : S2 := .seq (.rg [] [(0, (.a (.t 0)))] [])
 (.seq (.rg [] [(2, (.ite (.b (.bin .geq (.t 0) (.t 1)) (.a (.t 0)) (.a (.int .u8 48))) (.b (.bin .leq (.t 0) (.t 1)) (.a (.t 0)) (.a (.int .u8 57))) (.a (.bool false))))] [])
 (.ret))
theorem lf83 : ir83.lift [] = some lt83 := by kernel_rfl
def lt84_l0 : S2 := .seq (.seq (.rg [] [(0, (.a (.t 0))), (4, (.a (.t 4))), (5, (.a (.t 5))), (9, (.b (.bin .lss (.t 0) (.t 1)) (.a (.t 5)) (.u (.lenS (.t 0)) (.a (.t 0)))))] [])
 (.cond (.t 9) (.skip) (.exit 0)))
 (.seq (.block 1 (.seq (.rg [] [(0, (.a (.t 0))), (4, (.b (.bin .add (.t 0) (.t 1)) (.b (.bin .mul (.t 0) (.t 1)) (.a (.int .i64 10)) (.a (.t 4))) (.u (.cvi .i64 (.t 0)) (.b (.bin .sub (.t 0) (.t 1)) (.b (.idx (.t 0) (.t 1)) (.a (.t 0)) (.a (.t 5))) (.a (.int .u8 48)))))), (5, (.a (.t 5)))] [])
 (.seq (.rg [] [(0, (.a (.t 0))), (4, (.a (.t 4))), (5, (.a (.t 5))), (21, (.b (.bin .gtr (.t 0) (.t 1)) (.a (.t 4)) (.a (.int .i64 1099511627776))))] [])
 (.cond (.t 21) (.seq (.rg [] [(2, (.a (.int .i64 0))), (3, (.a (.bool false)))] [])
 (.ret)) (.skip)))))
 (.rg [] [(0, (.a (.t 0))), (4, (.a (.t 4))), (5, (.b (.bin .add (.t 0) (.t 1)) (.a (.t 5)) (.a (.int .i64 1))))] []))
def lt84 : S2 := .seq (.rg [] [(0, (.a (.t 0)))] [])
 (.seq (.rg [] [(0, (.a (.t 0))), (4, (.a (.int .i64 0)))] [])
 (.seq (.seq (.rg [] [(0, (.a (.t 0))), (4, (.a (.t 4))), (5, (.a (.int .i64 0)))] [])
 (.block 0 (.loop [0, 4, 5] lt84_l0)))
 (.seq (.rg [] [(2, (.a (.t 4))), (3, (.ite (.b (.bin .eql (.t 0) (.t 1)) (.u (.lenS (.t 0)) (.a (.t 0))) (.a (.int .i64 1))) (.a (.bool true)) (.b (.bin .neq (.t 0) (.t 1)) (.b (.idx (.t 0) (.t 1)) (.a (.t 0)) (.a (.int .i64 0))) (.a (.int .u8 48)))))] [])
 (.ret))))
theorem lf84 : ir84.lift [] = some lt84 := by kernel_rfl
def lt85_l0 : S2 := .seq (.seq (.rg [] [(0, (.a (.t 0))), (3, (.a (.t 3))), (4, (.a (.t 4))), (8, (.b (.bin .lss (.t 0) (.t 1)) (.a (.t 4)) (.u (.lenS (.t 0)) (.a (.t 3)))))] [])
 (.cond (.t 8) (.skip) (.exit 0)))
 (.seq (.block 1 (.seq (.rg [] [(0, (.a (.t 0))), (3, (.a (.t 3))), (4, (.a (.t 4))), (15, (.b (.bin .eql (.t 0) (.t 1)) (.b (.idx (.t 0) (.t 1)) (.a (.t 3)) (.a (.t 4))) (.a (.t 0))))] [])
 (.cond (.t 15) (.seq (.rg [] [(2, (.a (.bool true)))] [])
 (.ret)) (.skip))))
 (.rg [] [(0, (.a (.t 0))), (3, (.a (.t 3))), (4, (.b (.bin .add (.t 0) (.t 1)) (.a (.t 4)) (.a (.int .i64 1))))] []))
def lt85 : S2 := .seq (.rg [] [(0, (.a (.t 0)))] [])
 (.seq (.rg [] [(0, (.a (.t 0))), (3, (.a (.str [123, 125, 40, 41, 59, 44, 61, 35, 47, 60, 33, 45, 46, 58, 43])))] [])
 (.seq (.seq (.rg [] [(0, (.a (.t 0))), (3, (.a (.t 3))), (4, (.a (.int .i64 0)))] [])
 (.block 0 (.loop [0, 3, 4] lt85_l0)))
 (.seq (.rg [] [(2, (.a (.bool false)))] [])
 (.ret))))
theorem lf85 : ir85.lift [] = some lt85 := by kernel_rfl
def lt100_l0 : S2 := .seq (.rg [] [(0, (.a (.t 0))), (14, (.a (.t 14))), (15, (.a (.t 15))), (16, (.b (.bin .lss (.t 0) (.t 1)) (.a (.t 15)) (.a (.t 14))))] [])
 (.seq (.cond (.t 16) (.skip) (.exit 0))
 (.seq (.block 1 (.seq (.rg [] [(0, (.a (.t 0))), (3, (.a (.t 15))), (14, (.a (.t 14))), (15, (.a (.t 15)))] [])
 (.seq (.rg [] [(0, (.a (.t 0))), (3, (.a (.t 3))), (4, (.b (.idx (.t 0) (.t 1)) (.a (.t 0)) (.a (.t 3)))), (14, (.a (.t 14))), (15, (.a (.t 15)))] [])
 (.seq (.rg [] [(0, (.a (.t 0))), (3, (.a (.t 3))), (4, (.a (.t 4))), (5, (.ite (.ite (.b (.bin .geq (.t 0) (.t 1)) (.a (.t 4)) (.a (.int .u8 65))) (.b (.bin .leq (.t 0) (.t 1)) (.a (.t 4)) (.a (.int .u8 90))) (.a (.bool false))) (.a (.bool true)) (.ite (.b (.bin .geq (.t 0) (.t 1)) (.a (.t 4)) (.a (.int .u8 97))) (.b (.bin .leq (.t 0) (.t 1)) (.a (.t 4)) (.a (.int .u8 122))) (.a (.bool false))))), (14, (.a (.t 14))), (15, (.a (.t 15)))] [])
 (.seq (.rg [] [(0, (.a (.t 0))), (14, (.a (.t 14))), (15, (.a (.t 15))), (52, (.ite (.u (.not (.t 0)) (.a (.t 5))) (.ite (.b (.bin .eql (.t 0) (.t 1)) (.a (.t 3)) (.a (.int .i64 0))) (.a (.bool true)) (.ite (.b (.bin .neq (.t 0) (.t 1)) (.a (.t 4)) (.a (.int .u8 95))) (.ite (.b (.bin .lss (.t 0) (.t 1)) (.a (.t 4)) (.a (.int .u8 48))) (.a (.bool true)) (.b (.bin .gtr (.t 0) (.t 1)) (.a (.t 4)) (.a (.int .u8 57)))) (.a (.bool false)))) (.a (.bool false))))] [])
 (.cond (.t 52) (.seq (.rg [] [(2, (.a (.bool false)))] [])
 (.ret)) (.skip)))))))
 (.rg [] [(0, (.a (.t 0))), (14, (.a (.t 14))), (15, (.b (.bin .add (.t 0) (.t 1)) (.a (.t 15)) (.a (.int .i64 1))))] [])))
def lt100 : S2 := .seq (.rg [] [(0, (.a (.t 0)))] [])
 (.seq (.seq (.rg [] [(0, (.a (.t 0))), (12, (.ite (.b (.bin .eql (.t 0) (.t 1)) (.a (.t 0)) (.a (.str []))) (.a (.bool true)) (.b (.bin .gtr (.t 0) (.t 1)) (.u (.lenS (.t 0)) (.a (.t 0))) (.a (.int .i64 32)))))] [])
 (.cond (.t 12) (.seq (.rg [] [(2, (.a (.bool false)))] [])
 (.ret)) (.skip)))
 (.seq (.seq (.rg [] [(0, (.a (.t 0))), (14, (.u (.lenS (.t 0)) (.a (.t 0)))), (15, (.a (.int .i64 0)))] [])
 (.block 0 (.loop [0, 14, 15] lt100_l0)))
 (.seq (.rg [] [(2, (.a (.bool true)))] [])
 (.ret))))
theorem lf100 : ir100.lift [] = some lt100 := by kernel_rfl
def lt112 : S2 := .seq (.rg [.op (some 1) (.box 44 (.t 0))] [(1, (.a (.t 1)))] [])
 (.seq (.seq (.rg [] [(1, (.a (.t 1))), (4, (.u (.ld 1 false (.t 0)) (.u (.fldA 0 0 (.t 0)) (.a (.t 1)))))] [])
 (.block 0 (.seq (.rg [] [(1, (.a (.t 1))), (4, (.a (.t 4))), (5, (.b (.bin .eql (.t 0) (.t 1)) (.a (.t 4)) (.a (.int .i64 1))))] [])
 (.cond (.t 5) (.seq (.rg [] [(2, (.ite (.call 100 (.cons (.u (.ld 1 false (.t 0)) (.u (.fldA 1 1 (.t 0)) (.a (.t 1)))) .nil)) (.b (.bin .eql (.t 0) (.t 1)) (.u (.ld 1 false (.t 0)) (.u (.fldA 2 2 (.t 0)) (.a (.t 1)))) (.a (.int .i64 0))) (.a (.bool false))))] [])
 (.ret)) (.seq (.rg [] [(1, (.a (.t 1))), (4, (.a (.t 4))), (15, (.b (.bin .eql (.t 0) (.t 1)) (.a (.t 4)) (.a (.int .i64 2))))] [])
 (.cond (.t 15) (.seq (.rg [] [(2, (.ite (.ite (.b (.bin .eql (.t 0) (.t 1)) (.u (.ld 1 false (.t 0)) (.u (.fldA 1 1 (.t 0)) (.a (.t 1)))) (.a (.str []))) (.b (.bin .geq (.t 0) (.t 1)) (.u (.ld 1 false (.t 0)) (.u (.fldA 2 2 (.t 0)) (.a (.t 1)))) (.a (.int .i64 0))) (.a (.bool false))) (.b (.bin .leq (.t 0) (.t 1)) (.u (.ld 1 false (.t 0)) (.u (.fldA 2 2 (.t 0)) (.a (.t 1)))) (.a (.int .i64 1099511627776))) (.a (.bool false))))] [])
 (.ret)) (.seq (.rg [] [(1, (.a (.t 1))), (30, (.b (.bin .eql (.t 0) (.t 1)) (.a (.t 4)) (.a (.int .i64 3))))] [])
 (.cond (.t 30) (.seq (.rg [] [(2, (.ite (.ite (.b (.bin .eql (.t 0) (.t 1)) (.u (.lenS (.t 0)) (.u (.ld 1 false (.t 0)) (.u (.fldA 1 1 (.t 0)) (.a (.t 1))))) (.a (.int .i64 1))) (.call 170 (.cons (.a (.str [123, 125, 40, 41, 59, 44, 61, 35, 47, 60, 33, 45, 46, 58, 43])) (.cons (.u (.ld 1 false (.t 0)) (.u (.fldA 1 1 (.t 0)) (.a (.t 1)))) .nil))) (.a (.bool false))) (.b (.bin .eql (.t 0) (.t 1)) (.u (.ld 1 false (.t 0)) (.u (.fldA 2 2 (.t 0)) (.a (.t 1)))) (.a (.int .i64 0))) (.a (.bool false))))] [])
 (.ret)) (.skip)))))))))
 (.seq (.rg [] [(2, (.a (.bool false)))] [])
 (.ret)))
theorem lf112 : ir112.lift [100, 170] = some lt112 := by kernel_rfl
def lt113 : S2 := .seq (.rg [] [(0, (.a (.t 0))), (1, (.a (.t 1)))] [])
 (.seq (.rg [.lt 5 [] (.a (.t 0)), .op (some 6) (.call 171 [(.t 5)])] [(0, (.a (.t 0))), (1, (.a (.t 1)))] [])
 (.seq (.rg [.chk [] (.u (.ld 1 false (.t 0)) (.u (.fldA 1 1 (.t 0)) (.u (.nilc (.t 0)) (.a (.t 0))))), .lt 12 [] (.a (.t 1)), .lt 11 [] (.u (.ld 1 false (.t 0)) (.u (.fldA 1 1 (.t 0)) (.u (.nilc (.t 0)) (.a (.t 0))))), .op (some 13) (.bls 1 [(.int .u8 0)] [(0, (.t 12))]), .op (some 14) (.app 5 1 1 (.t 11) (.t 13)), .chk [] (.u (.fldA 1 1 (.t 0)) (.u (.nilc (.t 0)) (.a (.t 0)))), .lt 16 [] (.u (.fldA 1 1 (.t 0)) (.u (.nilc (.t 0)) (.a (.t 0)))), .op none (.st 1 (.t 16) (.t 14))] [] [])
 (.seq (.rg [] [(4, (.a .nili))] [])
 (.ret))))
theorem lf113 : ir113.lift [] = some lt113 := by kernel_rfl
def lt114 : S2 := .seq (.rg [] [(0, (.a (.t 0))), (1, (.a (.t 1)))] [])
 (.seq (.rg [.lt 6 [] (.a (.t 0)), .op (some 7) (.call 171 [(.t 6)])] [(0, (.a (.t 0))), (1, (.a (.t 1)))] [])
 (.seq (.rg [.chk [] (.u (.ld 1 false (.t 0)) (.u (.fldA 1 1 (.t 0)) (.u (.nilc (.t 0)) (.a (.t 0))))), .lt 13 [] (.a (.t 1)), .lt 12 [] (.u (.ld 1 false (.t 0)) (.u (.fldA 1 1 (.t 0)) (.u (.nilc (.t 0)) (.a (.t 0))))), .op (some 14) (.appS 5 1 (.t 12) (.t 13)), .chk [] (.u (.fldA 1 1 (.t 0)) (.u (.nilc (.t 0)) (.a (.t 0)))), .lt 16 [] (.u (.fldA 1 1 (.t 0)) (.u (.nilc (.t 0)) (.a (.t 0)))), .op none (.st 1 (.t 16) (.t 14))] [(1, (.a (.t 1)))] [])
 (.seq (.rg [] [(4, (.u (.lenS (.t 0)) (.a (.t 1)))), (5, (.a .nili))] [])
 (.ret))))
theorem lf114 : ir114.lift [] = some lt114 := by kernel_rfl
def lt116 : S2 := .seq (.rg [] [(0, (.a (.t 0)))] [])
 (.seq (.rg [.chk [] (.u (.lenL (.t 0)) (.u (.ld 1 false (.t 0)) (.u (.fldA 1 1 (.t 0)) (.u (.nilc (.t 0)) (.a (.t 0)))))), .chk [] (.u (.usd (.t 0)) (.u (.ld 1 false (.t 0)) (.u (.fldA 1 1 (.t 0)) (.u (.nilc (.t 0)) (.a (.t 0)))))), .lt 12 [] (.u (.lenL (.t 0)) (.u (.ld 1 false (.t 0)) (.u (.fldA 1 1 (.t 0)) (.u (.nilc (.t 0)) (.a (.t 0)))))), .lt 7 [] (.u (.usd (.t 0)) (.u (.ld 1 false (.t 0)) (.u (.fldA 1 1 (.t 0)) (.u (.nilc (.t 0)) (.a (.t 0)))))), .op (some 13) (.ustr 5 (.t 7) (.t 12))] [(2, (.a (.t 13)))] [])
 (.ret))
theorem lf116 : ir116.lift [] = some lt116 := by kernel_rfl
def lt118_l0 : S2 := .seq (.seq (.rg [.chk [((.b (.bin .lss (.t 0) (.t 1)) (.a (.t 5)) (.u (.lenS (.t 0)) (.u (.ld 1 false (.t 0)) (.u (.fldA 0 0 (.t 0)) (.u (.nilc (.t 0)) (.a (.t 0))))))), true)] (.b (.idx (.t 0) (.t 1)) (.u (.ld 1 false (.t 0)) (.u (.fldA 0 0 (.t 0)) (.u (.nilc (.t 0)) (.a (.t 0))))) (.a (.t 5))), .chk [] (.b (.bin .lss (.t 0) (.t 1)) (.a (.t 5)) (.u (.lenS (.t 0)) (.u (.ld 1 false (.t 0)) (.u (.fldA 0 0 (.t 0)) (.u (.nilc (.t 0)) (.a (.t 0))))))), .chk [] (.ite (.b (.bin .lss (.t 0) (.t 1)) (.a (.t 5)) (.u (.lenS (.t 0)) (.u (.ld 1 false (.t 0)) (.u (.fldA 0 0 (.t 0)) (.u (.nilc (.t 0)) (.a (.t 0))))))) (.a (.bool true)) (.a (.bool true))), .chk [] (.ite (.b (.bin .lss (.t 0) (.t 1)) (.a (.t 5)) (.u (.lenS (.t 0)) (.u (.ld 1 false (.t 0)) (.u (.fldA 0 0 (.t 0)) (.u (.nilc (.t 0)) (.a (.t 0))))))) (.a (.bool true)) (.a (.bool true))), .chk [] (.ite (.b (.bin .lss (.t 0) (.t 1)) (.a (.t 5)) (.u (.lenS (.t 0)) (.u (.ld 1 false (.t 0)) (.u (.fldA 0 0 (.t 0)) (.u (.nilc (.t 0)) (.a (.t 0))))))) (.a (.bool true)) (.a (.bool true))), .chk [] (.ite (.b (.bin .lss (.t 0) (.t 1)) (.a (.t 5)) (.u (.lenS (.t 0)) (.u (.ld 1 false (.t 0)) (.u (.fldA 0 0 (.t 0)) (.u (.nilc (.t 0)) (.a (.t 0))))))) (.a (.bool true)) (.a (.bool true))), .chk [] (.ite (.b (.bin .lss (.t 0) (.t 1)) (.a (.t 5)) (.u (.lenS (.t 0)) (.u (.ld 1 false (.t 0)) (.u (.fldA 0 0 (.t 0)) (.u (.nilc (.t 0)) (.a (.t 0))))))) (.a (.bool true)) (.a (.bool true))), .chk [] (.ite (.b (.bin .lss (.t 0) (.t 1)) (.a (.t 5)) (.u (.lenS (.t 0)) (.u (.ld 1 false (.t 0)) (.u (.fldA 0 0 (.t 0)) (.u (.nilc (.t 0)) (.a (.t 0))))))) (.a (.bool true)) (.a (.bool true))), .chk [] (.ite (.b (.bin .lss (.t 0) (.t 1)) (.a (.t 5)) (.u (.lenS (.t 0)) (.u (.ld 1 false (.t 0)) (.u (.fldA 0 0 (.t 0)) (.u (.nilc (.t 0)) (.a (.t 0))))))) (.a (.bool true)) (.a (.bool true))), .chk [] (.ite (.b (.bin .lss (.t 0) (.t 1)) (.a (.t 5)) (.u (.lenS (.t 0)) (.u (.ld 1 false (.t 0)) (.u (.fldA 0 0 (.t 0)) (.u (.nilc (.t 0)) (.a (.t 0))))))) (.a (.bool true)) (.a (.bool true))), .lt 24 [((.b (.bin .lss (.t 0) (.t 1)) (.a (.t 5)) (.u (.lenS (.t 0)) (.u (.ld 1 false (.t 0)) (.u (.fldA 0 0 (.t 0)) (.u (.nilc (.t 0)) (.a (.t 0))))))), true)] (.b (.idx (.t 0) (.t 1)) (.u (.ld 1 false (.t 0)) (.u (.fldA 0 0 (.t 0)) (.u (.nilc (.t 0)) (.a (.t 0))))) (.a (.t 5))), .lt 18 [((.b (.bin .lss (.t 0) (.t 1)) (.a (.t 5)) (.u (.lenS (.t 0)) (.u (.ld 1 false (.t 0)) (.u (.fldA 0 0 (.t 0)) (.u (.nilc (.t 0)) (.a (.t 0))))))), true)] (.a (.t 1)), .lt 17 [] (.b (.bin .lss (.t 0) (.t 1)) (.a (.t 5)) (.u (.lenS (.t 0)) (.u (.ld 1 false (.t 0)) (.u (.fldA 0 0 (.t 0)) (.u (.nilc (.t 0)) (.a (.t 0))))))), .gop [((.a (.t 17)), true)] (some 25) (.callv (.t 18) [(.t 24)])] [(0, (.a (.t 0))), (1, (.a (.t 1))), (5, (.a (.t 5))), (26, (.ite (.a (.t 17)) (.a (.t 25)) (.a (.bool false))))] [])
 (.cond (.t 26) (.skip) (.exit 0)))
 (.block 1 (.rg [] [(0, (.a (.t 0))), (1, (.a (.t 1))), (5, (.b (.bin .add (.t 0) (.t 1)) (.a (.t 5)) (.a (.int .i64 1))))] []))
def lt118 : S2 := .seq (.rg [] [(0, (.a (.t 0))), (1, (.a (.t 1)))] [])
 (.seq (.rg [] [(0, (.a (.t 0))), (1, (.a (.t 1))), (5, (.u (.ld 1 false (.t 0)) (.u (.fldA 1 1 (.t 0)) (.u (.nilc (.t 0)) (.a (.t 0))))))] [])
 (.seq (.block 0 (.loop [0, 1, 5] lt118_l0))
 (.seq (.rg [] [(4, (.t (.slcS (.t 0) (some (.t 1)) (some (.t 2))) (.u (.ld 1 false (.t 0)) (.u (.fldA 0 0 (.t 0)) (.u (.nilc (.t 0)) (.a (.t 0))))) (.u (.ld 1 false (.t 0)) (.u (.fldA 1 1 (.t 0)) (.u (.nilc (.t 0)) (.a (.t 0))))) (.a (.t 5))))] [])
 (.ret))))
theorem lf118 : ir118.lift [] = some lt118 := by kernel_rfl
def lt119 : S2 := .seq (.rg [] [(0, (.a (.t 0))), (1, (.a (.t 1)))] [])
 (.seq (.rg [] [(3, (.ite (.ite (.b (.bin .eql (.t 0) (.t 1)) (.u (.ld 1 false (.t 0)) (.b (.idxP 256 1 (.t 0) (.t 1)) (.u (.fldA 2 2 (.t 0)) (.u (.nilc (.t 0)) (.u (.ld 1 false (.t 0)) (.a (.t 1))))) (.a (.t 0)))) (.a (.int .i64 2))) (.a (.bool true)) (.b (.bin .eql (.t 0) (.t 1)) (.u (.ld 1 false (.t 0)) (.b (.idxP 256 1 (.t 0) (.t 1)) (.u (.fldA 2 2 (.t 0)) (.u (.nilc (.t 0)) (.u (.ld 1 false (.t 0)) (.a (.t 1))))) (.a (.t 0)))) (.a (.int .i64 3)))) (.a (.bool true)) (.b (.bin .eql (.t 0) (.t 1)) (.a (.t 0)) (.a (.int .u8 95)))))] [])
 (.ret))
theorem lf119 : ir119.lift [] = some lt119 := by kernel_rfl
def lt120 : S2 := .seq (.rg [.op (some 4) (.box 44 (.t 1))] [(0, (.a (.t 0))), (2, (.a (.t 2))), (4, (.a (.t 4)))] [])
 (.seq (.rg [.chk [] (.u (.fldA 3 3 (.t 0)) (.a (.t 4))), .chk [] (.u (.ld 1 false (.t 0)) (.u (.fldA 1 1 (.t 0)) (.u (.nilc (.t 0)) (.a (.t 0))))), .lt 10 [] (.u (.fldA 3 3 (.t 0)) (.a (.t 4))), .lt 9 [] (.u (.ld 1 false (.t 0)) (.u (.fldA 1 1 (.t 0)) (.u (.nilc (.t 0)) (.a (.t 0))))), .op none (.st 1 (.t 10) (.t 9))] [(0, (.a (.t 0))), (2, (.a (.t 2))), (4, (.a (.t 4)))] [])
 (.seq (.rg [.chk [] (.u (.ld 4 true (.t 0)) (.a (.t 4))), .chk [] (.u (.ld 1 false (.t 0)) (.u (.fldA 3 258 (.t 0)) (.u (.nilc (.t 0)) (.a (.t 0))))), .lt 16 [] (.u (.ld 4 true (.t 0)) (.a (.t 4))), .lt 15 [] (.u (.ld 1 false (.t 0)) (.u (.fldA 3 258 (.t 0)) (.u (.nilc (.t 0)) (.a (.t 0))))), .op (some 17) (.bls 4 [(.agg [(.int .i64 0), (.str []), (.int .i64 0), (.int .i64 0)])] [(0, (.t 16))]), .op (some 18) (.app 44 4 40 (.t 15) (.t 17)), .chk [] (.u (.fldA 3 258 (.t 0)) (.u (.nilc (.t 0)) (.a (.t 0)))), .lt 20 [] (.u (.fldA 3 258 (.t 0)) (.u (.nilc (.t 0)) (.a (.t 0)))), .op none (.st 1 (.t 20) (.t 18))] [(0, (.a (.t 0))), (2, (.a (.t 2)))] [])
 (.rg [.chk [] (.u (.fldA 1 1 (.t 0)) (.u (.nilc (.t 0)) (.a (.t 0)))), .chk [] (.b (.bin .add (.t 0) (.t 1)) (.u (.ld 1 false (.t 0)) (.u (.fldA 1 1 (.t 0)) (.u (.nilc (.t 0)) (.a (.t 0))))) (.a (.t 2))), .lt 28 [] (.u (.fldA 1 1 (.t 0)) (.u (.nilc (.t 0)) (.a (.t 0)))), .lt 26 [] (.b (.bin .add (.t 0) (.t 1)) (.u (.ld 1 false (.t 0)) (.u (.fldA 1 1 (.t 0)) (.u (.nilc (.t 0)) (.a (.t 0))))) (.a (.t 2))), .op none (.st 1 (.t 28) (.t 26))] [] [])))
theorem lf120 : ir120.lift [] = some lt120 := by kernel_rfl
def lt121 : S2 := .seq (.rg [] [(0, (.a (.t 0))), (1, (.a (.t 1)))] [])
 (.seq (.rg [] [(3, (.b (.bin .eql (.t 0) (.t 1)) (.u (.ld 1 false (.t 0)) (.b (.idxP 256 1 (.t 0) (.t 1)) (.u (.fldA 2 2 (.t 0)) (.u (.nilc (.t 0)) (.u (.ld 1 false (.t 0)) (.a (.t 1))))) (.a (.t 0)))) (.a (.int .i64 3))))] [])
 (.ret))
theorem lf121 : ir121.lift [] = some lt121 := by kernel_rfl
def lt122 : S2 := .seq (.rg [] [(0, (.a (.t 0))), (1, (.a (.t 1)))] [])
 (.seq (.rg [.lt 6 [] (.a (.t 1)), .lt 5 [] (.a (.t 0)), .op (some 7) (.pcall 173 [(.t 5), (.t 6)])] [(4, (.a (.t 7)))] [])
 (.ret))
theorem lf122 : ir122.lift [] = some lt122 := by kernel_rfl
def lt123 : S2 := .seq (.rg [] [(0, (.a (.t 0)))] [])
 (.seq (.rg [] [(2, (.b (.bin .neq (.t 0) (.t 1)) (.a (.t 0)) (.a (.int .u8 10))))] [])
 (.ret))
theorem lf123 : ir123.lift [] = some lt123 := by kernel_rfl
def lt173 : S2 := .seq (.rg [] [(0, (.a (.t 0))), (1, (.a (.t 1)))] [])
 (.seq (.rg [] [(4, (.ite (.b (.bin .geq (.t 0) (.t 1)) (.u (.lenS (.t 0)) (.a (.t 0))) (.u (.lenS (.t 0)) (.a (.t 1)))) (.b (.bin .eql (.t 0) (.t 1)) (.b (.slcS (.t 0) none (some (.t 1))) (.a (.t 0)) (.u (.lenS (.t 0)) (.a (.t 1)))) (.a (.t 1))) (.a (.bool false))))] [])
 (.ret))
theorem lf173 : ir173.lift [] = some lt173 := by kernel_rfl
end Go.Proofs.YtanpgmgkmfckaaaGreatDoor
/- Plain functions of the lexer: classes of bytes, names, numbers, tokens. No program. -/
namespace Go.Lx
open Go Go.Ab

structure Tok where
  kind : Int
  text : List UInt8
  n : Int
  at_ : Int
  deriving DecidableEq, Inhabited

def Tok.enc (t : Tok) : D := .agg [.int .i64 t.kind, .str t.text, .int .i64 t.n, .int .i64 t.at_]
def toks (l : List Tok) : D := .list 4 (l.map Tok.enc)

def letterI (c : Int) : Bool := decide (97 ≤ c ∧ c ≤ 122 ∨ 65 ≤ c ∧ c ≤ 90)
def digitI (c : Int) : Bool := decide (48 ≤ c ∧ c ≤ 57)
def spaceI (c : Int) : Bool := decide (c = 32 ∨ c = 9 ∨ c = 10 ∨ c = 13)
def partI (c : Int) : Bool := letterI c || digitI c || decide (c = 95)
def signs : List UInt8 := [123, 125, 40, 41, 59, 44, 61, 35, 47, 60, 33, 45, 46, 58, 43]
def signI (c : Int) : Bool := signs.any fun b => decide ((b.toNat : Int) = c)

def nameB (s : List UInt8) : Bool := decide (1 ≤ s.length ∧ s.length ≤ 32) && letterI (s.getD 0 0).toNat && s.all fun c => partI c.toNat

theorem getD_map {l : List Tok} {i : Nat} (h : i < l.length) : (l.map Tok.enc).getD i default = (l.getD i default).enc := by simp [h]
theorem all_iff {s : List UInt8} {p : UInt8 → Bool} : s.all p = true ↔ ∀ i, i < s.length → p (s.getD i 0) = true := by
  rw [List.all_eq_true]
  constructor
  · intro h i hi; simp [hi]; exact h _ (List.getElem_mem hi)
  · intro h x hx
    obtain ⟨i, hi, rfl⟩ := List.getElem_of_mem hx
    have := h i hi
    simpa [hi] using this
end Go.Lx
/- Contracts: classes of bytes and names, of the program and of the document. Condition: the program is the seat's. -/
namespace Go.Proofs.YtanpgmgkmfckaaaGreatDoor
open Go Go.Ab Go.Lx
theorem mixed : Tryz.prog.follows .mixedOrders = true := by kernel_rfl
set_option maxRecDepth 100000

def fnI (f : Int → Bool) : Ab.Fn := ⟨fun vs => match vs with | [.d (.int .u8 _)] => True | _ => False, fun vs => match vs with | [.d (.int .u8 n)] => .d (.bool (f n)) | _ => .any⟩
@[simp] theorem fnI_pre (f : Int → Bool) (n : Int) : (fnI f).pre [.d (.int .u8 n)] = True := by simp only [fnI]
@[simp] theorem fnI_val (f : Int → Bool) (n : Int) : (fnI f).val [.d (.int .u8 n)] = .d (.bool (f n)) := by simp only [fnI]
theorem fnI_of {P : Prg} {k : Nat} {f : Int → Bool} (h : ∀ n ob (K : V → Prop), K (.d (.bool (f n))) → PCall P k [.d (.int .u8 n)] ob K) : PFn P k (fnI f) := by
  intro vs hp ob K hK
  simp only [fnI] at hp hK
  split at hp
  · exact h _ _ _ hK
  · exact hp.elim
def fnS (f : List UInt8 → Bool) : Ab.Fn := ⟨fun vs => match vs with | [.d (.str _)] => True | _ => False, fun vs => match vs with | [.d (.str s)] => .d (.bool (f s)) | _ => .any⟩
@[simp] theorem fnS_pre (f : List UInt8 → Bool) (s : List UInt8) : (fnS f).pre [.d (.str s)] = True := by simp only [fnS]
@[simp] theorem fnS_val (f : List UInt8 → Bool) (s : List UInt8) : (fnS f).val [.d (.str s)] = .d (.bool (f s)) := by simp only [fnS]
theorem fnS_of {P : Prg} {k : Nat} {f : List UInt8 → Bool} (h : ∀ s ob (K : V → Prop), K (.d (.bool (f s))) → PCall P k [.d (.str s)] ob K) : PFn P k (fnS f) := by
  intro vs hp ob K hK
  simp only [fnS] at hp hK
  split at hp
  · exact h _ _ _ hK
  · exact hp.elim

section
variable {P : Prg} (hP : P.p = Tryz.prog)
include hP
theorem c_Letter : PFn P 80 (fnI letterI) := fnI_of fun n ob K h => by
  refine pcall_lift hP mixed (ds := [.int .u8 n]) ok80 lf80 TOk.nil ?_
  have h' : ∀ b, b = letterI n → K (.d (.bool b)) := fun b e => e ▸ h
  simp [lt80]
  apply h'; rw [Bool.eq_iff_iff]; simp [letterI]; try omega
theorem c_Figure : PFn P 83 (fnI digitI) := fnI_of fun n ob K h => by
  refine pcall_lift hP mixed (ds := [.int .u8 n]) ok83 lf83 TOk.nil ?_
  have h' : ∀ b, b = digitI n → K (.d (.bool b)) := fun b e => e ▸ h
  simp [lt83]
  apply h'; rw [Bool.eq_iff_iff]; simp [digitI]; try omega
theorem c_Space : PFn P 79 (fnI spaceI) := fnI_of fun n ob K h => by
  refine pcall_lift hP mixed (ds := [.int .u8 n]) ok79 lf79 TOk.nil ?_
  have h' : ∀ b, b = spaceI n → K (.d (.bool b)) := fun b e => e ▸ h
  simp [lt79]
  apply h'; rw [Bool.eq_iff_iff]; simp [spaceI]; try omega
theorem c_part : PFn P 81 (fnI partI) := fnI_of fun n ob K h => by
  refine pcall_lift hP mixed (ds := [.int .u8 n]) ok81 lf81 (TOk.cons (c_Letter hP) (TOk.cons (c_Figure hP) TOk.nil)) ?_
  have h' : ∀ b, b = partI n → K (.d (.bool b)) := fun b e => e ▸ h
  simp [lt81]
  apply h'; rw [Bool.eq_iff_iff]; simp [partI]; try omega
theorem c_Name : PFn P 100 (fnS nameB) := fnS_of fun s ob K h => by
  refine pcall_lift hP mixed (ds := [.str s]) ok100 lf100 TOk.nil ?_
  have h' : ∀ b, b = nameB s → K (.d (.bool b)) := fun b e => e ▸ h
  clear h
  simp [lt100]
  refine ⟨fun hne => h' _ ?_, fun h0 h1 => ?_⟩
  · rcases hne with rfl | h1
    · simp [nameB]
    · simp [nameB]; omega
  · have h0' : 1 ≤ s.length := by cases s with | nil => exact absurd rfl h0 | cons => simp
    refine ALoop.go (ι := Nat) (fun k => [(0, .d (.str s)), (14, .d (.int .i64 s.length)), (15, .d (.int .i64 k))]) (fun _ => []) (fun k => k ≤ s.length ∧ (∀ i, i < k → partI (s.getD i 0).toNat = true) ∧ (0 < k → letterI (s.getD 0 0).toNat = true)) (fun k => s.length - k) 0 ⟨by omega, by omega, by omega⟩ (by simp) rfl ?_
    rintro k ⟨hk, hp, hl⟩ R rn re rr _
    simp [lt100_l0]
    simp only [List.getD_eq_getElem?_getD] at hp hl rn
    refine ⟨fun hlt => ⟨hlt, fun e1 e2 e3 => rr _ _ ?_, fun e => rn [] (k + 1) _ _ ⟨by omega, fun i hi => ?_, fun _ => ?_⟩ (by omega) ?_ rfl rfl rfl⟩, fun hge => re _ _ _ ?_⟩
    · simp
      refine h' _ (Eq.symm ?_)
      rw [Bool.eq_false_iff]
      intro hn
      simp only [nameB, Bool.and_eq_true, all_iff, List.getD_eq_getElem?_getD] at hn
      have := hn.2 k hlt
      have h2 := hn.1.2
      rcases e3 with rfl | e3
      · simp [letterI] at h2; omega
      · simp [partI, letterI, digitI] at this; omega
    · by_cases hi' : i = k
      · subst hi'; simp [partI, letterI, digitI]; omega
      · exact hp i (by omega)
    · by_cases h2 : k = 0
      · subst h2; simp [letterI]; omega
      · exact hl (by omega)
    · simp; exact IntWalk.i64_in _ (by omega)
    · have hk' : k = s.length := by omega
      subst hk'
      simp
      refine h' _ (Eq.symm ?_)
      simp only [nameB, Bool.and_eq_true, all_iff, List.getD_eq_getElem?_getD]
      exact ⟨⟨by simp; omega, hl h0'⟩, hp⟩
end
end Go.Proofs.YtanpgmgkmfckaaaGreatDoor
/- Contracts: names, signs and numbers of the document. Condition: the program is the seat's. -/
namespace Go.Lx
open Go Go.Ab
def numGo : Int → List UInt8 → Option Int
  | n, [] => some n
  | n, c :: r => if 1099511627776 < 10 * n + (c.toNat - 48) then none else numGo (10 * n + (c.toNat - 48)) r
def numV (s : List UInt8) : V := match numGo 0 s with
  | none => .tup [.d (.int .i64 0), .d (.bool false)]
  | some n => .tup [.d (.int .i64 n), .d (.bool (decide (s.length = 1) || !decide ((s.getD 0 0).toNat = 48)))]
theorem numGo_drop {s : List UInt8} {k : Nat} {n : Int} (h : k < s.length) : numGo n (s.drop k) = if 1099511627776 < 10 * n + ((s[k]?.getD 0).toNat - 48) then none else numGo (10 * n + ((s[k]?.getD 0).toNat - 48)) (s.drop (k + 1)) := by
  rw [List.drop_eq_getElem_cons h]
  simp [numGo, h]
end Go.Lx
namespace Go.Proofs.YtanpgmgkmfckaaaGreatDoor
open Go Go.Ab Go.Lx
set_option maxRecDepth 100000
section
variable {P : Prg} (hP : P.p = Tryz.prog)
include hP
theorem c_rName : PFn P 82 (fnS nameB) := fnS_of fun s ob K h => by
  refine pcall_lift hP mixed (ds := [.str s]) ok82 lf82 (TOk.cons (c_Letter hP) (TOk.cons (c_part hP) TOk.nil)) ?_
  have h' : ∀ b, b = nameB s → K (.d (.bool b)) := fun b e => e ▸ h
  clear h
  simp [lt82]
  refine ⟨fun h1 h2 => by omega, fun hne => h' _ ?_, fun h1 h2 h3 => ?_⟩
  · rcases hne with h1 | h1
    · simp [nameB]; omega
    · simp [nameB, h1]
  · refine ALoop.go (ι := Nat) (fun k => [(0, .d (.str s)), (3, .d (.int .i64 k))]) (fun _ => []) (fun k => k ≤ s.length ∧ ∀ i, i < k → partI (s[i]?.getD 0).toNat = true) (fun k => s.length - k) 0 ⟨by omega, by omega⟩ (by simp) rfl ?_
    rintro k ⟨hk, hp⟩ R rn re rr _
    simp [lt82_l0]
    refine ⟨fun hlt => ⟨hlt, fun e => rr _ _ ?_, fun e => rn [] (k + 1) _ _ ⟨by omega, fun i hi => ?_⟩ (by omega) ?_ rfl rfl rfl⟩, fun hge => re _ _ _ ?_⟩
    · simp
      refine h' _ (Eq.symm ?_)
      rw [Bool.eq_false_iff]
      intro hn
      simp only [nameB, Bool.and_eq_true, all_iff, List.getD_eq_getElem?_getD] at hn
      rw [hn.2 k hlt] at e; cases e
    · by_cases hi' : i = k
      · subst hi'; exact e
      · exact hp i (by omega)
    · simp; exact IntWalk.i64_in _ (by omega)
    · have hk' : k = s.length := by omega
      subst hk'
      simp
      refine h' _ (Eq.symm ?_)
      simp only [nameB, Bool.and_eq_true, all_iff, List.getD_eq_getElem?_getD]
      exact ⟨⟨by simp; omega, h3⟩, hp⟩
theorem c_Sign : PFn P 85 (fnI signI) := fnI_of fun n ob K h => by
  refine pcall_lift hP mixed (ds := [.int .u8 n]) ok85 lf85 TOk.nil ?_
  have h' : ∀ b, b = signI n → K (.d (.bool b)) := fun b e => e ▸ h
  clear h
  simp [lt85]
  show ALoop _ _ _ [_, (3, V.d (D.str signs)), _] _
  refine ALoop.go (ι := Nat) (fun k => [(0, .d (.int .u8 n)), (3, .d (.str signs)), (4, .d (.int .i64 k))]) (fun _ => []) (fun k => k ≤ signs.length ∧ ∀ i, i < k → ¬ ((signs[i]?.getD 0).toNat : Int) = n) (fun k => signs.length - k) 0 ⟨by simp, by omega⟩ (by simp) rfl ?_
  have hl : signs.length = 15 := rfl
  have hs : signI n = true ↔ ∃ i, i < signs.length ∧ ((signs[i]?.getD 0).toNat : Int) = n := by
    simp only [signI, List.any_eq_true, decide_eq_true_eq]
    constructor
    · rintro ⟨x, hx, e⟩
      obtain ⟨i, hi, rfl⟩ := List.getElem_of_mem hx
      exact ⟨i, hi, by simpa [hi] using e⟩
    · rintro ⟨i, hi, e⟩
      exact ⟨signs[i], List.getElem_mem hi, by simpa [hi] using e⟩
  generalize signs = s at *
  rintro k ⟨hk, hp⟩ R rn re rr _
  simp [lt85_l0]
  refine ⟨fun hlt => ⟨hlt, fun e => rr _ _ ?_, fun e => rn [] (k + 1) _ _ ⟨by omega, fun i hi => ?_⟩ (by omega) ?_ rfl rfl rfl⟩, fun hge => re _ _ _ ?_⟩
  · simp
    exact h' _ (hs.mpr ⟨k, hlt, e⟩).symm
  · by_cases hi' : i = k
    · subst hi'; exact e
    · exact hp i (by omega)
  · simp; exact IntWalk.i64_in _ (by omega)
  · simp
    refine h' _ (Eq.symm ?_)
    rw [Bool.eq_false_iff]
    intro hn
    obtain ⟨i, hi, e⟩ := hs.mp hn
    exact hp i (by omega) e
theorem c_number (s : List UInt8) (hd : ∀ i, i < s.length → digitI (s[i]?.getD 0).toNat = true) (hn : s ≠ []) (hs : s.length ≤ 1000000) {ob : Objs} {K : V → Prop} (h : K (numV s)) : PCall P 84 [.d (.str s)] ob K := by
  refine pcall_lift hP mixed (ds := [.str s]) ok84 lf84 TOk.nil ?_
  simp [lt84]
  refine ALoop.go (ι := Nat × Int) (fun k => [(0, .d (.str s)), (4, .d (.int .i64 k.2)), (5, .d (.int .i64 k.1))]) (fun _ => []) (fun k => k.1 ≤ s.length ∧ 0 ≤ k.2 ∧ k.2 ≤ 1099511627776 ∧ numGo 0 s = numGo k.2 (s.drop k.1)) (fun k => s.length - k.1) (0, 0) ⟨by simp, by simp, by simp, by simp⟩ (by simp) rfl ?_
  rintro ⟨k, n⟩ ⟨hk, h1, h2, h3⟩ R rn re rr _
  simp only at hk h1 h2 h3
  simp [lt84_l0]
  have hw : k < s.length → IntKind.i64.wrap (IntKind.i64.wrap (10 * n) + IntKind.i64.wrap (IntKind.u8.wrap ((s[k]?.getD 0).toNat - 48))) = 10 * n + ((s[k]?.getD 0).toNat - 48) ∧ (48 : Int) ≤ (s[k]?.getD 0).toNat := fun hlt => by
    have hc := hd k hlt
    simp [digitI] at hc
    rw [IntWalk.u8_in _ (by omega), IntWalk.i64_in (10 * n) (by omega), IntWalk.i64_in (_ - 48) (by omega), IntWalk.i64_in _ (by omega)]
    exact ⟨rfl, by omega⟩
  refine ⟨fun hlt => ⟨hlt, ?_⟩, fun hge => re _ _ _ ?_⟩
  · rw [numGo_drop hlt] at h3
    obtain ⟨hw, hc⟩ := hw hlt
    rw [hw]
    refine ⟨fun e => rr _ _ ?_, fun e => rn [] (k + 1, 10 * n + ((s[k]?.getD 0).toNat - 48)) _ _ ⟨by simp; omega, by simp; omega, by simp; omega, ?_⟩ (by simp; omega) ?_ rfl rfl rfl⟩
    · rw [if_pos e] at h3
      simp [numV, h3] at h
      simp; exact h
    · rw [if_neg (by omega)] at h3
      exact h3
    · simp; exact IntWalk.i64_in _ (by omega)
  · clear rn rr hw
    have hk' : k = s.length := by omega
    subst hk'
    simp [numGo] at h3
    simp [numV, h3] at h
    have hl : 0 < s.length := by cases s with | nil => exact absurd rfl hn | cons => simp
    simp
    refine ⟨fun _ => hl, ?_⟩
    refine (congrArg K ?_).mp h
    simp
    rw [Bool.eq_iff_iff]; simp; omega
end
end Go.Proofs.YtanpgmgkmfckaaaGreatDoor
/- Slices of tokens. No program. -/
namespace Go.Lx
open Go Go.Ab
def TD (a : D) (l : List Tok) : Prop := a = toks l ∨ a = .nils ∧ l = []
section
variable {a : D} {l : List Tok} (h : TD a l)
include h
theorem TD.len : lenLV (.d a) = .d (.int .i64 l.length) := by rcases h with rfl | ⟨rfl, rfl⟩ <;> simp [toks]
theorem TD.lenS (ob : Objs) : lenLS ob (.d a) = True := by rcases h with rfl | ⟨rfl, rfl⟩ <;> simp [toks]
theorem TD.idxS (k : IntKind) (i : Int) : idxAS 4 (.d a) (.d (.int k i)) = (0 ≤ i ∧ i < l.length) := by
  rcases h with rfl | ⟨rfl, rfl⟩
  · simp [toks]
  · simp [idxAS, idxAK]
theorem TD.idx {k : IntKind} {i : Nat} (hi : i < l.length) : idxAV (.d a) (.d (.int k i)) = .d (.ref (l[i]?.getD default).enc) := by
  rcases h with rfl | ⟨rfl, rfl⟩
  · simp [toks, hi]
  · simp at hi
end
def sameT (s t : Tok) : Bool := decide (s.kind = t.kind) && decide (s.text = t.text) && decide (s.n = t.n)
def sameB : List Tok → List Tok → Bool
  | [], [] => true
  | s :: l, t :: m => sameT s t && sameB l m
  | _, _ => false
theorem sameB_len {l m : List Tok} (h : l.length ≠ m.length) : sameB l m = false := by
  induction l generalizing m with
  | nil => cases m <;> simp_all [sameB]
  | cons s l ih => cases m <;> simp_all [sameB]
theorem sameB_iff {l m : List Tok} (h : l.length = m.length) : sameB l m = true ↔ ∀ i, i < l.length → sameT (l[i]?.getD default) (m[i]?.getD default) = true := by
  induction l generalizing m with
  | nil => cases m <;> simp_all [sameB]
  | cons s l ih =>
    cases m with
    | nil => simp at h
    | cons t m =>
      simp only [sameB, Bool.and_eq_true, ih (Nat.succ.inj h)]
      constructor
      · rintro ⟨h1, h2⟩ i hi
        cases i with
        | zero => simpa using h1
        | succ i => simpa using h2 i (by simpa using hi)
      · intro h1
        exact ⟨by simpa using h1 0 (by simp), fun i hi => by simpa using h1 (i + 1) (by simpa using hi)⟩
end Go.Lx
/- The lexer as a plain function of bytes. No program. -/
namespace Go.Lx
open Go Go.Ab

def letterB (c : UInt8) : Bool := letterI c.toNat
def digitB (c : UInt8) : Bool := digitI c.toNat
def spaceB (c : UInt8) : Bool := spaceI c.toNat
def partB (c : UInt8) : Bool := partI c.toNat
def signB (c : UInt8) : Bool := signI c.toNat
def lineB (c : UInt8) : Bool := c != 10

inductive St where
  | skip (n : Nat)
  | tok (k : Int) (t : List UInt8) (m : Int) (n : Nat)
  | err

def numOf (t : List UInt8) : Option Int := match numGo 0 t with
  | none => none
  | some n => if t.length = 1 ∨ t.headD 0 ≠ 48 then some n else none

def stp (c : UInt8) (r : List UInt8) : St :=
  if spaceB c then .skip 0
  else if c = 47 ∧ r.head? = some 47 then .skip (r.takeWhile lineB).length
  else if letterB c then
    if (r.takeWhile partB).length + 1 ≤ 32 then .tok 1 (c :: r.takeWhile partB) 0 (r.takeWhile partB).length else .err
  else if digitB c then
    match numOf (c :: r.takeWhile digitB) with
    | some n => .tok 2 [] n (r.takeWhile digitB).length
    | none => .err
  else if signB c then .tok 3 [c] 0 0 else .err

inductive Res where
  | ok (l : List Tok)
  | err (at_ : Nat)

def addT (t : Tok) : Res → Res
  | .ok l => .ok (t :: l)
  | .err e => .err e
def appT (l : List Tok) : Res → Res
  | .ok l' => .ok (l ++ l')
  | .err e => .err e

def lexR : List UInt8 → Nat → Res
  | [], _ => .ok []
  | c :: r, off => match stp c r with
    | .skip n => lexR (r.drop n) (off + n + 1)
    | .tok k t m n => addT ⟨k, t, m, off⟩ (lexR (r.drop n) (off + n + 1))
    | .err => .err off
termination_by l => l.length
decreasing_by all_goals (simp only [List.length_drop, List.length_cons]; omega)

def resV : Res → V
  | .ok l => .tup [.d (toks l), .d (.int .i64 0), .d (.int .i64 0)]
  | .err e => .tup [.d .nils, .d (.int .i64 e), .d (.int .i64 90)]
def lexV (s : List UInt8) : V := if s.length > 65536 then .tup [.d .nils, .d (.int .i64 0), .d (.int .i64 2)] else resV (lexR s 0)

theorem appT_nil (r : Res) : appT [] r = r := by cases r <;> rfl
theorem appT_add (l : List Tok) (t : Tok) (r : Res) : appT l (addT t r) = appT (l ++ [t]) r := by cases r <;> simp [appT, addT]

def tw (p : UInt8 → Bool) (s : List UInt8) (j : Nat) : Nat := ((s.drop j).takeWhile p).length
theorem tw_ge {p : UInt8 → Bool} {s : List UInt8} {j : Nat} (h : s.length ≤ j) : tw p s j = 0 := by simp [tw, List.drop_of_length_le h]
theorem tw_yes {p : UInt8 → Bool} {s : List UInt8} {j : Nat} (h : j < s.length) (hp : p (s[j]?.getD 0) = true) : tw p s j = tw p s (j + 1) + 1 := by
  simp [h] at hp
  unfold tw
  rw [List.drop_eq_getElem_cons h, List.takeWhile_cons, if_pos hp]; rfl
theorem tw_no {p : UInt8 → Bool} {s : List UInt8} {j : Nat} (h : j < s.length) (hp : p (s[j]?.getD 0) = false) : tw p s j = 0 := by
  simp [h] at hp
  unfold tw
  rw [List.drop_eq_getElem_cons h, List.takeWhile_cons, hp]; rfl
theorem tw_le (p : UInt8 → Bool) (s : List UInt8) (j : Nat) (h : j ≤ s.length) : j + tw p s j ≤ s.length := by
  have := (List.takeWhile_sublist p (l := s.drop j)).length_le
  simp [tw] at this ⊢; omega
theorem takeWhile_take (p : UInt8 → Bool) : ∀ l : List UInt8, l.takeWhile p = l.take (l.takeWhile p).length
  | [] => rfl
  | c :: r => by
    simp only [List.takeWhile_cons]
    split
    · simp; exact takeWhile_take p r
    · rfl
theorem mem_tw {p : UInt8 → Bool} {x : UInt8} : ∀ {l : List UInt8}, x ∈ l.takeWhile p → p x = true
  | c :: r, h => by
    rw [List.takeWhile_cons] at h
    split at h
    · rename_i hc
      rcases List.mem_cons.mp h with rfl | h
      · exact hc
      · exact mem_tw h
    · cases h
theorem drop_cons {s : List UInt8} {i : Nat} (h : i < s.length) : s.drop i = (s[i]?.getD 0) :: s.drop (i + 1) := by
  rw [List.drop_eq_getElem_cons h]; simp [h]
theorem tw_text (p : UInt8 → Bool) {s : List UInt8} {i : Nat} (h : i < s.length) (hp : p (s[i]?.getD 0) = true) :
    (s.take (i + tw p s i)).drop i = (s[i]?.getD 0) :: (s.drop (i + 1)).takeWhile p ∧ tw p s i = ((s.drop (i + 1)).takeWhile p).length + 1 := by
  have h1 : tw p s i = ((s.drop (i + 1)).takeWhile p).length + 1 := tw_yes h hp
  refine ⟨?_, h1⟩
  rw [List.drop_take, Nat.add_sub_cancel_left, h1, drop_cons h, List.take_succ_cons, ← takeWhile_take]

theorem lexR_nil {s : List UInt8} {i off : Nat} (h : s.length ≤ i) : lexR (s.drop i) off = .ok [] := by
  rw [List.drop_of_length_le h, lexR]
theorem lexR_at {s : List UInt8} {i : Nat} (h : i < s.length) : lexR (s.drop i) i = match stp (s[i]?.getD 0) (s.drop (i + 1)) with
    | .skip n => lexR (s.drop (i + n + 1)) (i + n + 1)
    | .tok k t m n => addT ⟨k, t, m, i⟩ (lexR (s.drop (i + n + 1)) (i + n + 1))
    | .err => .err i := by
  rw [drop_cons h, lexR]
  cases stp (s[i]?.getD 0) (s.drop (i + 1)) with
  | err => rfl
  | skip n => simp only [List.drop_drop]; congr 2; omega
  | tok k t m n => simp only [List.drop_drop]; congr 3; omega
theorem head_drop {s : List UInt8} {i : Nat} : (s.drop i).head? = s[i]? := by simp [List.head?_drop]
end Go.Lx
/- The parser of sources as plain functions of tokens. No program. -/
namespace Go.Sx
open Go Go.Ab Go.Lx
abbrev B := List UInt8
inductive R (α : Type) where
  | ok (a : α) (ts : List Tok)
  | err (ts : List Tok) (e : Int)
abbrev M (α : Type) := List Tok → R α
def M.bind {α β : Type} (m : M α) (f : α → M β) : M β := fun ts => match m ts with
  | .ok a ts' => f a ts'
  | .err ts' e => .err ts' e
def M.pure {α : Type} (a : α) : M α := fun ts => .ok a ts
instance : Monad M where
  pure := M.pure
  bind := M.bind
section
variable {α β : Type}
@[simp] theorem pure_eq (a : α) (ts : List Tok) : (pure a : M α) ts = .ok a ts := rfl
theorem bind_eq (m : M α) (f : α → M β) (ts : List Tok) : (m >>= f) ts = match m ts with
  | .ok a ts' => f a ts'
  | .err ts' e => .err ts' e := rfl
theorem massoc {γ : Type} (m : M α) (f : α → M β) (g : β → M γ) : ((m >>= f) >>= g) = (m >>= fun a => f a >>= g) := by
  funext ts
  simp only [bind_eq]
  cases m ts <;> rfl
theorem mpure (a : α) (f : α → M β) : ((pure a : M α) >>= f) = f a := rfl
def ifM (c : List Tok → Bool) (a b : M α) : M α := fun ts => if c ts then a ts else b ts
def fail (e : Int) : M α := fun ts => .err ts e
end
def nextB (k : Int) (t : B) : List Tok → Bool
  | [] => false
  | x :: _ => decide (x.kind = k) && (decide (t = []) || x.text == t)
def takeM (k : Int) (t : B) : M Tok := fun ts => if nextB k t ts then .ok (ts.headD default) ts.tail else .err ts 100
def nameM : M B := do let t ← takeM 1 []; pure t.text
def wordM (t : B) : M Unit := do let _ ← takeM 1 t; pure ()
def signM (t : B) : M Unit := do let _ ← takeM 3 t; pure ()
def acceptM (k : Int) (t : B) : M Bool := fun ts => if nextB k t ts then .ok true ts.tail else .ok false ts
def numberM (lo hi : Int) : M Int := fun ts => if nextB 2 [] ts && decide (lo ≤ (ts.headD default).n) && decide ((ts.headD default).n ≤ hi) then .ok (ts.headD default).n ts.tail else .err ts 100
theorem numberM_ok {lo hi n : Int} {ts ts' : List Tok} (h : numberM lo hi ts = .ok n ts') : lo ≤ n ∧ n ≤ hi := by
  simp only [numberM] at h
  split at h
  · rename_i hc
    simp only [Bool.and_eq_true, decide_eq_true_eq] at hc
    cases h
    exact ⟨hc.1.2, hc.2⟩
  · cases h
def roomM (many most : Nat) : M Unit := fun ts => if many = most then .err ts 2 else .ok () ts
def listM {α : Type} (begins : List Tok → Bool) (read : M α) : Nat → M (List α)
  | 0 => fun ts => if begins ts then .err ts 2 else .ok [] ts
  | n + 1 => fun ts => if begins ts then (do let a ← read; let l ← listM begins read n; pure (a :: l) : M (List α)) ts else .ok [] ts

inductive Term where
  | num (n : Int)
  | path (a b : B)
structure From where
  name : B
  kind : B
  of_ : Option (B × B)
structure Atom where
  op : Int
  a : Term
  b : Term
structure SetT where
  path : B
  term : Term
structure Move where
  to_ : B
  from_ : B
  shift : Int
structure Ref where
  name : B
  path : B
inductive TypeT where
  | num (lo hi : Int) (of_ : Option B)
  | date
  | person
  | choice (l : List B)
structure Field where
  name : B
  type : TypeT
  weights : List Int
structure Depend where
  names : List B
  name : B
structure UnitT where
  name : B
  of_ : Option (Int × B)
structure Schema where
  name : B
  by_ : B
  version : Int
  fields : List Field
  depends : List Depend
structure Rule where
  head : B
  froms : List From
  wheres : List Atom
  sets : List SetT
structure Convert where
  from_ : B
  to_ : B
  moves : List Move
structure Purpose where
  name : B
  may : List Ref
  most : Int
structure Src where
  issuers : List B
  units : List UnitT
  schemas : List Schema
  rules : List Rule
  converts : List Convert
  purposes : List Purpose
abbrev iD (n : Int) : D := .int .i64 n
def Term.enc : Term → D
  | .num n => .agg [.str [], .str [], iD (-1), iD 0, iD n]
  | .path a b => .agg [.str a, .str b, iD 0, iD 0, iD 0]
def From.enc (f : From) : D := .agg [.str f.name, .str f.kind, iD 0, match f.of_ with | none => .agg [.str [], .str [], iD 0, iD 0, iD 0] | some x => .agg [.str x.1, .str x.2, iD 0, iD 0, iD 0]]
def Atom.enc (a : Atom) : D := .agg [iD a.op, a.a.enc, a.b.enc]
def SetT.enc (s : SetT) : D := .agg [.str s.path, iD 0, s.term.enc]
def Move.enc (m : Move) : D := .agg [.str m.to_, .str m.from_, iD 0, iD 0, iD m.shift]
def Ref.enc (r : Ref) : D := .agg [.str r.name, .str r.path, iD 0, iD 0]
def strsD (l : List B) : D := .list 1 (l.map .str)
def TypeT.enc : TypeT → D
  | .num lo hi of_ => .agg [iD 1, iD lo, iD hi, .str (of_.getD []), iD 0, .nils]
  | .date => .agg [iD 2, iD 0, iD 1023, .str [], iD 0, .nils]
  | .person => .agg [iD 3, iD 0, iD 4095, .str [], iD 0, .nils]
  | .choice l => .agg [iD 4, iD 0, iD (l.length - 1), .str [], iD 0, strsD l]
def Field.enc (f : Field) : D := .agg [.str f.name, f.type.enc, .agg (f.weights.map iD)]
def Depend.enc (d : Depend) : D := .agg [strsD d.names, .str d.name, .nils, iD 0]
def UnitT.enc (u : UnitT) : D := match u.of_ with
  | none => .agg [.str u.name, .str [], iD 0, iD 0, iD 0]
  | some x => .agg [.str u.name, .str x.2, iD x.1, iD 0, iD 0]
def Schema.enc (s : Schema) : D := .agg [.str s.name, .str s.by_, iD 0, iD s.version, .list 11 (s.fields.map Field.enc), .list 4 (s.depends.map Depend.enc)]
def Rule.enc (r : Rule) : D := .agg [.str r.head, iD 0, .list 8 (r.froms.map From.enc), .list 11 (r.wheres.map Atom.enc), .list 7 (r.sets.map SetT.enc)]
def Convert.enc (c : Convert) : D := .agg [.str c.from_, .str c.to_, iD 0, iD 0, .list 5 (c.moves.map Move.enc)]
def Purpose.enc (p : Purpose) : D := .agg [.str p.name, .list 4 (p.may.map Ref.enc), iD p.most]

def pathM : M (B × B) := do let a ← nameM; signM [46]; let b ← nameM; pure (a, b)
def termM : M Term := fun ts => if nextB 2 [] ts then (do let n ← numberM 0 1048576; pure (.num n) : M Term) ts else (do let x ← pathM; pure (.path x.1 x.2) : M Term) ts
def fromM : M From := do
  wordM [102, 114, 111, 109]
  let a ← nameM
  let b ← nameM
  let c ← acceptM 1 [111, 102]
  if c then do let x ← pathM; signM [59]; pure ⟨a, b, some x⟩ else do signM [59]; pure ⟨a, b, none⟩
def opM : M Int := do
  let b ← acceptM 3 [61]
  if b then pure 1 else do
    let b ← acceptM 3 [60]
    if b then do
      let b ← acceptM 3 [61]
      pure (if b then 3 else 2)
    else do signM [33]; signM [61]; pure 4
def whereM : M Atom := do
  wordM [119, 104, 101, 114, 101]
  let a ← termM
  let o ← opM
  let b ← termM
  signM [59]
  pure ⟨o, a, b⟩
def setM : M SetT := do wordM [115, 101, 116]; let a ← nameM; signM [61]; let t ← termM; signM [59]; pure ⟨a, t⟩
def shiftM : M Int := do
  let b ← acceptM 3 [43]
  if b then numberM 0 1048576 else do
    let b ← acceptM 3 [45]
    if b then do let n ← numberM 0 1048576; pure (-n) else pure 0
def moveM : M Move := do let a ← nameM; signM [61]; let b ← nameM; let n ← shiftM; signM [59]; pure ⟨a, b, n⟩
def mayM : M Ref := do wordM [109, 97, 121]; let x ← pathM; signM [59]; pure ⟨x.1, x.2⟩
def repM : Nat → M (List Int)
  | 0 => pure []
  | n + 1 => do let a ← numberM 0 9; let l ← repM n; pure (a :: l)
def weightsM : M (List Int) := repM 4
def listedM (most : Nat) : M (List B) := do let a ← nameM; let l ← listM (nextB 3 [44]) (do signM [44]; nameM) (most - 1); pure (a :: l)
def kindM : M TypeT := do
  let b ← acceptM 1 [110, 117, 109, 98, 101, 114]
  if b then do
    let lo ← numberM 0 1048576
    wordM [116, 111]
    let hi ← numberM 0 1048576
    let b ← acceptM 1 [105, 110]
    if b then do let n ← nameM; pure (.num lo hi (some n)) else pure (.num lo hi none)
  else do
    let b ← acceptM 1 [100, 97, 116, 101]
    if b then pure .date else do
      let b ← acceptM 1 [112, 101, 114, 115, 111, 110]
      if b then pure .person else do
        let b ← acceptM 1 [99, 104, 111, 105, 99, 101]
        if b then do let l ← listedM 16; pure (.choice l) else fail 100
def fieldM : M Field := do wordM [102, 105, 101, 108, 100]; let n ← nameM; signM [58]; let t ← kindM; let w ← weightsM; signM [59]; pure ⟨n, t, w⟩
def dependM : M Depend := do wordM [100, 101, 112, 101, 110, 100]; let l ← listedM 11; wordM [103, 105, 118, 101]; let n ← nameM; signM [59]; pure ⟨l, n⟩

def issuerM (s : Src) : M Src := do
  roomM s.issuers.length 8
  wordM [105, 115, 115, 117, 101, 114]
  let a ← nameM
  signM [59]
  pure { s with issuers := s.issuers ++ [a] }
def unitM (s : Src) : M Src := do
  roomM s.units.length 16
  wordM [117, 110, 105, 116]
  let a ← nameM
  let b ← acceptM 3 [61]
  if b then do
    let n ← numberM 2 1000
    let o ← nameM
    signM [59]
    pure { s with units := s.units ++ [⟨a, some (n, o)⟩] }
  else do
    signM [59]
    pure { s with units := s.units ++ [⟨a, none⟩] }
def bodyM : Nat → Schema → M Schema
  | 0, _ => fail 0
  | n + 1, s => do
    let b ← acceptM 3 [125]
    if b then pure s else (ifM (nextB 1 [102, 105, 101, 108, 100]) (do roomM s.fields.length 12; let f ← fieldM; bodyM n { s with fields := s.fields ++ [f] }) (ifM (nextB 1 [100, 101, 112, 101, 110, 100]) (do roomM s.depends.length 8; let d ← dependM; bodyM n { s with depends := s.depends ++ [d] }) (fail 100)))
def schemaM (s : Src) : M Src := do
  roomM s.schemas.length 16
  wordM [115, 99, 104, 101, 109, 97]
  let a ← nameM
  wordM [98, 121]
  let b ← nameM
  wordM [118, 101, 114, 115, 105, 111, 110]
  let v ← numberM 1 255
  wordM [115, 101, 108, 102]
  let w ← weightsM
  signM [123]
  let x ← bodyM 21 ⟨a, b, v, [⟨[115, 101, 108, 102], .person, w⟩], []⟩
  pure { s with schemas := s.schemas ++ [x] }
def ruleM (s : Src) : M Src := do
  roomM s.rules.length 16
  wordM [100, 101, 114, 105, 118, 101]
  let a ← nameM
  signM [123]
  ifM (nextB 1 [102, 114, 111, 109]) (do
    let f ← listM (nextB 1 [102, 114, 111, 109]) fromM 3
    let w ← listM (nextB 1 [119, 104, 101, 114, 101]) whereM 8
    let t ← listM (nextB 1 [115, 101, 116]) setM 11
    signM [125]
    pure { s with rules := s.rules ++ [⟨a, f, w, t⟩] }) (fail 100)
def convertM (s : Src) : M Src := do
  roomM s.converts.length 16
  wordM [99, 111, 110, 118, 101, 114, 116]
  let a ← nameM
  wordM [116, 111]
  let b ← nameM
  signM [123]
  let l ← listM (nextB 1 []) moveM 11
  signM [125]
  pure { s with converts := s.converts ++ [⟨a, b, l⟩] }
def purposeM (s : Src) : M Src := do
  roomM s.purposes.length 8
  wordM [112, 117, 114, 112, 111, 115, 101]
  let a ← nameM
  signM [123]
  let l ← listM (nextB 1 [109, 97, 121]) mayM 32
  wordM [109, 111, 115, 116]
  let n ← numberM 0 32
  signM [59]
  signM [125]
  pure { s with purposes := s.purposes ++ [⟨a, l, n⟩] }

def atI (en : Int) : List Tok → Int
  | [] => en
  | x :: _ => x.at_
def failE (ts : List Tok) (e : Int) : Int := match ts with
  | [] => 100
  | _ => e
abbrev pv (ts : List Tok) (en : Int) (S : V) : V := .agg [.d (.list 4 (ts.map Tok.enc)), .d (.int .i64 en), S]
abbrev failD (en : Int) (ts : List Tok) (e : Int) : D := .iface 60 (.agg [.int .i64 (atI en ts), .int .i64 (failE ts e)])
abbrev pb (ts : List Tok) (en : Int) (S : V) : Ob := .box 66 (pv ts en S)
def PK {α : Type} (K : Out → Objs → Prop) (ob : Objs) (p : Nat) (en : Int) (S : V) (v : α → V) : R α → Prop
  | .ok a ts => K (.ret (v a)) (setO ob p (pb ts en S))
  | .err ts e => K (.panic (.d (failD en ts e))) (setO ob p (pb ts en S))
section
variable {α β : Type} {K : Out → Objs → Prop} {ob : Objs} {p : Nat} {en : Int} {S : V} {v : α → V}
@[simp] theorem PK_ok (a : α) (ts : List Tok) : PK K ob p en S v (.ok a ts) = K (.ret (v a)) (setO ob p (pb ts en S)) := rfl
@[simp] theorem PK_err (e : Int) (ts : List Tok) : PK K ob p en S v (.err ts e) = K (.panic (.d (failD en ts e))) (setO ob p (pb ts en S)) := rfl
theorem PK.bind {K' : Out → Objs → Prop} {ob1 : Objs} {v' : β → V} {m : M α} {f : α → M β} {ts : List Tok} (h : PK K ob p en S v' ((m >>= f) ts))
    (he : ∀ ts' e, K (.panic (.d (failD en ts' e))) (setO ob p (pb ts' en S)) → K' (.panic (.d (failD en ts' e))) (setO ob1 p (pb ts' en S)))
    (hk : ∀ a ts', m ts = .ok a ts' → PK K ob p en S v' (f a ts') → K' (.ret (v a)) (setO ob1 p (pb ts' en S))) : PK K' ob1 p en S v (m ts) := by
  rw [bind_eq] at h
  cases hm : m ts with
  | ok a ts' => rw [hm] at h; exact hk a ts' hm h
  | err ts' e => rw [hm] at h; exact he ts' e h
end
theorem PK.tail {α : Type} {K K' : Out → Objs → Prop} {ob ob1 : Objs} {p : Nat} {en : Int} {S : V} {v : α → V} {v' : α → V} {m : M α} {ts : List Tok} (h : PK K ob p en S v' (m ts))
    (he : ∀ ts' e, K (.panic (.d (failD en ts' e))) (setO ob p (pb ts' en S)) → K' (.panic (.d (failD en ts' e))) (setO ob1 p (pb ts' en S)))
    (hk : ∀ a ts', m ts = .ok a ts' → K (.ret (v' a)) (setO ob p (pb ts' en S)) → K' (.ret (v a)) (setO ob1 p (pb ts' en S))) : PK K' ob1 p en S v (m ts) := by
  cases hm : m ts with
  | ok a ts' => rw [hm] at h; exact hk a ts' hm h
  | err ts' e => rw [hm] at h; exact he ts' e h
theorem men_look {q : Nat → Bool} : ∀ {ob : Objs} {k E : Nat} {v : V}, noMenO q ob = true → lookO ob k = some (.box E v) → V.men q v = false
  | (j, o) :: r, k, E, v, h, hl => by
    simp only [lookO] at hl
    split at hl
    · cases hl
      simp only [noMenO, Bool.and_eq_true, Bool.not_eq_true'] at h
      exact h.1
    · refine men_look (ob := r) ?_ hl
      cases o <;> simp_all [noMenO]
theorem setO_self : ∀ {ob : Objs} {k : Nat} {o : Ob}, lookO ob k = some o → setO ob k o = ob
  | (j, o') :: r, k, o, h => by
    simp only [lookO] at h
    simp only [setO]
    split
    · rename_i e; simp [e] at h; subst h; rfl
    · rename_i e; rw [setO_self (by simpa [e] using h)]
@[simp] theorem succ_ne (n : Nat) : ((n : Int) + 1 = 0) = False := by simp; omega
@[simp] theorem succ_pos (n : Nat) : (0 < (n : Int) + 1) = True := by simp
@[simp] theorem one_le_succ (n : Nat) : (1 ≤ (n : Int) + 1) = True := by simp; omega
@[simp] theorem ex3 (a b n : Nat) (c : List D) : (∃ E z xs, (a = E ∧ b = z ∧ c = xs) ∧ n = xs.length) = (n = c.length) := by
  rw [eq_iff_iff]
  exact ⟨fun ⟨_, _, _, ⟨_, _, h3⟩, h4⟩ => h3 ▸ h4, fun h => ⟨_, _, _, ⟨rfl, rfl, rfl⟩, h⟩⟩
@[simp] theorem add11 (n : Nat) : n + 1 + 1 = n + 2 := rfl
@[simp] theorem add21 (n : Nat) : n + 2 + 1 = n + 3 := rfl
@[simp] theorem add31 (n : Nat) : n + 3 + 1 = n + 4 := rfl
@[simp] theorem add41 (n : Nat) : n + 4 + 1 = n + 5 := rfl
@[simp] theorem add51 (n : Nat) : n + 5 + 1 = n + 6 := rfl
@[simp] theorem add61 (n : Nat) : n + 6 + 1 = n + 7 := rfl
@[simp] theorem add71 (n : Nat) : n + 7 + 1 = n + 8 := rfl
@[simp] theorem add12 (n : Nat) : n + 1 + 2 = n + 3 := rfl
@[simp] theorem add22 (n : Nat) : n + 2 + 2 = n + 4 := rfl
theorem look_lt {ob : Objs} {k : Nat} {o : Ob} (h : lookO ob k = some o) : k < fresh ob := by
  rcases Nat.lt_or_ge k (fresh ob) with h1 | h1
  · exact h1
  · rw [fresh_look ob k h1] at h; cases h
theorem leave_p {ob ob2 : Objs} {p : Nat} {ts ts' : List Tok} {en : Int} {S : V} (hp : lookO ob p = some (pb ts en S)) (hm : ∀ kp, noMenO (young (fresh ob) kp) ob = true) {K : Objs → Prop} {vs : List V} (h : K (setO ob p (pb ts' en S))) (hv : V.mens (young (fresh ob) []) vs = false) (hd : dropO (young (fresh ob) []) ob2 = setO ob p (pb ts' en S)) : leaveK (fresh ob) K vs ob2 := by
  refine ⟨[], hv, ?_, ?_⟩
  · rw [hd]
    refine noMenO_set_box _ _ _ _ _ (hm _) ?_
    have := men_look (hm []) hp
    simpa [pv] using this
  · rw [hd]; exact h
@[simp] theorem Term.enc_shape (t : Term) : t.enc.shape = .node [.leaf, .leaf, .leaf, .leaf, .leaf] := by cases t <;> simp [Term.enc, D.shape]
@[simp] theorem TypeT.enc_shape (t : TypeT) : t.enc.shape = .node [.leaf, .leaf, .leaf, .leaf, .leaf, .leaf] := by cases t <;> simp [TypeT.enc, strsD, D.shape]
theorem repM_len : ∀ {n : Nat} {ts ts' : List Tok} {l : List Int}, repM n ts = .ok l ts' → l.length = n
  | 0, ts, ts', l, h => by cases h; rfl
  | n + 1, ts, ts', l, h => by
    simp only [repM, bind_eq] at h
    cases h1 : numberM 0 9 ts with
    | err a b => rw [h1] at h; cases h
    | ok a t1 =>
      rw [h1] at h
      cases h2 : repM n t1 with
      | err a b => simp only [h2] at h; cases h
      | ok l' t2 =>
        simp only [h2] at h
        cases h
        simp [repM_len h2]
theorem weights_four {ts ts' : List Tok} {l : List Int} (h : weightsM ts = .ok l ts') : ∃ a b c d, l = [a, b, c, d] := by
  have := repM_len h
  match l, this with
  | [a, b, c, d], _ => exact ⟨a, b, c, d, rfl⟩
theorem listM_len {α : Type} {begins : List Tok → Bool} {read : M α} : ∀ {n : Nat} {ts ts' : List Tok} {l : List α}, listM begins read n ts = .ok l ts' → l.length ≤ n
  | 0, ts, ts', l, h => by
    simp only [listM] at h
    split at h
    · cases h
    · cases h; simp
  | n + 1, ts, ts', l, h => by
    simp only [listM] at h
    split at h
    · simp only [bind_eq] at h
      cases h1 : read ts with
      | err a b => rw [h1] at h; cases h
      | ok a t1 =>
        rw [h1] at h
        cases h2 : listM begins read n t1 with
        | err a b => simp only [h2] at h; cases h
        | ok l' t2 =>
          simp only [h2] at h
          cases h
          have := listM_len h2
          simpa using this
    · cases h; simp
theorem listedM_len {n : Nat} {ts ts' : List Tok} {l : List B} (h : listedM n ts = .ok l ts') : 1 ≤ l.length ∧ l.length ≤ n - 1 + 1 := by
  simp only [listedM, bind_eq] at h
  cases h1 : nameM ts with
  | err a b => rw [h1] at h; cases h
  | ok a t1 =>
    rw [h1] at h
    cases h2 : listM (nextB 3 [44]) (do signM [44]; nameM) (n - 1) t1 with
    | err a b => simp only [h2] at h; cases h
    | ok l' t2 =>
      simp only [h2] at h
      cases h
      have := listM_len h2
      simpa using this
@[simp] theorem From.enc_shape (f : From) : f.enc.shape = .node [.leaf, .leaf, .leaf, .node [.leaf, .leaf, .leaf, .leaf, .leaf]] := by
  obtain ⟨a, b, c⟩ := f
  cases c <;> simp [From.enc, D.shape]
@[simp] theorem Atom.enc_shape (f : Atom) : f.enc.shape = .node [.leaf, .node [.leaf, .leaf, .leaf, .leaf, .leaf], .node [.leaf, .leaf, .leaf, .leaf, .leaf]] := by simp [Atom.enc, D.shape]
@[simp] theorem SetT.enc_shape (f : SetT) : f.enc.shape = .node [.leaf, .leaf, .node [.leaf, .leaf, .leaf, .leaf, .leaf]] := by simp [SetT.enc, D.shape]
@[simp] theorem Move.enc_shape (f : Move) : f.enc.shape = .node [.leaf, .leaf, .leaf, .leaf, .leaf] := by simp [Move.enc, D.shape]
@[simp] theorem Ref.enc_shape (f : Ref) : f.enc.shape = .node [.leaf, .leaf, .leaf, .leaf] := by simp [Ref.enc, D.shape]
abbrev srcV (s : Src) : V := .agg [.sl 5 s.issuers.length, .sl 6 s.units.length, .sl 7 s.schemas.length, .sl 8 s.rules.length, .sl 9 s.converts.length, .sl 10 s.purposes.length]
abbrev defsO : Ob := .map [(.str [105, 115, 115, 117, 101, 114], .fn 19 [] []), (.str [117, 110, 105, 116], .fn 20 [] []), (.str [115, 99, 104, 101, 109, 97], .fn 21 [] []), (.str [100, 101, 114, 105, 118, 101], .fn 22 [] []), (.str [99, 111, 110, 118, 101, 114, 116], .fn 23 [] []), (.str [112, 117, 114, 112, 111, 115, 101], .fn 24 [] [])]
abbrev zeroS : D := .agg [.nils, .nils, .nils, .nils, .nils, .nils]
abbrev stO (en : Int) (ts : List Tok) (s : Src) : Objs :=
  [(10, .arr 88 3 (s.purposes.map Purpose.enc)), (9, .arr 84 5 (s.converts.map Convert.enc)), (8, .arr 50 5 (s.rules.map Rule.enc)), (7, .arr 79 6 (s.schemas.map Schema.enc)), (6, .arr 74 5 (s.units.map UnitT.enc)), (5, .arr 9 1 (s.issuers.map D.str)),
    (4, pb ts en (srcV s)), (3, defsO), (2, .box 31 (.d (.int .i64 0))), (1, .box 3 (.d (.int .i64 0))), (0, .box 30 (.d zeroS))]
def PS (K : Out → Objs → Prop) (en : Int) : R Src → Prop
  | .ok s ts => K (.ret (.tup [])) (stO en ts s)
  | .err ts e => ∀ s, K (.panic (.d (failD en ts e))) (stO en ts s)
theorem PS.bind {α : Type} {K K' : Out → Objs → Prop} {en : Int} {S : V} {ob1 : Objs} {v : α → V} {m : M α} {f : α → M Src} {ts : List Tok} (h : PS K en ((m >>= f) ts))
    (he : ∀ ts' e, (∀ s, K (.panic (.d (failD en ts' e))) (stO en ts' s)) → K' (.panic (.d (failD en ts' e))) (setO ob1 4 (pb ts' en S)))
    (hk : ∀ a ts', m ts = .ok a ts' → PS K en (f a ts') → K' (.ret (v a)) (setO ob1 4 (pb ts' en S))) : PK K' ob1 4 en S v (m ts) := by
  rw [bind_eq] at h
  cases hm : m ts with
  | ok a ts' => rw [hm] at h; exact hk a ts' hm h
  | err ts' e => rw [hm] at h; exact he ts' e h
theorem leave_s {en : Int} {ts : List Tok} {s : Src} {K : Objs → Prop} {vs : List V} {ob2 : Objs} (h : K (stO en ts s)) (hv : V.mens (young 11 []) vs = false) (hd : dropO (young 11 []) ob2 = stO en ts s) : leaveK 11 K vs ob2 := by
  refine ⟨[], hv, ?_, ?_⟩
  · rw [hd]; simp [young, mensE]
  · rw [hd]; exact h
structure Few (s : Src) : Prop where
  issuers : s.issuers.length ≤ 8
  units : s.units.length ≤ 16
  schemas : s.schemas.length ≤ 16
  rules : s.rules.length ≤ 16
  converts : s.converts.length ≤ 16
  purposes : s.purposes.length ≤ 8
end Go.Sx
/- Contracts: the parser's small readers. Condition: the program is the seat's. -/
namespace Go.Proofs.YtanpgmgkmfckaaaGreatDoor
open Go Go.Ab Go.Lx Go.Sx
set_option maxRecDepth 100000
section
variable {P : Prg} (hP : P.p = Tryz.prog) {ob : Objs} {p : Nat} {ts : List Tok} {en : Int} {S : V} (hS : V.allD [S] = none) (hp : lookO ob p = some (pb ts en S)) {K : Out → Objs → Prop}
include hP hS hp
theorem y_fail (e : Int) (h : K (.panic (.d (failD en ts e))) (setO ob p (pb ts en S))) : ACall P 25 [.ptr p [], .d (.int .i64 e)] ob K := by
  refine acall_lift hP mixed ok25 lf25 TOk.nil fun _ hm => ?_
  cases ts with
  | nil =>
    simp [lt25, hp]
    exact leave_p hp hm (by simpa [failD, atI, failE] using h) (by simp) (by simp [setO_self hp])
  | cons t ts =>
    simp [lt25, lt25_s0, hp, Tok.enc]
    exact leave_p hp hm (by simpa [failD, atI, failE] using h) (by simp) (by simp [setO_self hp])
theorem y_next (k : Int) (t : B) (h : K (.ret (.d (.bool (nextB k t ts)))) (setO ob p (pb ts en S))) : ACall P 65 [.ptr p [], .d (.int .i64 k), .d (.str t)] ob K := by
  refine acall_lift hP mixed ok65 lf65 TOk.nil fun _ hm => ?_
  cases ts with
  | nil =>
    simp [lt65, hp]
    exact leave_p hp hm (by simpa [nextB] using h) (by simp) (by simp [setO_self hp])
  | cons x ts =>
    simp [lt65, hp, Tok.enc]
    exact leave_p hp hm (by simpa [nextB] using h) (by simp) (by simp [setO_self hp])
theorem y_take (k : Int) (t : B) (h : PK K ob p en S (fun t => .d t.enc) (takeM k t ts)) : ACall P 133 [.ptr p [], .d (.int .i64 k), .d (.str t)] ob K := by
  refine acall_lift hP mixed ok133 lf133 TOk.nil fun _ hm => ?_
  simp [lt133, hp]
  refine y_next hP hS (ts := ts) (en := en) (S := S) (by simp [hp]) _ _ ?_
  simp [hp]
  refine ⟨fun hn => ?_, fun hn => ?_⟩
  · simp [takeM, hn] at h
    refine y_fail hP hS (ts := ts) (en := en) (S := S) (by simp [hp]) _ ?_
    simp [hp]
    exact leave_p hp hm h (by simp) (by simp [hp])
  · cases ts with
    | nil => simp [nextB] at hn
    | cons x ts =>
      simp [takeM, hn] at h
      simp [lt133_s0, hp, hS, Tok.enc]
      exact leave_p hp hm h (by simp) (by simp [hp])
theorem y_name (h : PK K ob p en S (fun t => .d (.str t)) (nameM ts)) : ACall P 60 [.ptr p []] ob K := by
  refine acall_lift hP mixed ok60 lf60 TOk.nil fun _ hm => ?_
  simp [lt60, hp]
  refine y_take hP hS hp _ _ ?_
  refine PK.bind h (fun ts' e h => ?_) (fun a ts' ha h => ?_)
  · simp
    exact leave_p hp hm h (by simp) (by simp [hp])
  · simp [Tok.enc]
    exact leave_p hp hm h (by simp) (by simp [hp])
theorem y_word (t : B) (h : PK K ob p en S (fun _ => .tup []) (wordM t ts)) : ACall P 59 [.ptr p [], .d (.str t)] ob K := by
  refine acall_lift hP mixed ok59 lf59 TOk.nil fun _ hm => ?_
  simp [lt59, hp]
  refine y_take hP hS hp _ _ ?_
  refine PK.bind h (fun ts' e h => ?_) (fun a ts' ha h => ?_)
  · simp
    exact leave_p hp hm h (by simp) (by simp [hp])
  · simp [Tok.enc]
    exact leave_p hp hm h (by simp) (by simp [hp])
theorem y_sign (t : B) (h : PK K ob p en S (fun _ => .tup []) (signM t ts)) : ACall P 61 [.ptr p [], .d (.str t)] ob K := by
  refine acall_lift hP mixed ok61 lf61 TOk.nil fun _ hm => ?_
  simp [lt61, hp]
  refine y_take hP hS hp _ _ ?_
  refine PK.bind h (fun ts' e h => ?_) (fun a ts' ha h => ?_)
  · simp
    exact leave_p hp hm h (by simp) (by simp [hp])
  · simp [Tok.enc]
    exact leave_p hp hm h (by simp) (by simp [hp])
theorem y_accept (k : Int) (t : B) (h : PK K ob p en S (fun b => .d (.bool b)) (acceptM k t ts)) : ACall P 62 [.ptr p [], .d (.int .i64 k), .d (.str t)] ob K := by
  refine acall_lift hP mixed ok62 lf62 TOk.nil fun _ hm => ?_
  simp [lt62, hp]
  refine y_next hP hS hp _ _ ?_
  simp [hp]
  refine ⟨fun hn => ?_, fun hn => ?_⟩
  · simp [acceptM, hn] at h
    exact leave_p hp hm h (by simp) (by simp [hp])
  · cases ts with
    | nil => simp [nextB] at hn
    | cons x ts =>
      simp [acceptM, hn] at h
      simp [hp, hS]
      exact leave_p hp hm h (by simp) (by simp [hp])
theorem y_room (many most : Nat) (h : PK K ob p en S (fun _ => .tup []) (roomM many most ts)) : ACall P 58 [.ptr p [], .d (.int .i64 many), .d (.int .i64 most)] ob K := by
  refine acall_lift hP mixed ok58 lf58 TOk.nil fun _ hm => ?_
  simp [lt58, hp]
  refine ⟨fun hn => ?_, fun hn => ?_⟩
  · simp [roomM, show many = most by omega] at h
    refine y_fail hP hS hp _ ?_
    simp
    exact leave_p hp hm h (by simp) (by simp [hp])
  · simp [roomM, show many ≠ most by omega] at h
    exact leave_p hp hm h (by simp) (by simp [setO_self hp])
end
end Go.Proofs.YtanpgmgkmfckaaaGreatDoor
/- Contracts: the parser's readers of parts. Condition: the program is the seat's, and its intervals are laid. -/
namespace Go.Proofs.YtanpgmgkmfckaaaGreatDoor
open Go Go.Ab Go.Lx Go.Sx
set_option maxRecDepth 100000
structure Ivl (P : Prg) : Prop where
  factors : GlobIs P 0 (.agg [.int .i64 2, .int .i64 1000])
  editions : GlobIs P 1 (.agg [.int .i64 1, .int .i64 255])
  mosts : GlobIs P 2 (.agg [.int .i64 0, .int .i64 32])
  weights : GlobIs P 3 (.agg [.int .i64 0, .int .i64 9])
  anyN : GlobIs P 4 (.agg [.int .i64 0, .int .i64 1048576])
section
variable {P : Prg} (hP : P.p = Tryz.prog)
include hP
theorem y_has (lo hi n : Int) {ob : Objs} {K : V → Prop} (h : K (.d (.bool (decide (lo ≤ n) && decide (n ≤ hi))))) : PCall P 134 [.d (.agg [.int .i64 lo, .int .i64 hi]), .d (.int .i64 n)] ob K := by
  refine pcall_lift hP mixed (ds := [.agg [.int .i64 lo, .int .i64 hi], .int .i64 n]) ok134 lf134 TOk.nil ?_
  simp [lt134]
  simpa using h
variable {ob : Objs} {p : Nat} {ts : List Tok} {en : Int} {S : V} (hS : V.allD [S] = none) (hp : lookO ob p = some (pb ts en S)) {K : Out → Objs → Prop}
include hS hp
theorem y_number (lo hi : Int) (h : PK K ob p en S (fun n => .d (.int .i64 n)) (numberM lo hi ts)) : ACall P 63 [.ptr p [], .d (.agg [.int .i64 lo, .int .i64 hi])] ob K := by
  refine acall_lift hP mixed ok63 lf63 TOk.nil fun _ hm => ?_
  simp [lt63, hp, hS, ↓ql, ↓qn, ↓qo, ↓qi, ↓qh, ↓qj, ↓qk, ↓qm, ↓zs, ↓zp, ↓zr, ↓zt, ↓zq, ↓zl, ↓zm, ↓zk, ↓zo, ↓zn, ↓qq, ↓qp, ↓qw, ↓qx, ↓zg, ↓qy, ↓qv, ↓qr, ↓zh, ↓qu, ↓qt, ↓qs, ↓qz, ↓zb, ↓za, ↓zd, ↓ze, ↓zf, ↓zw, ↓zu, ↓zy, ↓zx, ↓qb, ↓qa, ↓qd, ↓qc, ↓qe, ↓qg, ↓qf, ↓zj, ↓zi]
  refine y_next hP hS (ts := ts) (en := en) (S := S) (by simp [hp]) _ _ ?_
  cases hn : nextB 2 [] ts with
  | false =>
    simp [numberM, hn] at h
    simp [hp, hS, ↓ql, ↓qn, ↓qo, ↓qi, ↓qh, ↓qj, ↓qk, ↓qm, ↓zs, ↓zp, ↓zr, ↓zt, ↓zq, ↓zl, ↓zm, ↓zk, ↓zo, ↓zn, ↓qq, ↓qp, ↓qw, ↓qx, ↓zg, ↓qy, ↓qv, ↓qr, ↓zh, ↓qu, ↓qt, ↓qs, ↓qz, ↓zb, ↓za, ↓zd, ↓ze, ↓zf, ↓zw, ↓zu, ↓zy, ↓zx, ↓qb, ↓qa, ↓qd, ↓qc, ↓qe, ↓qg, ↓qf, ↓zj, ↓zi]
    refine y_fail hP hS (ts := ts) (en := en) (S := S) (by simp [hp]) _ ?_
    simp [hp, hS]
    exact leave_p hp hm h (by simp) (by simp [hp])
  | true =>
    cases ts with
    | nil => simp [nextB] at hn
    | cons x ts =>
      simp [hp, hS, Tok.enc, ↓ql, ↓qn, ↓qo, ↓qi, ↓qh, ↓qj, ↓qk, ↓qm, ↓zs, ↓zp, ↓zr, ↓zt, ↓zq, ↓zl, ↓zm, ↓zk, ↓zo, ↓zn, ↓qq, ↓qp, ↓qw, ↓qx, ↓zg, ↓qy, ↓qv, ↓qr, ↓zh, ↓qu, ↓qt, ↓qs, ↓qz, ↓zb, ↓za, ↓zd, ↓ze, ↓zf, ↓zw, ↓zu, ↓zy, ↓zx, ↓qb, ↓qa, ↓qd, ↓qc, ↓qe, ↓qg, ↓qf, ↓zj, ↓zi]
      refine y_has hP _ _ _ ?_
      by_cases hr : lo ≤ x.n ∧ x.n ≤ hi
      · simp [numberM, hn, hr] at h
        simp [hr, lt63_s0, hp, hS, ↓ql, ↓qn, ↓qo, ↓qi, ↓qh, ↓qj, ↓qk, ↓qm, ↓zs, ↓zp, ↓zr, ↓zt, ↓zq, ↓zl, ↓zm, ↓zk, ↓zo, ↓zn, ↓qq, ↓qp, ↓qw, ↓qx, ↓zg, ↓qy, ↓qv, ↓qr, ↓zh, ↓qu, ↓qt, ↓qs, ↓qz, ↓zb, ↓za, ↓zd, ↓ze, ↓zf, ↓zw, ↓zu, ↓zy, ↓zx, ↓qb, ↓qa, ↓qd, ↓qc, ↓qe, ↓qg, ↓qf, ↓zj, ↓zi]
        refine y_take hP hS (ts := x :: ts) (en := en) (S := S) (by simp [hp, Tok.enc]) _ _ ?_
        simp [takeM, hn, hp, hS, Tok.enc]
        exact leave_p hp hm h (by simp) (by simp [hp])
      · have hr' : (decide (lo ≤ x.n) && decide (x.n ≤ hi)) = false := by simpa using hr
        simp [numberM, hn, Bool.and_assoc, hr'] at h
        simp only [hr']
        simp [hp, hS, ↓ql, ↓qn, ↓qo, ↓qi, ↓qh, ↓qj, ↓qk, ↓qm, ↓zs, ↓zp, ↓zr, ↓zt, ↓zq, ↓zl, ↓zm, ↓zk, ↓zo, ↓zn, ↓qq, ↓qp, ↓qw, ↓qx, ↓zg, ↓qy, ↓qv, ↓qr, ↓zh, ↓qu, ↓qt, ↓qs, ↓qz, ↓zb, ↓za, ↓zd, ↓ze, ↓zf, ↓zw, ↓zu, ↓zy, ↓zx, ↓qb, ↓qa, ↓qd, ↓qc, ↓qe, ↓qg, ↓qf, ↓zj, ↓zi]
        refine y_fail hP hS (ts := x :: ts) (en := en) (S := S) (by simp [hp, Tok.enc]) _ ?_
        simp [hp, hS, Tok.enc]
        exact leave_p hp hm h (by simp) (by simp [hp, Tok.enc])
theorem y_path (h : PK K ob p en S (fun x => .tup [.d (.str x.1), .d (.str x.2)]) (pathM ts)) : ACall P 138 [.ptr p []] ob K := by
  refine acall_lift hP mixed ok138 lf138 TOk.nil fun _ hm => ?_
  simp [lt138, hp, hS, ↓ql, ↓qn, ↓qo, ↓qi, ↓qh, ↓qj, ↓qk, ↓qm, ↓zs, ↓zp, ↓zr, ↓zt, ↓zq, ↓zl, ↓zm, ↓zk, ↓zo, ↓zn, ↓qq, ↓qp, ↓qw, ↓qx, ↓zg, ↓qy, ↓qv, ↓qr, ↓zh, ↓qu, ↓qt, ↓qs, ↓qz, ↓zb, ↓za, ↓zd, ↓ze, ↓zf, ↓zw, ↓zu, ↓zy, ↓zx, ↓qb, ↓qa, ↓qd, ↓qc, ↓qe, ↓qg, ↓qf, ↓zj, ↓zi]
  refine y_name hP hS (by simp [hp]) (PK.bind h (fun ts' e h => ?_) (fun a ts' ha h => ?_))
  · simp
    exact leave_p hp hm h (by simp) (by simp [hp])
  simp [hp, hS, ↓ql, ↓qn, ↓qo, ↓qi, ↓qh, ↓qj, ↓qk, ↓qm, ↓zs, ↓zp, ↓zr, ↓zt, ↓zq, ↓zl, ↓zm, ↓zk, ↓zo, ↓zn, ↓qq, ↓qp, ↓qw, ↓qx, ↓zg, ↓qy, ↓qv, ↓qr, ↓zh, ↓qu, ↓qt, ↓qs, ↓qz, ↓zb, ↓za, ↓zd, ↓ze, ↓zf, ↓zw, ↓zu, ↓zy, ↓zx, ↓qb, ↓qa, ↓qd, ↓qc, ↓qe, ↓qg, ↓qf, ↓zj, ↓zi]
  refine y_sign hP hS (by simp [hp]) _ (PK.bind h (fun ts' e h => ?_) (fun a ts' ha h => ?_))
  · simp
    exact leave_p hp hm h (by simp) (by simp [hp])
  simp [hp, hS, ↓ql, ↓qn, ↓qo, ↓qi, ↓qh, ↓qj, ↓qk, ↓qm, ↓zs, ↓zp, ↓zr, ↓zt, ↓zq, ↓zl, ↓zm, ↓zk, ↓zo, ↓zn, ↓qq, ↓qp, ↓qw, ↓qx, ↓zg, ↓qy, ↓qv, ↓qr, ↓zh, ↓qu, ↓qt, ↓qs, ↓qz, ↓zb, ↓za, ↓zd, ↓ze, ↓zf, ↓zw, ↓zu, ↓zy, ↓zx, ↓qb, ↓qa, ↓qd, ↓qc, ↓qe, ↓qg, ↓qf, ↓zj, ↓zi]
  refine y_name hP hS (by simp [hp]) (PK.bind h (fun ts' e h => ?_) (fun a ts' ha h => ?_))
  · simp
    exact leave_p hp hm h (by simp) (by simp [hp])
  simp [hp, hS, ↓ql, ↓qn, ↓qo, ↓qi, ↓qh, ↓qj, ↓qk, ↓qm, ↓zs, ↓zp, ↓zr, ↓zt, ↓zq, ↓zl, ↓zm, ↓zk, ↓zo, ↓zn, ↓qq, ↓qp, ↓qw, ↓qx, ↓zg, ↓qy, ↓qv, ↓qr, ↓zh, ↓qu, ↓qt, ↓qs, ↓qz, ↓zb, ↓za, ↓zd, ↓ze, ↓zf, ↓zw, ↓zu, ↓zy, ↓zx, ↓qb, ↓qa, ↓qd, ↓qc, ↓qe, ↓qg, ↓qf, ↓zj, ↓zi]
  exact leave_p hp hm h (by simp) (by simp [hp])
theorem y_move (hI : Ivl P) (h : PK K ob p en S (fun x => .d x.enc) (moveM ts)) : ACall P 76 [.ptr p []] ob K := by
  refine acall_lift hP mixed ok76 lf76 TOk.nil fun _ hm => ?_
  simp [lt76, hp, hS, hI.factors, hI.editions, hI.mosts, hI.weights, hI.anyN, ↓ql, ↓qn, ↓qo, ↓qi, ↓qh, ↓qj, ↓qk, ↓qm, ↓zs, ↓zp, ↓zr, ↓zt, ↓zq, ↓zl, ↓zm, ↓zk, ↓zo, ↓zn, ↓qq, ↓qp, ↓qw, ↓qx, ↓zg, ↓qy, ↓qv, ↓qr, ↓zh, ↓qu, ↓qt, ↓qs, ↓qz, ↓zb, ↓za, ↓zd, ↓ze, ↓zf, ↓zw, ↓zu, ↓zy, ↓zx, ↓qb, ↓qa, ↓qd, ↓qc, ↓qe, ↓qg, ↓qf, ↓zj, ↓zi]
  refine y_name hP hS (by simp [hp]) (PK.bind h (fun ts' e h => ?_) (fun a ts' ha h => ?_))
  · simp
    exact leave_p hp hm h (by simp) (by simp [hp])
  simp [hp, hS, hI.factors, hI.editions, hI.mosts, hI.weights, hI.anyN, ↓ql, ↓qn, ↓qo, ↓qi, ↓qh, ↓qj, ↓qk, ↓qm, ↓zs, ↓zp, ↓zr, ↓zt, ↓zq, ↓zl, ↓zm, ↓zk, ↓zo, ↓zn, ↓qq, ↓qp, ↓qw, ↓qx, ↓zg, ↓qy, ↓qv, ↓qr, ↓zh, ↓qu, ↓qt, ↓qs, ↓qz, ↓zb, ↓za, ↓zd, ↓ze, ↓zf, ↓zw, ↓zu, ↓zy, ↓zx, ↓qb, ↓qa, ↓qd, ↓qc, ↓qe, ↓qg, ↓qf, ↓zj, ↓zi]
  refine y_sign hP hS (by simp [hp]) _ (PK.bind h (fun ts' e h => ?_) (fun a ts' ha h => ?_))
  · simp
    exact leave_p hp hm h (by simp) (by simp [hp])
  simp [hp, hS, hI.factors, hI.editions, hI.mosts, hI.weights, hI.anyN, ↓ql, ↓qn, ↓qo, ↓qi, ↓qh, ↓qj, ↓qk, ↓qm, ↓zs, ↓zp, ↓zr, ↓zt, ↓zq, ↓zl, ↓zm, ↓zk, ↓zo, ↓zn, ↓qq, ↓qp, ↓qw, ↓qx, ↓zg, ↓qy, ↓qv, ↓qr, ↓zh, ↓qu, ↓qt, ↓qs, ↓qz, ↓zb, ↓za, ↓zd, ↓ze, ↓zf, ↓zw, ↓zu, ↓zy, ↓zx, ↓qb, ↓qa, ↓qd, ↓qc, ↓qe, ↓qg, ↓qf, ↓zj, ↓zi]
  refine y_name hP hS (by simp [hp]) (PK.bind h (fun ts' e h => ?_) (fun a ts' ha h => ?_))
  · simp
    exact leave_p hp hm h (by simp) (by simp [hp])
  simp [hp, hS, hI.factors, hI.editions, hI.mosts, hI.weights, hI.anyN, ↓ql, ↓qn, ↓qo, ↓qi, ↓qh, ↓qj, ↓qk, ↓qm, ↓zs, ↓zp, ↓zr, ↓zt, ↓zq, ↓zl, ↓zm, ↓zk, ↓zo, ↓zn, ↓qq, ↓qp, ↓qw, ↓qx, ↓zg, ↓qy, ↓qv, ↓qr, ↓zh, ↓qu, ↓qt, ↓qs, ↓qz, ↓zb, ↓za, ↓zd, ↓ze, ↓zf, ↓zw, ↓zu, ↓zy, ↓zx, ↓qb, ↓qa, ↓qd, ↓qc, ↓qe, ↓qg, ↓qf, ↓zj, ↓zi]
  rw [shiftM, massoc] at h
  refine y_accept hP hS (by simp [hp]) _ _ (PK.bind h (fun ts' e h => ?_) (fun a ts' ha h => ?_))
  · simp
    exact leave_p hp hm h (by simp) (by simp [hp])
  cases a
  · skip
    simp only [Bool.false_eq_true, if_false, if_true, massoc, mpure] at h
    simp [hp, hS, hI.factors, hI.editions, hI.mosts, hI.weights, hI.anyN, ↓ql, ↓qn, ↓qo, ↓qi, ↓qh, ↓qj, ↓qk, ↓qm, ↓zs, ↓zp, ↓zr, ↓zt, ↓zq, ↓zl, ↓zm, ↓zk, ↓zo, ↓zn, ↓qq, ↓qp, ↓qw, ↓qx, ↓zg, ↓qy, ↓qv, ↓qr, ↓zh, ↓qu, ↓qt, ↓qs, ↓qz, ↓zb, ↓za, ↓zd, ↓ze, ↓zf, ↓zw, ↓zu, ↓zy, ↓zx, ↓qb, ↓qa, ↓qd, ↓qc, ↓qe, ↓qg, ↓qf, ↓zj, ↓zi]
    refine y_accept hP hS (by simp [hp]) _ _ (PK.bind h (fun ts' e h => ?_) (fun a ts' ha h => ?_))
    · simp
      exact leave_p hp hm h (by simp) (by simp [hp])
    cases a
    · skip
      simp only [Bool.false_eq_true, if_false, if_true, massoc, mpure] at h
      simp [hp, hS, hI.factors, hI.editions, hI.mosts, hI.weights, hI.anyN, lt76_s0, ↓ql, ↓qn, ↓qo, ↓qi, ↓qh, ↓qj, ↓qk, ↓qm, ↓zs, ↓zp, ↓zr, ↓zt, ↓zq, ↓zl, ↓zm, ↓zk, ↓zo, ↓zn, ↓qq, ↓qp, ↓qw, ↓qx, ↓zg, ↓qy, ↓qv, ↓qr, ↓zh, ↓qu, ↓qt, ↓qs, ↓qz, ↓zb, ↓za, ↓zd, ↓ze, ↓zf, ↓zw, ↓zu, ↓zy, ↓zx, ↓qb, ↓qa, ↓qd, ↓qc, ↓qe, ↓qg, ↓qf, ↓zj, ↓zi]
      refine y_sign hP hS (by simp [hp]) _ (PK.bind h (fun ts' e h => ?_) (fun a ts' ha h => ?_))
      · simp
        exact leave_p hp hm h (by simp) (by simp [hp])
      simp [hp, hS, hI.factors, hI.editions, hI.mosts, hI.weights, hI.anyN, ↓ql, ↓qn, ↓qo, ↓qi, ↓qh, ↓qj, ↓qk, ↓qm, ↓zs, ↓zp, ↓zr, ↓zt, ↓zq, ↓zl, ↓zm, ↓zk, ↓zo, ↓zn, ↓qq, ↓qp, ↓qw, ↓qx, ↓zg, ↓qy, ↓qv, ↓qr, ↓zh, ↓qu, ↓qt, ↓qs, ↓qz, ↓zb, ↓za, ↓zd, ↓ze, ↓zf, ↓zw, ↓zu, ↓zy, ↓zx, ↓qb, ↓qa, ↓qd, ↓qc, ↓qe, ↓qg, ↓qf, ↓zj, ↓zi]
      exact leave_p hp hm h (by simp) (by simp [hp])
    · skip
      simp only [Bool.false_eq_true, if_false, if_true, massoc, mpure] at h
      simp [hp, hS, hI.factors, hI.editions, hI.mosts, hI.weights, hI.anyN, ↓ql, ↓qn, ↓qo, ↓qi, ↓qh, ↓qj, ↓qk, ↓qm, ↓zs, ↓zp, ↓zr, ↓zt, ↓zq, ↓zl, ↓zm, ↓zk, ↓zo, ↓zn, ↓qq, ↓qp, ↓qw, ↓qx, ↓zg, ↓qy, ↓qv, ↓qr, ↓zh, ↓qu, ↓qt, ↓qs, ↓qz, ↓zb, ↓za, ↓zd, ↓ze, ↓zf, ↓zw, ↓zu, ↓zy, ↓zx, ↓qb, ↓qa, ↓qd, ↓qc, ↓qe, ↓qg, ↓qf, ↓zj, ↓zi]
      refine y_number hP hS (by simp [hp]) _ _ (PK.bind h (fun ts' e h => ?_) (fun a ts' ha h => ?_))
      · simp
        exact leave_p hp hm h (by simp) (by simp [hp])
      simp [hp, hS, hI.factors, hI.editions, hI.mosts, hI.weights, hI.anyN, lt76_s0, ↓ql, ↓qn, ↓qo, ↓qi, ↓qh, ↓qj, ↓qk, ↓qm, ↓zs, ↓zp, ↓zr, ↓zt, ↓zq, ↓zl, ↓zm, ↓zk, ↓zo, ↓zn, ↓qq, ↓qp, ↓qw, ↓qx, ↓zg, ↓qy, ↓qv, ↓qr, ↓zh, ↓qu, ↓qt, ↓qs, ↓qz, ↓zb, ↓za, ↓zd, ↓ze, ↓zf, ↓zw, ↓zu, ↓zy, ↓zx, ↓qb, ↓qa, ↓qd, ↓qc, ↓qe, ↓qg, ↓qf, ↓zj, ↓zi]
      have hw : IntKind.i64.wrap (-a) = -a := by have := numberM_ok ha; exact IntWalk.i64_in _ (by omega)
      simp only [hw]
      refine y_sign hP hS (by simp [hp]) _ (PK.bind h (fun ts' e h => ?_) (fun a ts' ha h => ?_))
      · simp
        exact leave_p hp hm h (by simp) (by simp [hp])
      simp [hp, hS, hI.factors, hI.editions, hI.mosts, hI.weights, hI.anyN, ↓ql, ↓qn, ↓qo, ↓qi, ↓qh, ↓qj, ↓qk, ↓qm, ↓zs, ↓zp, ↓zr, ↓zt, ↓zq, ↓zl, ↓zm, ↓zk, ↓zo, ↓zn, ↓qq, ↓qp, ↓qw, ↓qx, ↓zg, ↓qy, ↓qv, ↓qr, ↓zh, ↓qu, ↓qt, ↓qs, ↓qz, ↓zb, ↓za, ↓zd, ↓ze, ↓zf, ↓zw, ↓zu, ↓zy, ↓zx, ↓qb, ↓qa, ↓qd, ↓qc, ↓qe, ↓qg, ↓qf, ↓zj, ↓zi]
      exact leave_p hp hm h (by simp) (by simp [hp])
  · skip
    simp only [Bool.false_eq_true, if_false, if_true, massoc, mpure] at h
    simp [hp, hS, hI.factors, hI.editions, hI.mosts, hI.weights, hI.anyN, ↓ql, ↓qn, ↓qo, ↓qi, ↓qh, ↓qj, ↓qk, ↓qm, ↓zs, ↓zp, ↓zr, ↓zt, ↓zq, ↓zl, ↓zm, ↓zk, ↓zo, ↓zn, ↓qq, ↓qp, ↓qw, ↓qx, ↓zg, ↓qy, ↓qv, ↓qr, ↓zh, ↓qu, ↓qt, ↓qs, ↓qz, ↓zb, ↓za, ↓zd, ↓ze, ↓zf, ↓zw, ↓zu, ↓zy, ↓zx, ↓qb, ↓qa, ↓qd, ↓qc, ↓qe, ↓qg, ↓qf, ↓zj, ↓zi]
    refine y_number hP hS (by simp [hp]) _ _ (PK.bind h (fun ts' e h => ?_) (fun a ts' ha h => ?_))
    · simp
      exact leave_p hp hm h (by simp) (by simp [hp])
    simp [hp, hS, hI.factors, hI.editions, hI.mosts, hI.weights, hI.anyN, lt76_s0, ↓ql, ↓qn, ↓qo, ↓qi, ↓qh, ↓qj, ↓qk, ↓qm, ↓zs, ↓zp, ↓zr, ↓zt, ↓zq, ↓zl, ↓zm, ↓zk, ↓zo, ↓zn, ↓qq, ↓qp, ↓qw, ↓qx, ↓zg, ↓qy, ↓qv, ↓qr, ↓zh, ↓qu, ↓qt, ↓qs, ↓qz, ↓zb, ↓za, ↓zd, ↓ze, ↓zf, ↓zw, ↓zu, ↓zy, ↓zx, ↓qb, ↓qa, ↓qd, ↓qc, ↓qe, ↓qg, ↓qf, ↓zj, ↓zi]
    refine y_sign hP hS (by simp [hp]) _ (PK.bind h (fun ts' e h => ?_) (fun a ts' ha h => ?_))
    · simp
      exact leave_p hp hm h (by simp) (by simp [hp])
    simp [hp, hS, hI.factors, hI.editions, hI.mosts, hI.weights, hI.anyN, ↓ql, ↓qn, ↓qo, ↓qi, ↓qh, ↓qj, ↓qk, ↓qm, ↓zs, ↓zp, ↓zr, ↓zt, ↓zq, ↓zl, ↓zm, ↓zk, ↓zo, ↓zn, ↓qq, ↓qp, ↓qw, ↓qx, ↓zg, ↓qy, ↓qv, ↓qr, ↓zh, ↓qu, ↓qt, ↓qs, ↓qz, ↓zb, ↓za, ↓zd, ↓ze, ↓zf, ↓zw, ↓zu, ↓zy, ↓zx, ↓qb, ↓qa, ↓qd, ↓qc, ↓qe, ↓qg, ↓qf, ↓zj, ↓zi]
    exact leave_p hp hm h (by simp) (by simp [hp])
theorem y_may (h : PK K ob p en S (fun x => .d x.enc) (mayM ts)) : ACall P 78 [.ptr p []] ob K := by
  refine acall_lift hP mixed ok78 lf78 TOk.nil fun _ hm => ?_
  simp [lt78, hp, hS, ↓ql, ↓qn, ↓qo, ↓qi, ↓qh, ↓qj, ↓qk, ↓qm, ↓zs, ↓zp, ↓zr, ↓zt, ↓zq, ↓zl, ↓zm, ↓zk, ↓zo, ↓zn, ↓qq, ↓qp, ↓qw, ↓qx, ↓zg, ↓qy, ↓qv, ↓qr, ↓zh, ↓qu, ↓qt, ↓qs, ↓qz, ↓zb, ↓za, ↓zd, ↓ze, ↓zf, ↓zw, ↓zu, ↓zy, ↓zx, ↓qb, ↓qa, ↓qd, ↓qc, ↓qe, ↓qg, ↓qf, ↓zj, ↓zi]
  refine y_word hP hS (by simp [hp]) _ (PK.bind h (fun ts' e h => ?_) (fun a ts' ha h => ?_))
  · simp
    exact leave_p hp hm h (by simp) (by simp [hp])
  simp [hp, hS, ↓ql, ↓qn, ↓qo, ↓qi, ↓qh, ↓qj, ↓qk, ↓qm, ↓zs, ↓zp, ↓zr, ↓zt, ↓zq, ↓zl, ↓zm, ↓zk, ↓zo, ↓zn, ↓qq, ↓qp, ↓qw, ↓qx, ↓zg, ↓qy, ↓qv, ↓qr, ↓zh, ↓qu, ↓qt, ↓qs, ↓qz, ↓zb, ↓za, ↓zd, ↓ze, ↓zf, ↓zw, ↓zu, ↓zy, ↓zx, ↓qb, ↓qa, ↓qd, ↓qc, ↓qe, ↓qg, ↓qf, ↓zj, ↓zi]
  refine y_path hP hS (by simp [hp]) (PK.bind h (fun ts' e h => ?_) (fun a ts' ha h => ?_))
  · simp
    exact leave_p hp hm h (by simp) (by simp [hp])
  simp [hp, hS, ↓ql, ↓qn, ↓qo, ↓qi, ↓qh, ↓qj, ↓qk, ↓qm, ↓zs, ↓zp, ↓zr, ↓zt, ↓zq, ↓zl, ↓zm, ↓zk, ↓zo, ↓zn, ↓qq, ↓qp, ↓qw, ↓qx, ↓zg, ↓qy, ↓qv, ↓qr, ↓zh, ↓qu, ↓qt, ↓qs, ↓qz, ↓zb, ↓za, ↓zd, ↓ze, ↓zf, ↓zw, ↓zu, ↓zy, ↓zx, ↓qb, ↓qa, ↓qd, ↓qc, ↓qe, ↓qg, ↓qf, ↓zj, ↓zi]
  refine y_sign hP hS (by simp [hp]) _ (PK.bind h (fun ts' e h => ?_) (fun a ts' ha h => ?_))
  · simp
    exact leave_p hp hm h (by simp) (by simp [hp])
  simp [hp, hS, ↓ql, ↓qn, ↓qo, ↓qi, ↓qh, ↓qj, ↓qk, ↓qm, ↓zs, ↓zp, ↓zr, ↓zt, ↓zq, ↓zl, ↓zm, ↓zk, ↓zo, ↓zn, ↓qq, ↓qp, ↓qw, ↓qx, ↓zg, ↓qy, ↓qv, ↓qr, ↓zh, ↓qu, ↓qt, ↓qs, ↓qz, ↓zb, ↓za, ↓zd, ↓ze, ↓zf, ↓zw, ↓zu, ↓zy, ↓zx, ↓qb, ↓qa, ↓qd, ↓qc, ↓qe, ↓qg, ↓qf, ↓zj, ↓zi]
  exact leave_p hp hm h (by simp) (by simp [hp])
theorem y_from (h : PK K ob p en S (fun x => .d x.enc) (fromM ts)) : ACall P 70 [.ptr p []] ob K := by
  refine acall_lift hP mixed ok70 lf70 TOk.nil fun _ hm => ?_
  simp [lt70, hp, hS, ↓ql, ↓qn, ↓qo, ↓qi, ↓qh, ↓qj, ↓qk, ↓qm, ↓zs, ↓zp, ↓zr, ↓zt, ↓zq, ↓zl, ↓zm, ↓zk, ↓zo, ↓zn, ↓qq, ↓qp, ↓qw, ↓qx, ↓zg, ↓qy, ↓qv, ↓qr, ↓zh, ↓qu, ↓qt, ↓qs, ↓qz, ↓zb, ↓za, ↓zd, ↓ze, ↓zf, ↓zw, ↓zu, ↓zy, ↓zx, ↓qb, ↓qa, ↓qd, ↓qc, ↓qe, ↓qg, ↓qf, ↓zj, ↓zi]
  refine y_word hP hS (by simp [hp]) _ (PK.bind h (fun ts' e h => ?_) (fun a ts' ha h => ?_))
  · simp
    exact leave_p hp hm h (by simp) (by simp [hp])
  simp [hp, hS, ↓ql, ↓qn, ↓qo, ↓qi, ↓qh, ↓qj, ↓qk, ↓qm, ↓zs, ↓zp, ↓zr, ↓zt, ↓zq, ↓zl, ↓zm, ↓zk, ↓zo, ↓zn, ↓qq, ↓qp, ↓qw, ↓qx, ↓zg, ↓qy, ↓qv, ↓qr, ↓zh, ↓qu, ↓qt, ↓qs, ↓qz, ↓zb, ↓za, ↓zd, ↓ze, ↓zf, ↓zw, ↓zu, ↓zy, ↓zx, ↓qb, ↓qa, ↓qd, ↓qc, ↓qe, ↓qg, ↓qf, ↓zj, ↓zi]
  refine y_name hP hS (by simp [hp]) (PK.bind h (fun ts' e h => ?_) (fun a ts' ha h => ?_))
  · simp
    exact leave_p hp hm h (by simp) (by simp [hp])
  simp [hp, hS, ↓ql, ↓qn, ↓qo, ↓qi, ↓qh, ↓qj, ↓qk, ↓qm, ↓zs, ↓zp, ↓zr, ↓zt, ↓zq, ↓zl, ↓zm, ↓zk, ↓zo, ↓zn, ↓qq, ↓qp, ↓qw, ↓qx, ↓zg, ↓qy, ↓qv, ↓qr, ↓zh, ↓qu, ↓qt, ↓qs, ↓qz, ↓zb, ↓za, ↓zd, ↓ze, ↓zf, ↓zw, ↓zu, ↓zy, ↓zx, ↓qb, ↓qa, ↓qd, ↓qc, ↓qe, ↓qg, ↓qf, ↓zj, ↓zi]
  refine y_name hP hS (by simp [hp]) (PK.bind h (fun ts' e h => ?_) (fun a ts' ha h => ?_))
  · simp
    exact leave_p hp hm h (by simp) (by simp [hp])
  simp [hp, hS, ↓ql, ↓qn, ↓qo, ↓qi, ↓qh, ↓qj, ↓qk, ↓qm, ↓zs, ↓zp, ↓zr, ↓zt, ↓zq, ↓zl, ↓zm, ↓zk, ↓zo, ↓zn, ↓qq, ↓qp, ↓qw, ↓qx, ↓zg, ↓qy, ↓qv, ↓qr, ↓zh, ↓qu, ↓qt, ↓qs, ↓qz, ↓zb, ↓za, ↓zd, ↓ze, ↓zf, ↓zw, ↓zu, ↓zy, ↓zx, ↓qb, ↓qa, ↓qd, ↓qc, ↓qe, ↓qg, ↓qf, ↓zj, ↓zi]
  refine y_accept hP hS (by simp [hp]) _ _ (PK.bind h (fun ts' e h => ?_) (fun a ts' ha h => ?_))
  · simp
    exact leave_p hp hm h (by simp) (by simp [hp])
  cases a
  · skip
    simp only [Bool.false_eq_true, if_false, if_true, massoc, mpure] at h
    simp [hp, hS, lt70_s0, ↓ql, ↓qn, ↓qo, ↓qi, ↓qh, ↓qj, ↓qk, ↓qm, ↓zs, ↓zp, ↓zr, ↓zt, ↓zq, ↓zl, ↓zm, ↓zk, ↓zo, ↓zn, ↓qq, ↓qp, ↓qw, ↓qx, ↓zg, ↓qy, ↓qv, ↓qr, ↓zh, ↓qu, ↓qt, ↓qs, ↓qz, ↓zb, ↓za, ↓zd, ↓ze, ↓zf, ↓zw, ↓zu, ↓zy, ↓zx, ↓qb, ↓qa, ↓qd, ↓qc, ↓qe, ↓qg, ↓qf, ↓zj, ↓zi]
    refine y_sign hP hS (by simp [hp]) _ (PK.bind h (fun ts' e h => ?_) (fun a ts' ha h => ?_))
    · simp
      exact leave_p hp hm h (by simp) (by simp [hp])
    simp [hp, hS, ↓ql, ↓qn, ↓qo, ↓qi, ↓qh, ↓qj, ↓qk, ↓qm, ↓zs, ↓zp, ↓zr, ↓zt, ↓zq, ↓zl, ↓zm, ↓zk, ↓zo, ↓zn, ↓qq, ↓qp, ↓qw, ↓qx, ↓zg, ↓qy, ↓qv, ↓qr, ↓zh, ↓qu, ↓qt, ↓qs, ↓qz, ↓zb, ↓za, ↓zd, ↓ze, ↓zf, ↓zw, ↓zu, ↓zy, ↓zx, ↓qb, ↓qa, ↓qd, ↓qc, ↓qe, ↓qg, ↓qf, ↓zj, ↓zi]
    exact leave_p hp hm h (by simp) (by simp [hp])
  · skip
    simp only [Bool.false_eq_true, if_false, if_true, massoc, mpure] at h
    simp [hp, hS, ↓ql, ↓qn, ↓qo, ↓qi, ↓qh, ↓qj, ↓qk, ↓qm, ↓zs, ↓zp, ↓zr, ↓zt, ↓zq, ↓zl, ↓zm, ↓zk, ↓zo, ↓zn, ↓qq, ↓qp, ↓qw, ↓qx, ↓zg, ↓qy, ↓qv, ↓qr, ↓zh, ↓qu, ↓qt, ↓qs, ↓qz, ↓zb, ↓za, ↓zd, ↓ze, ↓zf, ↓zw, ↓zu, ↓zy, ↓zx, ↓qb, ↓qa, ↓qd, ↓qc, ↓qe, ↓qg, ↓qf, ↓zj, ↓zi]
    refine y_path hP hS (by simp [hp]) (PK.bind h (fun ts' e h => ?_) (fun a ts' ha h => ?_))
    · simp
      exact leave_p hp hm h (by simp) (by simp [hp])
    simp [hp, hS, lt70_s0, ↓ql, ↓qn, ↓qo, ↓qi, ↓qh, ↓qj, ↓qk, ↓qm, ↓zs, ↓zp, ↓zr, ↓zt, ↓zq, ↓zl, ↓zm, ↓zk, ↓zo, ↓zn, ↓qq, ↓qp, ↓qw, ↓qx, ↓zg, ↓qy, ↓qv, ↓qr, ↓zh, ↓qu, ↓qt, ↓qs, ↓qz, ↓zb, ↓za, ↓zd, ↓ze, ↓zf, ↓zw, ↓zu, ↓zy, ↓zx, ↓qb, ↓qa, ↓qd, ↓qc, ↓qe, ↓qg, ↓qf, ↓zj, ↓zi]
    refine y_sign hP hS (by simp [hp]) _ (PK.bind h (fun ts' e h => ?_) (fun a ts' ha h => ?_))
    · simp
      exact leave_p hp hm h (by simp) (by simp [hp])
    simp [hp, hS, ↓ql, ↓qn, ↓qo, ↓qi, ↓qh, ↓qj, ↓qk, ↓qm, ↓zs, ↓zp, ↓zr, ↓zt, ↓zq, ↓zl, ↓zm, ↓zk, ↓zo, ↓zn, ↓qq, ↓qp, ↓qw, ↓qx, ↓zg, ↓qy, ↓qv, ↓qr, ↓zh, ↓qu, ↓qt, ↓qs, ↓qz, ↓zb, ↓za, ↓zd, ↓ze, ↓zf, ↓zw, ↓zu, ↓zy, ↓zx, ↓qb, ↓qa, ↓qd, ↓qc, ↓qe, ↓qg, ↓qf, ↓zj, ↓zi]
    exact leave_p hp hm h (by simp) (by simp [hp])
end
end Go.Proofs.YtanpgmgkmfckaaaGreatDoor
/- Contracts: terms, comparisons, weights. Condition: the program is the seat's, and its intervals are laid. -/
namespace Go.Proofs.YtanpgmgkmfckaaaGreatDoor
open Go Go.Ab Go.Lx Go.Sx
set_option maxRecDepth 100000
section
variable {P : Prg} (hP : P.p = Tryz.prog) {ob : Objs} {p : Nat} {ts : List Tok} {en : Int} {S : V} (hS : V.allD [S] = none) (hp : lookO ob p = some (pb ts en S)) {K : Out → Objs → Prop}
include hP hS hp
theorem y_term (hI : Ivl P) (h : PK K ob p en S (fun x => .d x.enc) (termM ts)) : ACall P 139 [.ptr p []] ob K := by
  refine acall_lift hP mixed ok139 lf139 TOk.nil fun _ hm => ?_
  simp [lt139, hp, hS, hI.factors, hI.editions, hI.mosts, hI.weights, hI.anyN, ↓ql, ↓qn, ↓qo, ↓qi, ↓qh, ↓qj, ↓qk, ↓qm, ↓zs, ↓zp, ↓zr, ↓zt, ↓zq, ↓zl, ↓zm, ↓zk, ↓zo, ↓zn, ↓qq, ↓qp, ↓qw, ↓qx, ↓zg, ↓qy, ↓qv, ↓qr, ↓zh, ↓qu, ↓qt, ↓qs, ↓qz, ↓zb, ↓za, ↓zd, ↓ze, ↓zf, ↓zw, ↓zu, ↓zy, ↓zx, ↓qb, ↓qa, ↓qd, ↓qc, ↓qe, ↓qg, ↓qf, ↓zj, ↓zi]
  refine y_next hP hS (ts := ts) (en := en) (S := S) (by simp [hp]) _ _ ?_
  cases hn : nextB 2 [] ts with
  | false =>
    simp only [termM, hn, Bool.false_eq_true, if_false] at h
    simp [hp, hS, hI.anyN, ↓ql, ↓qn, ↓qo, ↓qi, ↓qh, ↓qj, ↓qk, ↓qm, ↓zs, ↓zp, ↓zr, ↓zt, ↓zq, ↓zl, ↓zm, ↓zk, ↓zo, ↓zn, ↓qq, ↓qp, ↓qw, ↓qx, ↓zg, ↓qy, ↓qv, ↓qr, ↓zh, ↓qu, ↓qt, ↓qs, ↓qz, ↓zb, ↓za, ↓zd, ↓ze, ↓zf, ↓zw, ↓zu, ↓zy, ↓zx, ↓qb, ↓qa, ↓qd, ↓qc, ↓qe, ↓qg, ↓qf, ↓zj, ↓zi]
    refine y_path hP hS (by simp [hp]) (PK.bind h (fun ts' e h => ?_) (fun a ts' ha h => ?_))
    · simp
      exact leave_p hp hm h (by simp) (by simp [hp])
    simp [hp, hS, hI.factors, hI.editions, hI.mosts, hI.weights, hI.anyN, ↓ql, ↓qn, ↓qo, ↓qi, ↓qh, ↓qj, ↓qk, ↓qm, ↓zs, ↓zp, ↓zr, ↓zt, ↓zq, ↓zl, ↓zm, ↓zk, ↓zo, ↓zn, ↓qq, ↓qp, ↓qw, ↓qx, ↓zg, ↓qy, ↓qv, ↓qr, ↓zh, ↓qu, ↓qt, ↓qs, ↓qz, ↓zb, ↓za, ↓zd, ↓ze, ↓zf, ↓zw, ↓zu, ↓zy, ↓zx, ↓qb, ↓qa, ↓qd, ↓qc, ↓qe, ↓qg, ↓qf, ↓zj, ↓zi]
    exact leave_p hp hm h (by simp) (by simp [hp])
  | true =>
    simp only [termM, hn, if_true] at h
    simp [hp, hS, hI.anyN, ↓ql, ↓qn, ↓qo, ↓qi, ↓qh, ↓qj, ↓qk, ↓qm, ↓zs, ↓zp, ↓zr, ↓zt, ↓zq, ↓zl, ↓zm, ↓zk, ↓zo, ↓zn, ↓qq, ↓qp, ↓qw, ↓qx, ↓zg, ↓qy, ↓qv, ↓qr, ↓zh, ↓qu, ↓qt, ↓qs, ↓qz, ↓zb, ↓za, ↓zd, ↓ze, ↓zf, ↓zw, ↓zu, ↓zy, ↓zx, ↓qb, ↓qa, ↓qd, ↓qc, ↓qe, ↓qg, ↓qf, ↓zj, ↓zi]
    refine y_number hP hS (by simp [hp]) _ _ (PK.bind h (fun ts' e h => ?_) (fun a ts' ha h => ?_))
    · simp
      exact leave_p hp hm h (by simp) (by simp [hp])
    simp [hp, hS, hI.factors, hI.editions, hI.mosts, hI.weights, hI.anyN, ↓ql, ↓qn, ↓qo, ↓qi, ↓qh, ↓qj, ↓qk, ↓qm, ↓zs, ↓zp, ↓zr, ↓zt, ↓zq, ↓zl, ↓zm, ↓zk, ↓zo, ↓zn, ↓qq, ↓qp, ↓qw, ↓qx, ↓zg, ↓qy, ↓qv, ↓qr, ↓zh, ↓qu, ↓qt, ↓qs, ↓qz, ↓zb, ↓za, ↓zd, ↓ze, ↓zf, ↓zw, ↓zu, ↓zy, ↓zx, ↓qb, ↓qa, ↓qd, ↓qc, ↓qe, ↓qg, ↓qf, ↓zj, ↓zi]
    exact leave_p hp hm h (by simp) (by simp [hp])
theorem y_where (hI : Ivl P) (h : PK K ob p en S (fun x => .d x.enc) (whereM ts)) : ACall P 72 [.ptr p []] ob K := by
  refine acall_lift hP mixed ok72 lf72 TOk.nil fun _ hm => ?_
  simp [lt72, hp, hS, hI.factors, hI.editions, hI.mosts, hI.weights, hI.anyN, ↓ql, ↓qn, ↓qo, ↓qi, ↓qh, ↓qj, ↓qk, ↓qm, ↓zs, ↓zp, ↓zr, ↓zt, ↓zq, ↓zl, ↓zm, ↓zk, ↓zo, ↓zn, ↓qq, ↓qp, ↓qw, ↓qx, ↓zg, ↓qy, ↓qv, ↓qr, ↓zh, ↓qu, ↓qt, ↓qs, ↓qz, ↓zb, ↓za, ↓zd, ↓ze, ↓zf, ↓zw, ↓zu, ↓zy, ↓zx, ↓qb, ↓qa, ↓qd, ↓qc, ↓qe, ↓qg, ↓qf, ↓zj, ↓zi]
  refine y_word hP hS (by simp [hp]) _ (PK.bind h (fun ts' e h => ?_) (fun a ts' ha h => ?_))
  · simp
    exact leave_p hp hm h (by simp) (by simp [hp])
  simp [hp, hS, hI.factors, hI.editions, hI.mosts, hI.weights, hI.anyN, ↓ql, ↓qn, ↓qo, ↓qi, ↓qh, ↓qj, ↓qk, ↓qm, ↓zs, ↓zp, ↓zr, ↓zt, ↓zq, ↓zl, ↓zm, ↓zk, ↓zo, ↓zn, ↓qq, ↓qp, ↓qw, ↓qx, ↓zg, ↓qy, ↓qv, ↓qr, ↓zh, ↓qu, ↓qt, ↓qs, ↓qz, ↓zb, ↓za, ↓zd, ↓ze, ↓zf, ↓zw, ↓zu, ↓zy, ↓zx, ↓qb, ↓qa, ↓qd, ↓qc, ↓qe, ↓qg, ↓qf, ↓zj, ↓zi]
  refine y_term hP hS (by simp [hp]) hI (PK.bind h (fun ts' e h => ?_) (fun a ts' ha h => ?_))
  · simp
    exact leave_p hp hm h (by simp) (by simp [hp])
  simp [hp, hS, hI.factors, hI.editions, hI.mosts, hI.weights, hI.anyN, ↓ql, ↓qn, ↓qo, ↓qi, ↓qh, ↓qj, ↓qk, ↓qm, ↓zs, ↓zp, ↓zr, ↓zt, ↓zq, ↓zl, ↓zm, ↓zk, ↓zo, ↓zn, ↓qq, ↓qp, ↓qw, ↓qx, ↓zg, ↓qy, ↓qv, ↓qr, ↓zh, ↓qu, ↓qt, ↓qs, ↓qz, ↓zb, ↓za, ↓zd, ↓ze, ↓zf, ↓zw, ↓zu, ↓zy, ↓zx, ↓qb, ↓qa, ↓qd, ↓qc, ↓qe, ↓qg, ↓qf, ↓zj, ↓zi]
  rw [opM, massoc] at h
  refine y_accept hP hS (by simp [hp]) _ _ (PK.bind h (fun ts' e h => ?_) (fun a ts' ha h => ?_))
  · simp
    exact leave_p hp hm h (by simp) (by simp [hp])
  cases a
  · skip
    simp only [Bool.false_eq_true, if_false, if_true, massoc, mpure] at h
    simp [hp, hS, hI.factors, hI.editions, hI.mosts, hI.weights, hI.anyN, ↓ql, ↓qn, ↓qo, ↓qi, ↓qh, ↓qj, ↓qk, ↓qm, ↓zs, ↓zp, ↓zr, ↓zt, ↓zq, ↓zl, ↓zm, ↓zk, ↓zo, ↓zn, ↓qq, ↓qp, ↓qw, ↓qx, ↓zg, ↓qy, ↓qv, ↓qr, ↓zh, ↓qu, ↓qt, ↓qs, ↓qz, ↓zb, ↓za, ↓zd, ↓ze, ↓zf, ↓zw, ↓zu, ↓zy, ↓zx, ↓qb, ↓qa, ↓qd, ↓qc, ↓qe, ↓qg, ↓qf, ↓zj, ↓zi]
    refine y_accept hP hS (by simp [hp]) _ _ (PK.bind h (fun ts' e h => ?_) (fun a ts' ha h => ?_))
    · simp
      exact leave_p hp hm h (by simp) (by simp [hp])
    cases a
    · skip
      simp only [Bool.false_eq_true, if_false, if_true, massoc, mpure] at h
      simp [hp, hS, hI.factors, hI.editions, hI.mosts, hI.weights, hI.anyN, ↓ql, ↓qn, ↓qo, ↓qi, ↓qh, ↓qj, ↓qk, ↓qm, ↓zs, ↓zp, ↓zr, ↓zt, ↓zq, ↓zl, ↓zm, ↓zk, ↓zo, ↓zn, ↓qq, ↓qp, ↓qw, ↓qx, ↓zg, ↓qy, ↓qv, ↓qr, ↓zh, ↓qu, ↓qt, ↓qs, ↓qz, ↓zb, ↓za, ↓zd, ↓ze, ↓zf, ↓zw, ↓zu, ↓zy, ↓zx, ↓qb, ↓qa, ↓qd, ↓qc, ↓qe, ↓qg, ↓qf, ↓zj, ↓zi]
      refine y_sign hP hS (by simp [hp]) _ (PK.bind h (fun ts' e h => ?_) (fun a ts' ha h => ?_))
      · simp
        exact leave_p hp hm h (by simp) (by simp [hp])
      simp [hp, hS, hI.factors, hI.editions, hI.mosts, hI.weights, hI.anyN, ↓ql, ↓qn, ↓qo, ↓qi, ↓qh, ↓qj, ↓qk, ↓qm, ↓zs, ↓zp, ↓zr, ↓zt, ↓zq, ↓zl, ↓zm, ↓zk, ↓zo, ↓zn, ↓qq, ↓qp, ↓qw, ↓qx, ↓zg, ↓qy, ↓qv, ↓qr, ↓zh, ↓qu, ↓qt, ↓qs, ↓qz, ↓zb, ↓za, ↓zd, ↓ze, ↓zf, ↓zw, ↓zu, ↓zy, ↓zx, ↓qb, ↓qa, ↓qd, ↓qc, ↓qe, ↓qg, ↓qf, ↓zj, ↓zi]
      refine y_sign hP hS (by simp [hp]) _ (PK.bind h (fun ts' e h => ?_) (fun a ts' ha h => ?_))
      · simp
        exact leave_p hp hm h (by simp) (by simp [hp])
      simp [hp, hS, hI.factors, hI.editions, hI.mosts, hI.weights, hI.anyN, lt72_s0, ↓ql, ↓qn, ↓qo, ↓qi, ↓qh, ↓qj, ↓qk, ↓qm, ↓zs, ↓zp, ↓zr, ↓zt, ↓zq, ↓zl, ↓zm, ↓zk, ↓zo, ↓zn, ↓qq, ↓qp, ↓qw, ↓qx, ↓zg, ↓qy, ↓qv, ↓qr, ↓zh, ↓qu, ↓qt, ↓qs, ↓qz, ↓zb, ↓za, ↓zd, ↓ze, ↓zf, ↓zw, ↓zu, ↓zy, ↓zx, ↓qb, ↓qa, ↓qd, ↓qc, ↓qe, ↓qg, ↓qf, ↓zj, ↓zi]
      refine y_term hP hS (by simp [hp]) hI (PK.bind h (fun ts' e h => ?_) (fun a ts' ha h => ?_))
      · simp
        exact leave_p hp hm h (by simp) (by simp [hp])
      simp [hp, hS, hI.factors, hI.editions, hI.mosts, hI.weights, hI.anyN, ↓ql, ↓qn, ↓qo, ↓qi, ↓qh, ↓qj, ↓qk, ↓qm, ↓zs, ↓zp, ↓zr, ↓zt, ↓zq, ↓zl, ↓zm, ↓zk, ↓zo, ↓zn, ↓qq, ↓qp, ↓qw, ↓qx, ↓zg, ↓qy, ↓qv, ↓qr, ↓zh, ↓qu, ↓qt, ↓qs, ↓qz, ↓zb, ↓za, ↓zd, ↓ze, ↓zf, ↓zw, ↓zu, ↓zy, ↓zx, ↓qb, ↓qa, ↓qd, ↓qc, ↓qe, ↓qg, ↓qf, ↓zj, ↓zi]
      refine y_sign hP hS (by simp [hp]) _ (PK.bind h (fun ts' e h => ?_) (fun a ts' ha h => ?_))
      · simp
        exact leave_p hp hm h (by simp) (by simp [hp])
      simp [hp, hS, hI.factors, hI.editions, hI.mosts, hI.weights, hI.anyN, ↓ql, ↓qn, ↓qo, ↓qi, ↓qh, ↓qj, ↓qk, ↓qm, ↓zs, ↓zp, ↓zr, ↓zt, ↓zq, ↓zl, ↓zm, ↓zk, ↓zo, ↓zn, ↓qq, ↓qp, ↓qw, ↓qx, ↓zg, ↓qy, ↓qv, ↓qr, ↓zh, ↓qu, ↓qt, ↓qs, ↓qz, ↓zb, ↓za, ↓zd, ↓ze, ↓zf, ↓zw, ↓zu, ↓zy, ↓zx, ↓qb, ↓qa, ↓qd, ↓qc, ↓qe, ↓qg, ↓qf, ↓zj, ↓zi]
      exact leave_p hp hm h (by simp) (by simp [hp])
    · skip
      simp only [Bool.false_eq_true, if_false, if_true, massoc, mpure] at h
      simp [hp, hS, hI.factors, hI.editions, hI.mosts, hI.weights, hI.anyN, ↓ql, ↓qn, ↓qo, ↓qi, ↓qh, ↓qj, ↓qk, ↓qm, ↓zs, ↓zp, ↓zr, ↓zt, ↓zq, ↓zl, ↓zm, ↓zk, ↓zo, ↓zn, ↓qq, ↓qp, ↓qw, ↓qx, ↓zg, ↓qy, ↓qv, ↓qr, ↓zh, ↓qu, ↓qt, ↓qs, ↓qz, ↓zb, ↓za, ↓zd, ↓ze, ↓zf, ↓zw, ↓zu, ↓zy, ↓zx, ↓qb, ↓qa, ↓qd, ↓qc, ↓qe, ↓qg, ↓qf, ↓zj, ↓zi]
      refine y_accept hP hS (by simp [hp]) _ _ (PK.bind h (fun ts' e h => ?_) (fun a ts' ha h => ?_))
      · simp
        exact leave_p hp hm h (by simp) (by simp [hp])
      cases a
      · skip
        simp only [Bool.false_eq_true, if_false, if_true, massoc, mpure] at h
        simp [hp, hS, hI.factors, hI.editions, hI.mosts, hI.weights, hI.anyN, lt72_s0, ↓ql, ↓qn, ↓qo, ↓qi, ↓qh, ↓qj, ↓qk, ↓qm, ↓zs, ↓zp, ↓zr, ↓zt, ↓zq, ↓zl, ↓zm, ↓zk, ↓zo, ↓zn, ↓qq, ↓qp, ↓qw, ↓qx, ↓zg, ↓qy, ↓qv, ↓qr, ↓zh, ↓qu, ↓qt, ↓qs, ↓qz, ↓zb, ↓za, ↓zd, ↓ze, ↓zf, ↓zw, ↓zu, ↓zy, ↓zx, ↓qb, ↓qa, ↓qd, ↓qc, ↓qe, ↓qg, ↓qf, ↓zj, ↓zi]
        refine y_term hP hS (by simp [hp]) hI (PK.bind h (fun ts' e h => ?_) (fun a ts' ha h => ?_))
        · simp
          exact leave_p hp hm h (by simp) (by simp [hp])
        simp [hp, hS, hI.factors, hI.editions, hI.mosts, hI.weights, hI.anyN, ↓ql, ↓qn, ↓qo, ↓qi, ↓qh, ↓qj, ↓qk, ↓qm, ↓zs, ↓zp, ↓zr, ↓zt, ↓zq, ↓zl, ↓zm, ↓zk, ↓zo, ↓zn, ↓qq, ↓qp, ↓qw, ↓qx, ↓zg, ↓qy, ↓qv, ↓qr, ↓zh, ↓qu, ↓qt, ↓qs, ↓qz, ↓zb, ↓za, ↓zd, ↓ze, ↓zf, ↓zw, ↓zu, ↓zy, ↓zx, ↓qb, ↓qa, ↓qd, ↓qc, ↓qe, ↓qg, ↓qf, ↓zj, ↓zi]
        refine y_sign hP hS (by simp [hp]) _ (PK.bind h (fun ts' e h => ?_) (fun a ts' ha h => ?_))
        · simp
          exact leave_p hp hm h (by simp) (by simp [hp])
        simp [hp, hS, hI.factors, hI.editions, hI.mosts, hI.weights, hI.anyN, ↓ql, ↓qn, ↓qo, ↓qi, ↓qh, ↓qj, ↓qk, ↓qm, ↓zs, ↓zp, ↓zr, ↓zt, ↓zq, ↓zl, ↓zm, ↓zk, ↓zo, ↓zn, ↓qq, ↓qp, ↓qw, ↓qx, ↓zg, ↓qy, ↓qv, ↓qr, ↓zh, ↓qu, ↓qt, ↓qs, ↓qz, ↓zb, ↓za, ↓zd, ↓ze, ↓zf, ↓zw, ↓zu, ↓zy, ↓zx, ↓qb, ↓qa, ↓qd, ↓qc, ↓qe, ↓qg, ↓qf, ↓zj, ↓zi]
        exact leave_p hp hm h (by simp) (by simp [hp])
      · skip
        simp only [Bool.false_eq_true, if_false, if_true, massoc, mpure] at h
        simp [hp, hS, hI.factors, hI.editions, hI.mosts, hI.weights, hI.anyN, lt72_s0, ↓ql, ↓qn, ↓qo, ↓qi, ↓qh, ↓qj, ↓qk, ↓qm, ↓zs, ↓zp, ↓zr, ↓zt, ↓zq, ↓zl, ↓zm, ↓zk, ↓zo, ↓zn, ↓qq, ↓qp, ↓qw, ↓qx, ↓zg, ↓qy, ↓qv, ↓qr, ↓zh, ↓qu, ↓qt, ↓qs, ↓qz, ↓zb, ↓za, ↓zd, ↓ze, ↓zf, ↓zw, ↓zu, ↓zy, ↓zx, ↓qb, ↓qa, ↓qd, ↓qc, ↓qe, ↓qg, ↓qf, ↓zj, ↓zi]
        refine y_term hP hS (by simp [hp]) hI (PK.bind h (fun ts' e h => ?_) (fun a ts' ha h => ?_))
        · simp
          exact leave_p hp hm h (by simp) (by simp [hp])
        simp [hp, hS, hI.factors, hI.editions, hI.mosts, hI.weights, hI.anyN, ↓ql, ↓qn, ↓qo, ↓qi, ↓qh, ↓qj, ↓qk, ↓qm, ↓zs, ↓zp, ↓zr, ↓zt, ↓zq, ↓zl, ↓zm, ↓zk, ↓zo, ↓zn, ↓qq, ↓qp, ↓qw, ↓qx, ↓zg, ↓qy, ↓qv, ↓qr, ↓zh, ↓qu, ↓qt, ↓qs, ↓qz, ↓zb, ↓za, ↓zd, ↓ze, ↓zf, ↓zw, ↓zu, ↓zy, ↓zx, ↓qb, ↓qa, ↓qd, ↓qc, ↓qe, ↓qg, ↓qf, ↓zj, ↓zi]
        refine y_sign hP hS (by simp [hp]) _ (PK.bind h (fun ts' e h => ?_) (fun a ts' ha h => ?_))
        · simp
          exact leave_p hp hm h (by simp) (by simp [hp])
        simp [hp, hS, hI.factors, hI.editions, hI.mosts, hI.weights, hI.anyN, ↓ql, ↓qn, ↓qo, ↓qi, ↓qh, ↓qj, ↓qk, ↓qm, ↓zs, ↓zp, ↓zr, ↓zt, ↓zq, ↓zl, ↓zm, ↓zk, ↓zo, ↓zn, ↓qq, ↓qp, ↓qw, ↓qx, ↓zg, ↓qy, ↓qv, ↓qr, ↓zh, ↓qu, ↓qt, ↓qs, ↓qz, ↓zb, ↓za, ↓zd, ↓ze, ↓zf, ↓zw, ↓zu, ↓zy, ↓zx, ↓qb, ↓qa, ↓qd, ↓qc, ↓qe, ↓qg, ↓qf, ↓zj, ↓zi]
        exact leave_p hp hm h (by simp) (by simp [hp])
  · skip
    simp only [Bool.false_eq_true, if_false, if_true, massoc, mpure] at h
    simp [hp, hS, hI.factors, hI.editions, hI.mosts, hI.weights, hI.anyN, lt72_s0, ↓ql, ↓qn, ↓qo, ↓qi, ↓qh, ↓qj, ↓qk, ↓qm, ↓zs, ↓zp, ↓zr, ↓zt, ↓zq, ↓zl, ↓zm, ↓zk, ↓zo, ↓zn, ↓qq, ↓qp, ↓qw, ↓qx, ↓zg, ↓qy, ↓qv, ↓qr, ↓zh, ↓qu, ↓qt, ↓qs, ↓qz, ↓zb, ↓za, ↓zd, ↓ze, ↓zf, ↓zw, ↓zu, ↓zy, ↓zx, ↓qb, ↓qa, ↓qd, ↓qc, ↓qe, ↓qg, ↓qf, ↓zj, ↓zi]
    refine y_term hP hS (by simp [hp]) hI (PK.bind h (fun ts' e h => ?_) (fun a ts' ha h => ?_))
    · simp
      exact leave_p hp hm h (by simp) (by simp [hp])
    simp [hp, hS, hI.factors, hI.editions, hI.mosts, hI.weights, hI.anyN, ↓ql, ↓qn, ↓qo, ↓qi, ↓qh, ↓qj, ↓qk, ↓qm, ↓zs, ↓zp, ↓zr, ↓zt, ↓zq, ↓zl, ↓zm, ↓zk, ↓zo, ↓zn, ↓qq, ↓qp, ↓qw, ↓qx, ↓zg, ↓qy, ↓qv, ↓qr, ↓zh, ↓qu, ↓qt, ↓qs, ↓qz, ↓zb, ↓za, ↓zd, ↓ze, ↓zf, ↓zw, ↓zu, ↓zy, ↓zx, ↓qb, ↓qa, ↓qd, ↓qc, ↓qe, ↓qg, ↓qf, ↓zj, ↓zi]
    refine y_sign hP hS (by simp [hp]) _ (PK.bind h (fun ts' e h => ?_) (fun a ts' ha h => ?_))
    · simp
      exact leave_p hp hm h (by simp) (by simp [hp])
    simp [hp, hS, hI.factors, hI.editions, hI.mosts, hI.weights, hI.anyN, ↓ql, ↓qn, ↓qo, ↓qi, ↓qh, ↓qj, ↓qk, ↓qm, ↓zs, ↓zp, ↓zr, ↓zt, ↓zq, ↓zl, ↓zm, ↓zk, ↓zo, ↓zn, ↓qq, ↓qp, ↓qw, ↓qx, ↓zg, ↓qy, ↓qv, ↓qr, ↓zh, ↓qu, ↓qt, ↓qs, ↓qz, ↓zb, ↓za, ↓zd, ↓ze, ↓zf, ↓zw, ↓zu, ↓zy, ↓zx, ↓qb, ↓qa, ↓qd, ↓qc, ↓qe, ↓qg, ↓qf, ↓zj, ↓zi]
    exact leave_p hp hm h (by simp) (by simp [hp])
theorem y_set (hI : Ivl P) (h : PK K ob p en S (fun x => .d x.enc) (setM ts)) : ACall P 74 [.ptr p []] ob K := by
  refine acall_lift hP mixed ok74 lf74 TOk.nil fun _ hm => ?_
  simp [lt74, hp, hS, hI.factors, hI.editions, hI.mosts, hI.weights, hI.anyN, ↓ql, ↓qn, ↓qo, ↓qi, ↓qh, ↓qj, ↓qk, ↓qm, ↓zs, ↓zp, ↓zr, ↓zt, ↓zq, ↓zl, ↓zm, ↓zk, ↓zo, ↓zn, ↓qq, ↓qp, ↓qw, ↓qx, ↓zg, ↓qy, ↓qv, ↓qr, ↓zh, ↓qu, ↓qt, ↓qs, ↓qz, ↓zb, ↓za, ↓zd, ↓ze, ↓zf, ↓zw, ↓zu, ↓zy, ↓zx, ↓qb, ↓qa, ↓qd, ↓qc, ↓qe, ↓qg, ↓qf, ↓zj, ↓zi]
  refine y_word hP hS (by simp [hp]) _ (PK.bind h (fun ts' e h => ?_) (fun a ts' ha h => ?_))
  · simp
    exact leave_p hp hm h (by simp) (by simp [hp])
  simp [hp, hS, hI.factors, hI.editions, hI.mosts, hI.weights, hI.anyN, ↓ql, ↓qn, ↓qo, ↓qi, ↓qh, ↓qj, ↓qk, ↓qm, ↓zs, ↓zp, ↓zr, ↓zt, ↓zq, ↓zl, ↓zm, ↓zk, ↓zo, ↓zn, ↓qq, ↓qp, ↓qw, ↓qx, ↓zg, ↓qy, ↓qv, ↓qr, ↓zh, ↓qu, ↓qt, ↓qs, ↓qz, ↓zb, ↓za, ↓zd, ↓ze, ↓zf, ↓zw, ↓zu, ↓zy, ↓zx, ↓qb, ↓qa, ↓qd, ↓qc, ↓qe, ↓qg, ↓qf, ↓zj, ↓zi]
  refine y_name hP hS (by simp [hp]) (PK.bind h (fun ts' e h => ?_) (fun a ts' ha h => ?_))
  · simp
    exact leave_p hp hm h (by simp) (by simp [hp])
  simp [hp, hS, hI.factors, hI.editions, hI.mosts, hI.weights, hI.anyN, ↓ql, ↓qn, ↓qo, ↓qi, ↓qh, ↓qj, ↓qk, ↓qm, ↓zs, ↓zp, ↓zr, ↓zt, ↓zq, ↓zl, ↓zm, ↓zk, ↓zo, ↓zn, ↓qq, ↓qp, ↓qw, ↓qx, ↓zg, ↓qy, ↓qv, ↓qr, ↓zh, ↓qu, ↓qt, ↓qs, ↓qz, ↓zb, ↓za, ↓zd, ↓ze, ↓zf, ↓zw, ↓zu, ↓zy, ↓zx, ↓qb, ↓qa, ↓qd, ↓qc, ↓qe, ↓qg, ↓qf, ↓zj, ↓zi]
  refine y_sign hP hS (by simp [hp]) _ (PK.bind h (fun ts' e h => ?_) (fun a ts' ha h => ?_))
  · simp
    exact leave_p hp hm h (by simp) (by simp [hp])
  simp [hp, hS, hI.factors, hI.editions, hI.mosts, hI.weights, hI.anyN, ↓ql, ↓qn, ↓qo, ↓qi, ↓qh, ↓qj, ↓qk, ↓qm, ↓zs, ↓zp, ↓zr, ↓zt, ↓zq, ↓zl, ↓zm, ↓zk, ↓zo, ↓zn, ↓qq, ↓qp, ↓qw, ↓qx, ↓zg, ↓qy, ↓qv, ↓qr, ↓zh, ↓qu, ↓qt, ↓qs, ↓qz, ↓zb, ↓za, ↓zd, ↓ze, ↓zf, ↓zw, ↓zu, ↓zy, ↓zx, ↓qb, ↓qa, ↓qd, ↓qc, ↓qe, ↓qg, ↓qf, ↓zj, ↓zi]
  refine y_term hP hS (by simp [hp]) hI (PK.bind h (fun ts' e h => ?_) (fun a ts' ha h => ?_))
  · simp
    exact leave_p hp hm h (by simp) (by simp [hp])
  simp [hp, hS, hI.factors, hI.editions, hI.mosts, hI.weights, hI.anyN, ↓ql, ↓qn, ↓qo, ↓qi, ↓qh, ↓qj, ↓qk, ↓qm, ↓zs, ↓zp, ↓zr, ↓zt, ↓zq, ↓zl, ↓zm, ↓zk, ↓zo, ↓zn, ↓qq, ↓qp, ↓qw, ↓qx, ↓zg, ↓qy, ↓qv, ↓qr, ↓zh, ↓qu, ↓qt, ↓qs, ↓qz, ↓zb, ↓za, ↓zd, ↓ze, ↓zf, ↓zw, ↓zu, ↓zy, ↓zx, ↓qb, ↓qa, ↓qd, ↓qc, ↓qe, ↓qg, ↓qf, ↓zj, ↓zi]
  refine y_sign hP hS (by simp [hp]) _ (PK.bind h (fun ts' e h => ?_) (fun a ts' ha h => ?_))
  · simp
    exact leave_p hp hm h (by simp) (by simp [hp])
  simp [hp, hS, hI.factors, hI.editions, hI.mosts, hI.weights, hI.anyN, ↓ql, ↓qn, ↓qo, ↓qi, ↓qh, ↓qj, ↓qk, ↓qm, ↓zs, ↓zp, ↓zr, ↓zt, ↓zq, ↓zl, ↓zm, ↓zk, ↓zo, ↓zn, ↓qq, ↓qp, ↓qw, ↓qx, ↓zg, ↓qy, ↓qv, ↓qr, ↓zh, ↓qu, ↓qt, ↓qs, ↓qz, ↓zb, ↓za, ↓zd, ↓ze, ↓zf, ↓zw, ↓zu, ↓zy, ↓zx, ↓qb, ↓qa, ↓qd, ↓qc, ↓qe, ↓qg, ↓qf, ↓zj, ↓zi]
  exact leave_p hp hm h (by simp) (by simp [hp])
theorem y_weights (hI : Ivl P) (h : PK K ob p en S (fun l => .d (.agg (l.map iD))) (weightsM ts)) : ACall P 64 [.ptr p []] ob K := by
  refine acall_lift hP mixed ok64 lf64 TOk.nil fun _ hm => ?_
  simp [lt64, hp, hS, ↓ql, ↓qn, ↓qo, ↓qi, ↓qh, ↓qj, ↓qk, ↓qm, ↓zs, ↓zp, ↓zr, ↓zt, ↓zq, ↓zl, ↓zm, ↓zk, ↓zo, ↓zn, ↓qq, ↓qp, ↓qw, ↓qx, ↓zg, ↓qy, ↓qv, ↓qr, ↓zh, ↓qu, ↓qt, ↓qs, ↓qz, ↓zb, ↓za, ↓zd, ↓ze, ↓zf, ↓zw, ↓zu, ↓zy, ↓zx, ↓qb, ↓qa, ↓qd, ↓qc, ↓qe, ↓qg, ↓qf, ↓zj, ↓zi]
  refine ALoop.go (ι := List Int × List Tok) (fun j => [(0, .ptr p []), (2, .ptr (fresh ob) []), (4, .d (.int .i64 j.1.length))])
    (fun j => (fresh ob, .box 91 (.d (.agg (j.1.map iD ++ List.replicate (4 - j.1.length) (iD 0))))) :: setO ob p (pb j.2 en S))
    (fun j => j.1.length ≤ 4 ∧ PK K ob p en S (fun l => .d (.agg (l.map iD))) ((repM (4 - j.1.length) >>= fun l => pure (j.1 ++ l)) j.2)) (fun j => 4 - j.1.length) ([], ts) ⟨by simp, ?_⟩ (by simp) (by simp [setO_self hp]) ?_
  · simp only [weightsM] at h
    simp only [List.length_nil, Nat.sub_zero, List.nil_append]
    rw [bind_eq]
    cases hr : repM 4 ts with
    | ok a ts' => rw [hr] at h; exact h
    | err ts' e => rw [hr] at h; exact h
  rintro ⟨l, ts1⟩ ⟨hl, h⟩ R rn re rr rp
  have w1 : IntKind.i64.wrap 1 = 1 := by decide
  have w2 : IntKind.i64.wrap 2 = 2 := by decide
  have w3 : IntKind.i64.wrap 3 = 3 := by decide
  have w4 : IntKind.i64.wrap 4 = 4 := by decide
  match l, hl with
  | [], _ =>
    simp [lt64_l0, hp, hS, hI.weights, ↓ql, ↓qn, ↓qo, ↓qi, ↓qh, ↓qj, ↓qk, ↓qm, ↓zs, ↓zp, ↓zr, ↓zt, ↓zq, ↓zl, ↓zm, ↓zk, ↓zo, ↓zn, ↓qq, ↓qp, ↓qw, ↓qx, ↓zg, ↓qy, ↓qv, ↓qr, ↓zh, ↓qu, ↓qt, ↓qs, ↓qz, ↓zb, ↓za, ↓zd, ↓ze, ↓zf, ↓zw, ↓zu, ↓zy, ↓zx, ↓qb, ↓qa, ↓qd, ↓qc, ↓qe, ↓qg, ↓qf, ↓zj, ↓zi]
    simp [repM, massoc, mpure] at h
    refine y_number hP hS (by simp [hp]) _ _ (PK.bind h (fun ts' e h => ?_) (fun a ts' ha h => ?_))
    · simp
      refine rp _ _ _ ?_
      simp
      exact leave_p hp hm h (by simp) (by simp [hp])
    simp [hp, hS, w1, w2, w3, w4]
    refine rn [] ([a], ts') _ _ ⟨by simp, by simpa [repM, massoc, mpure] using h⟩ (by simp) (by simp) (by simp [hp]) (by simp [hp]) ?_
    simp
    refine noMenO_set_box _ _ _ _ _ (noMenO_up_add _ hm) ?_
    have := men_look (noMenO_up_add 1 (l := []) hm) hp
    simpa [pv] using this
  | [a0], _ =>
    simp [lt64_l0, hp, hS, hI.weights, ↓ql, ↓qn, ↓qo, ↓qi, ↓qh, ↓qj, ↓qk, ↓qm, ↓zs, ↓zp, ↓zr, ↓zt, ↓zq, ↓zl, ↓zm, ↓zk, ↓zo, ↓zn, ↓qq, ↓qp, ↓qw, ↓qx, ↓zg, ↓qy, ↓qv, ↓qr, ↓zh, ↓qu, ↓qt, ↓qs, ↓qz, ↓zb, ↓za, ↓zd, ↓ze, ↓zf, ↓zw, ↓zu, ↓zy, ↓zx, ↓qb, ↓qa, ↓qd, ↓qc, ↓qe, ↓qg, ↓qf, ↓zj, ↓zi]
    simp [repM, massoc, mpure] at h
    refine y_number hP hS (by simp [hp]) _ _ (PK.bind h (fun ts' e h => ?_) (fun a ts' ha h => ?_))
    · simp
      refine rp _ _ _ ?_
      simp
      exact leave_p hp hm h (by simp) (by simp [hp])
    simp [hp, hS, w1, w2, w3, w4]
    refine rn [] ([a0, a], ts') _ _ ⟨by simp, by simpa [repM, massoc, mpure] using h⟩ (by simp) (by simp) (by simp [hp]) (by simp [hp]) ?_
    simp
    refine noMenO_set_box _ _ _ _ _ (noMenO_up_add _ hm) ?_
    have := men_look (noMenO_up_add 1 (l := []) hm) hp
    simpa [pv] using this
  | [a0, b0], _ =>
    simp [lt64_l0, hp, hS, hI.weights, ↓ql, ↓qn, ↓qo, ↓qi, ↓qh, ↓qj, ↓qk, ↓qm, ↓zs, ↓zp, ↓zr, ↓zt, ↓zq, ↓zl, ↓zm, ↓zk, ↓zo, ↓zn, ↓qq, ↓qp, ↓qw, ↓qx, ↓zg, ↓qy, ↓qv, ↓qr, ↓zh, ↓qu, ↓qt, ↓qs, ↓qz, ↓zb, ↓za, ↓zd, ↓ze, ↓zf, ↓zw, ↓zu, ↓zy, ↓zx, ↓qb, ↓qa, ↓qd, ↓qc, ↓qe, ↓qg, ↓qf, ↓zj, ↓zi]
    simp [repM, massoc, mpure] at h
    refine y_number hP hS (by simp [hp]) _ _ (PK.bind h (fun ts' e h => ?_) (fun a ts' ha h => ?_))
    · simp
      refine rp _ _ _ ?_
      simp
      exact leave_p hp hm h (by simp) (by simp [hp])
    simp [hp, hS, w1, w2, w3, w4]
    refine rn [] ([a0, b0, a], ts') _ _ ⟨by simp, by simpa [repM, massoc, mpure] using h⟩ (by simp) (by simp) (by simp [hp]) (by simp [hp]) ?_
    simp
    refine noMenO_set_box _ _ _ _ _ (noMenO_up_add _ hm) ?_
    have := men_look (noMenO_up_add 1 (l := []) hm) hp
    simpa [pv] using this
  | [a0, b0, c0], _ =>
    simp [lt64_l0, hp, hS, hI.weights, ↓ql, ↓qn, ↓qo, ↓qi, ↓qh, ↓qj, ↓qk, ↓qm, ↓zs, ↓zp, ↓zr, ↓zt, ↓zq, ↓zl, ↓zm, ↓zk, ↓zo, ↓zn, ↓qq, ↓qp, ↓qw, ↓qx, ↓zg, ↓qy, ↓qv, ↓qr, ↓zh, ↓qu, ↓qt, ↓qs, ↓qz, ↓zb, ↓za, ↓zd, ↓ze, ↓zf, ↓zw, ↓zu, ↓zy, ↓zx, ↓qb, ↓qa, ↓qd, ↓qc, ↓qe, ↓qg, ↓qf, ↓zj, ↓zi]
    simp [repM, massoc, mpure] at h
    refine y_number hP hS (by simp [hp]) _ _ (PK.bind h (fun ts' e h => ?_) (fun a ts' ha h => ?_))
    · simp
      refine rp _ _ _ ?_
      simp
      exact leave_p hp hm h (by simp) (by simp [hp])
    simp [hp, hS, w1, w2, w3, w4]
    refine rn [] ([a0, b0, c0, a], ts') _ _ ⟨by simp, by simpa [repM, massoc, mpure] using h⟩ (by simp) (by simp) (by simp [hp]) (by simp [hp]) ?_
    simp
    refine noMenO_set_box _ _ _ _ _ (noMenO_up_add _ hm) ?_
    have := men_look (noMenO_up_add 1 (l := []) hm) hp
    simpa [pv] using this
  | [a0, b0, c0, d0], _ =>
    simp [lt64_l0, hp, hS, ↓ql, ↓qn, ↓qo, ↓qi, ↓qh, ↓qj, ↓qk, ↓qm, ↓zs, ↓zp, ↓zr, ↓zt, ↓zq, ↓zl, ↓zm, ↓zk, ↓zo, ↓zn, ↓qq, ↓qp, ↓qw, ↓qx, ↓zg, ↓qy, ↓qv, ↓qr, ↓zh, ↓qu, ↓qt, ↓qs, ↓qz, ↓zb, ↓za, ↓zd, ↓ze, ↓zf, ↓zw, ↓zu, ↓zy, ↓zx, ↓qb, ↓qa, ↓qd, ↓qc, ↓qe, ↓qg, ↓qf, ↓zj, ↓zi]
    simp [repM, massoc, mpure] at h
    refine re _ _ _ ?_
    simp [hp, hS, ↓ql, ↓qn, ↓qo, ↓qi, ↓qh, ↓qj, ↓qk, ↓qm, ↓zs, ↓zp, ↓zr, ↓zt, ↓zq, ↓zl, ↓zm, ↓zk, ↓zo, ↓zn, ↓qq, ↓qp, ↓qw, ↓qx, ↓zg, ↓qy, ↓qv, ↓qr, ↓zh, ↓qu, ↓qt, ↓qs, ↓qz, ↓zb, ↓za, ↓zd, ↓ze, ↓zf, ↓zw, ↓zu, ↓zy, ↓zx, ↓qb, ↓qa, ↓qd, ↓qc, ↓qe, ↓qg, ↓qf, ↓zj, ↓zi]
    exact leave_p hp hm h (by simp) (by simp [hp])
  | _ :: _ :: _ :: _ :: _ :: _, hl => simp at hl
end
end Go.Proofs.YtanpgmgkmfckaaaGreatDoor
/- Contracts: the parser's lists. Condition: the program is the seat's. -/
namespace Go.Proofs.YtanpgmgkmfckaaaGreatDoor
open Go Go.Ab Go.Lx Go.Sx
set_option maxRecDepth 100000
section
variable {P : Prg} (hP : P.p = Tryz.prog) {ob : Objs} {p : Nat} {ts : List Tok} {en : Int} {S : V} (hS : V.allD [S] = none) (hp : lookO ob p = some (pb ts en S)) {K : Out → Objs → Prop}
include hP hS hp
omit hS in
theorem y_begins (t : B) (x : Nat) (hx : fresh ob = x) (h : K (.ret (.fn 137 [] [.ptr x [], .ptr (x + 1) []])) ((x + 1, .box 9 (.d (.str t))) :: (x, .box 63 (.ptr p [])) :: ob)) : ACall P 69 [.ptr p [], .d (.str t)] ob K := by
  subst hx
  refine acall_lift hP mixed ok69 lf69 TOk.nil fun _ hm => ?_
  simp [lt69, hp, ↓ql, ↓qn, ↓qo, ↓qi, ↓qh, ↓qj, ↓qk, ↓qm, ↓zs, ↓zp, ↓zr, ↓zt, ↓zq, ↓zl, ↓zm, ↓zk, ↓zo, ↓zn, ↓qq, ↓qp, ↓qw, ↓qx, ↓zg, ↓qy, ↓qv, ↓qr, ↓zh, ↓qu, ↓qt, ↓qs, ↓qz, ↓zb, ↓za, ↓zd, ↓ze, ↓zf, ↓zw, ↓zu, ↓zy, ↓zx, ↓qb, ↓qa, ↓qd, ↓qc, ↓qe, ↓qg, ↓qf, ↓zj, ↓zi]
  refine ⟨[fresh ob, fresh ob + 1], by simp [young], ?_, ?_⟩
  · have := look_lt hp
    simp [young, hp, hm, this]
  · simpa [young, hp] using h
theorem y_begins1 {t : B} {b1 b2 : Nat} (h1 : lookO ob b1 = some (.box 63 (.ptr p []))) (h2 : lookO ob b2 = some (.box 9 (.d (.str t)))) (h : K (.ret (.d (.bool (nextB 1 t ts)))) (setO ob p (pb ts en S))) : ACall P 137 [.ptr b1 [], .ptr b2 []] ob K := by
  refine acall_lift hP mixed ok137 lf137 TOk.nil fun _ hm => ?_
  simp [lt137, hp, h1, h2, ↓ql, ↓qn, ↓qo, ↓qi, ↓qh, ↓qj, ↓qk, ↓qm, ↓zs, ↓zp, ↓zr, ↓zt, ↓zq, ↓zl, ↓zm, ↓zk, ↓zo, ↓zn, ↓qq, ↓qp, ↓qw, ↓qx, ↓zg, ↓qy, ↓qv, ↓qr, ↓zh, ↓qu, ↓qt, ↓qs, ↓qz, ↓zb, ↓za, ↓zd, ↓ze, ↓zf, ↓zw, ↓zu, ↓zy, ↓zx, ↓qb, ↓qa, ↓qd, ↓qc, ↓qe, ↓qg, ↓qf, ↓zj, ↓zi]
  refine y_next hP hS hp _ _ ?_
  simp [hp]
  exact leave_p hp hm h (by simp) (by simp [hp])
theorem y_listF {α : Type} {enc : α → D} (hsh : ∀ a, (enc a).shape = .node [.leaf, .leaf, .leaf, .node [.leaf, .leaf, .leaf, .leaf, .leaf]]) (begins : List Tok → Bool) (read : M α) (most : Nat) (hmost : most ≤ 1000) (bf rf : Nat) (bfi bca rfi rca : List V) (hbc : callable P.p bf = true) (hrc : callable P.p rf = true)
    (x : Nat) (hx : fresh ob = x) (hb : ∀ (ts : List Tok) (o : Ob) (K : Out → Objs → Prop), K (.ret (.d (.bool (begins ts)))) ((x, o) :: setO ob p (pb ts en S)) → ACall P bf (bfi ++ bca) ((x, o) :: setO ob p (pb ts en S)) K)
    (hr : ∀ (ts : List Tok) (o : Ob) (K : Out → Objs → Prop), PK K ((x, o) :: setO ob p (pb ts en S)) p en S (fun a => .d (enc a)) (read ts) → ACall P rf (rfi ++ rca) ((x, o) :: setO ob p (pb ts en S)) K)
    (h : PK K ob p en S (fun l => .d (.list 8 (l.map enc))) (listM begins read most ts)) : ACall P 68 [.ptr p [], .d (.int .i64 most), .fn bf bfi bca, .fn rf rfi rca] ob K := by
  subst hx
  refine acall_lift hP mixed ok68 lf68 TOk.nil fun hv hm => ?_
  have hv1 := V.mens_mono (p := young (fresh ob + 1) []) (q := young (fresh ob) []) (fun j e => by simp [young] at e ⊢; omega) _ (hv [])
  simp at hv1
  simp [lt68, hp, hS, ↓ql, ↓qn, ↓qo, ↓qi, ↓qh, ↓qj, ↓qk, ↓qm, ↓zs, ↓zp, ↓zr, ↓zt, ↓zq, ↓zl, ↓zm, ↓zk, ↓zo, ↓zn, ↓qq, ↓qp, ↓qw, ↓qx, ↓zg, ↓qy, ↓qv, ↓qr, ↓zh, ↓qu, ↓qt, ↓qs, ↓qz, ↓zb, ↓za, ↓zd, ↓ze, ↓zf, ↓zw, ↓zu, ↓zy, ↓zx, ↓qb, ↓qa, ↓qd, ↓qc, ↓qe, ↓qg, ↓qf, ↓zj, ↓zi]
  refine ALoop.go (ι := List α × List Tok) (fun j => [(0, .ptr p []), (1, .d (.int .i64 most)), (2, .fn bf bfi bca), (3, .fn rf rfi rca), (8, .sl (fresh ob) j.1.length)])
    (fun j => (fresh ob, .arr 54 8 (j.1.map enc)) :: setO ob p (pb j.2 en S))
    (fun j => j.1.length ≤ most ∧ PK K ob p en S (fun l => .d (.list 8 (l.map enc))) ((listM begins read (most - j.1.length) >>= fun l => pure (j.1 ++ l)) j.2)) (fun j => most - j.1.length) ([], ts) ⟨by simp, ?_⟩ (by simp) (by simp [setO_self hp]) ?_
  · simp only [List.length_nil, Nat.sub_zero, List.nil_append]
    rw [bind_eq]
    cases hr : listM begins read most ts with
    | ok a ts' => rw [hr] at h; exact h
    | err ts' e => rw [hr] at h; exact h
  rintro ⟨l, ts1⟩ ⟨hl, h⟩ R rn re rr rp
  dsimp only at hl h rn
  simp [lt68_l1, hp, hS, hbc, ↓ql, ↓qn, ↓qo, ↓qi, ↓qh, ↓qj, ↓qk, ↓qm, ↓zs, ↓zp, ↓zr, ↓zt, ↓zq, ↓zl, ↓zm, ↓zk, ↓zo, ↓zn, ↓qq, ↓qp, ↓qw, ↓qx, ↓zg, ↓qy, ↓qv, ↓qr, ↓zh, ↓qu, ↓qt, ↓qs, ↓qz, ↓zb, ↓za, ↓zd, ↓ze, ↓zf, ↓zw, ↓zu, ↓zy, ↓zx, ↓qb, ↓qa, ↓qd, ↓qc, ↓qe, ↓qg, ↓qf, ↓zj, ↓zi]
  refine hb _ _ _ ?_
  cases hbg : begins ts1 with
  | false =>
    simp [hp, hS, ↓ql, ↓qn, ↓qo, ↓qi, ↓qh, ↓qj, ↓qk, ↓qm, ↓zs, ↓zp, ↓zr, ↓zt, ↓zq, ↓zl, ↓zm, ↓zk, ↓zo, ↓zn, ↓qq, ↓qp, ↓qw, ↓qx, ↓zg, ↓qy, ↓qv, ↓qr, ↓zh, ↓qu, ↓qt, ↓qs, ↓qz, ↓zb, ↓za, ↓zd, ↓ze, ↓zf, ↓zw, ↓zu, ↓zy, ↓zx, ↓qb, ↓qa, ↓qd, ↓qc, ↓qe, ↓qg, ↓qf, ↓zj, ↓zi]
    refine re _ _ _ ?_
    have h' : PK K ob p en S (fun l => .d (.list 8 (l.map enc))) (.ok l ts1) := by
      rw [bind_eq] at h
      cases hn : most - l.length <;> simpa [hn, listM, hbg] using h
    simp [hp, hS, ↓ql, ↓qn, ↓qo, ↓qi, ↓qh, ↓qj, ↓qk, ↓qm, ↓zs, ↓zp, ↓zr, ↓zt, ↓zq, ↓zl, ↓zm, ↓zk, ↓zo, ↓zn, ↓qq, ↓qp, ↓qw, ↓qx, ↓zg, ↓qy, ↓qv, ↓qr, ↓zh, ↓qu, ↓qt, ↓qs, ↓qz, ↓zb, ↓za, ↓zd, ↓ze, ↓zf, ↓zw, ↓zu, ↓zy, ↓zx, ↓qb, ↓qa, ↓qd, ↓qc, ↓qe, ↓qg, ↓qf, ↓zj, ↓zi]
    exact leave_p hp hm h' (by simp) (by simp [hp])
  | true =>
    by_cases he : l.length = most
    · simp [he, listM, hbg, bind_eq] at h
      simp [hp, hS, he, ↓ql, ↓qn, ↓qo, ↓qi, ↓qh, ↓qj, ↓qk, ↓qm, ↓zs, ↓zp, ↓zr, ↓zt, ↓zq, ↓zl, ↓zm, ↓zk, ↓zo, ↓zn, ↓qq, ↓qp, ↓qw, ↓qx, ↓zg, ↓qy, ↓qv, ↓qr, ↓zh, ↓qu, ↓qt, ↓qs, ↓qz, ↓zb, ↓za, ↓zd, ↓ze, ↓zf, ↓zw, ↓zu, ↓zy, ↓zx, ↓qb, ↓qa, ↓qd, ↓qc, ↓qe, ↓qg, ↓qf, ↓zj, ↓zi]
      refine y_fail hP hS (ts := ts1) (en := en) (S := S) (by simp [hp]) _ ?_
      simp [hp]
      refine rp _ _ _ ?_
      simp
      exact leave_p hp hm h (by simp) (by simp [hp])
    · have hne : ¬ ((l.length : Int) = most) := by omega
      obtain ⟨n, hn⟩ : ∃ n, most - l.length = n + 1 := ⟨most - l.length - 1, by omega⟩
      simp only [hn] at h
      simp only [bind_eq, listM, hbg, if_true] at h
      simp [hp, hS, hne, hrc, lt68_s0, ↓ql, ↓qn, ↓qo, ↓qi, ↓qh, ↓qj, ↓qk, ↓qm, ↓zs, ↓zp, ↓zr, ↓zt, ↓zq, ↓zl, ↓zm, ↓zk, ↓zo, ↓zn, ↓qq, ↓qp, ↓qw, ↓qx, ↓zg, ↓qy, ↓qv, ↓qr, ↓zh, ↓qu, ↓qt, ↓qs, ↓qz, ↓zb, ↓za, ↓zd, ↓ze, ↓zf, ↓zw, ↓zu, ↓zy, ↓zx, ↓qb, ↓qa, ↓qd, ↓qc, ↓qe, ↓qg, ↓qf, ↓zj, ↓zi]
      refine hr _ _ _ ?_
      cases ha : read ts1 with
      | err ts' e =>
        simp only [ha] at h
        simp
        refine rp _ _ _ ?_
        simp
        exact leave_p hp hm h (by simp) (by simp [hp])
      | ok a ts' =>
        simp only [ha] at h
        simp [hp, hS, hsh]
        refine ⟨by omega, ?_⟩
        refine rn [] (l ++ [a], ts') _ _ ⟨by simp; omega, ?_⟩ (by simp; omega) (by simp) (by simp [hp]) (by simp [hp, hv1]) ?_
        · simp only [List.length_append, List.length_singleton, show most - (l.length + 1) = n by omega]
          rw [bind_eq]
          cases hl2 : listM begins read n ts' with
          | err ts2 e => simp only [hl2] at h; exact h
          | ok l2 ts2 => simp only [hl2] at h; simpa using h
        · simp
          refine noMenO_set_box _ _ _ _ _ (noMenO_up_add _ hm) ?_
          have := men_look (noMenO_up_add 1 (l := []) hm) hp
          simpa [pv] using this
theorem y_listA {α : Type} {enc : α → D} (hsh : ∀ a, (enc a).shape = .node [.leaf, .node [.leaf, .leaf, .leaf, .leaf, .leaf], .node [.leaf, .leaf, .leaf, .leaf, .leaf]]) (begins : List Tok → Bool) (read : M α) (most : Nat) (hmost : most ≤ 1000) (bf rf : Nat) (bfi bca rfi rca : List V) (hbc : callable P.p bf = true) (hrc : callable P.p rf = true)
    (x : Nat) (hx : fresh ob = x) (hb : ∀ (ts : List Tok) (o : Ob) (K : Out → Objs → Prop), K (.ret (.d (.bool (begins ts)))) ((x, o) :: setO ob p (pb ts en S)) → ACall P bf (bfi ++ bca) ((x, o) :: setO ob p (pb ts en S)) K)
    (hr : ∀ (ts : List Tok) (o : Ob) (K : Out → Objs → Prop), PK K ((x, o) :: setO ob p (pb ts en S)) p en S (fun a => .d (enc a)) (read ts) → ACall P rf (rfi ++ rca) ((x, o) :: setO ob p (pb ts en S)) K)
    (h : PK K ob p en S (fun l => .d (.list 11 (l.map enc))) (listM begins read most ts)) : ACall P 71 [.ptr p [], .d (.int .i64 most), .fn bf bfi bca, .fn rf rfi rca] ob K := by
  subst hx
  refine acall_lift hP mixed ok71 lf71 TOk.nil fun hv hm => ?_
  have hv1 := V.mens_mono (p := young (fresh ob + 1) []) (q := young (fresh ob) []) (fun j e => by simp [young] at e ⊢; omega) _ (hv [])
  simp at hv1
  simp [lt71, hp, hS, ↓ql, ↓qn, ↓qo, ↓qi, ↓qh, ↓qj, ↓qk, ↓qm, ↓zs, ↓zp, ↓zr, ↓zt, ↓zq, ↓zl, ↓zm, ↓zk, ↓zo, ↓zn, ↓qq, ↓qp, ↓qw, ↓qx, ↓zg, ↓qy, ↓qv, ↓qr, ↓zh, ↓qu, ↓qt, ↓qs, ↓qz, ↓zb, ↓za, ↓zd, ↓ze, ↓zf, ↓zw, ↓zu, ↓zy, ↓zx, ↓qb, ↓qa, ↓qd, ↓qc, ↓qe, ↓qg, ↓qf, ↓zj, ↓zi]
  refine ALoop.go (ι := List α × List Tok) (fun j => [(0, .ptr p []), (1, .d (.int .i64 most)), (2, .fn bf bfi bca), (3, .fn rf rfi rca), (8, .sl (fresh ob) j.1.length)])
    (fun j => (fresh ob, .arr 56 11 (j.1.map enc)) :: setO ob p (pb j.2 en S))
    (fun j => j.1.length ≤ most ∧ PK K ob p en S (fun l => .d (.list 11 (l.map enc))) ((listM begins read (most - j.1.length) >>= fun l => pure (j.1 ++ l)) j.2)) (fun j => most - j.1.length) ([], ts) ⟨by simp, ?_⟩ (by simp) (by simp [setO_self hp]) ?_
  · simp only [List.length_nil, Nat.sub_zero, List.nil_append]
    rw [bind_eq]
    cases hr : listM begins read most ts with
    | ok a ts' => rw [hr] at h; exact h
    | err ts' e => rw [hr] at h; exact h
  rintro ⟨l, ts1⟩ ⟨hl, h⟩ R rn re rr rp
  dsimp only at hl h rn
  simp [lt71_l1, hp, hS, hbc, ↓ql, ↓qn, ↓qo, ↓qi, ↓qh, ↓qj, ↓qk, ↓qm, ↓zs, ↓zp, ↓zr, ↓zt, ↓zq, ↓zl, ↓zm, ↓zk, ↓zo, ↓zn, ↓qq, ↓qp, ↓qw, ↓qx, ↓zg, ↓qy, ↓qv, ↓qr, ↓zh, ↓qu, ↓qt, ↓qs, ↓qz, ↓zb, ↓za, ↓zd, ↓ze, ↓zf, ↓zw, ↓zu, ↓zy, ↓zx, ↓qb, ↓qa, ↓qd, ↓qc, ↓qe, ↓qg, ↓qf, ↓zj, ↓zi]
  refine hb _ _ _ ?_
  cases hbg : begins ts1 with
  | false =>
    simp [hp, hS, ↓ql, ↓qn, ↓qo, ↓qi, ↓qh, ↓qj, ↓qk, ↓qm, ↓zs, ↓zp, ↓zr, ↓zt, ↓zq, ↓zl, ↓zm, ↓zk, ↓zo, ↓zn, ↓qq, ↓qp, ↓qw, ↓qx, ↓zg, ↓qy, ↓qv, ↓qr, ↓zh, ↓qu, ↓qt, ↓qs, ↓qz, ↓zb, ↓za, ↓zd, ↓ze, ↓zf, ↓zw, ↓zu, ↓zy, ↓zx, ↓qb, ↓qa, ↓qd, ↓qc, ↓qe, ↓qg, ↓qf, ↓zj, ↓zi]
    refine re _ _ _ ?_
    have h' : PK K ob p en S (fun l => .d (.list 11 (l.map enc))) (.ok l ts1) := by
      rw [bind_eq] at h
      cases hn : most - l.length <;> simpa [hn, listM, hbg] using h
    simp [hp, hS, ↓ql, ↓qn, ↓qo, ↓qi, ↓qh, ↓qj, ↓qk, ↓qm, ↓zs, ↓zp, ↓zr, ↓zt, ↓zq, ↓zl, ↓zm, ↓zk, ↓zo, ↓zn, ↓qq, ↓qp, ↓qw, ↓qx, ↓zg, ↓qy, ↓qv, ↓qr, ↓zh, ↓qu, ↓qt, ↓qs, ↓qz, ↓zb, ↓za, ↓zd, ↓ze, ↓zf, ↓zw, ↓zu, ↓zy, ↓zx, ↓qb, ↓qa, ↓qd, ↓qc, ↓qe, ↓qg, ↓qf, ↓zj, ↓zi]
    exact leave_p hp hm h' (by simp) (by simp [hp])
  | true =>
    by_cases he : l.length = most
    · simp [he, listM, hbg, bind_eq] at h
      simp [hp, hS, he, ↓ql, ↓qn, ↓qo, ↓qi, ↓qh, ↓qj, ↓qk, ↓qm, ↓zs, ↓zp, ↓zr, ↓zt, ↓zq, ↓zl, ↓zm, ↓zk, ↓zo, ↓zn, ↓qq, ↓qp, ↓qw, ↓qx, ↓zg, ↓qy, ↓qv, ↓qr, ↓zh, ↓qu, ↓qt, ↓qs, ↓qz, ↓zb, ↓za, ↓zd, ↓ze, ↓zf, ↓zw, ↓zu, ↓zy, ↓zx, ↓qb, ↓qa, ↓qd, ↓qc, ↓qe, ↓qg, ↓qf, ↓zj, ↓zi]
      refine y_fail hP hS (ts := ts1) (en := en) (S := S) (by simp [hp]) _ ?_
      simp [hp]
      refine rp _ _ _ ?_
      simp
      exact leave_p hp hm h (by simp) (by simp [hp])
    · have hne : ¬ ((l.length : Int) = most) := by omega
      obtain ⟨n, hn⟩ : ∃ n, most - l.length = n + 1 := ⟨most - l.length - 1, by omega⟩
      simp only [hn] at h
      simp only [bind_eq, listM, hbg, if_true] at h
      simp [hp, hS, hne, hrc, lt71_s0, ↓ql, ↓qn, ↓qo, ↓qi, ↓qh, ↓qj, ↓qk, ↓qm, ↓zs, ↓zp, ↓zr, ↓zt, ↓zq, ↓zl, ↓zm, ↓zk, ↓zo, ↓zn, ↓qq, ↓qp, ↓qw, ↓qx, ↓zg, ↓qy, ↓qv, ↓qr, ↓zh, ↓qu, ↓qt, ↓qs, ↓qz, ↓zb, ↓za, ↓zd, ↓ze, ↓zf, ↓zw, ↓zu, ↓zy, ↓zx, ↓qb, ↓qa, ↓qd, ↓qc, ↓qe, ↓qg, ↓qf, ↓zj, ↓zi]
      refine hr _ _ _ ?_
      cases ha : read ts1 with
      | err ts' e =>
        simp only [ha] at h
        simp
        refine rp _ _ _ ?_
        simp
        exact leave_p hp hm h (by simp) (by simp [hp])
      | ok a ts' =>
        simp only [ha] at h
        simp [hp, hS, hsh]
        refine ⟨by omega, ?_⟩
        refine rn [] (l ++ [a], ts') _ _ ⟨by simp; omega, ?_⟩ (by simp; omega) (by simp) (by simp [hp]) (by simp [hp, hv1]) ?_
        · simp only [List.length_append, List.length_singleton, show most - (l.length + 1) = n by omega]
          rw [bind_eq]
          cases hl2 : listM begins read n ts' with
          | err ts2 e => simp only [hl2] at h; exact h
          | ok l2 ts2 => simp only [hl2] at h; simpa using h
        · simp
          refine noMenO_set_box _ _ _ _ _ (noMenO_up_add _ hm) ?_
          have := men_look (noMenO_up_add 1 (l := []) hm) hp
          simpa [pv] using this
theorem y_listS {α : Type} {enc : α → D} (hsh : ∀ a, (enc a).shape = .node [.leaf, .leaf, .node [.leaf, .leaf, .leaf, .leaf, .leaf]]) (begins : List Tok → Bool) (read : M α) (most : Nat) (hmost : most ≤ 1000) (bf rf : Nat) (bfi bca rfi rca : List V) (hbc : callable P.p bf = true) (hrc : callable P.p rf = true)
    (x : Nat) (hx : fresh ob = x) (hb : ∀ (ts : List Tok) (o : Ob) (K : Out → Objs → Prop), K (.ret (.d (.bool (begins ts)))) ((x, o) :: setO ob p (pb ts en S)) → ACall P bf (bfi ++ bca) ((x, o) :: setO ob p (pb ts en S)) K)
    (hr : ∀ (ts : List Tok) (o : Ob) (K : Out → Objs → Prop), PK K ((x, o) :: setO ob p (pb ts en S)) p en S (fun a => .d (enc a)) (read ts) → ACall P rf (rfi ++ rca) ((x, o) :: setO ob p (pb ts en S)) K)
    (h : PK K ob p en S (fun l => .d (.list 7 (l.map enc))) (listM begins read most ts)) : ACall P 73 [.ptr p [], .d (.int .i64 most), .fn bf bfi bca, .fn rf rfi rca] ob K := by
  subst hx
  refine acall_lift hP mixed ok73 lf73 TOk.nil fun hv hm => ?_
  have hv1 := V.mens_mono (p := young (fresh ob + 1) []) (q := young (fresh ob) []) (fun j e => by simp [young] at e ⊢; omega) _ (hv [])
  simp at hv1
  simp [lt73, hp, hS, ↓ql, ↓qn, ↓qo, ↓qi, ↓qh, ↓qj, ↓qk, ↓qm, ↓zs, ↓zp, ↓zr, ↓zt, ↓zq, ↓zl, ↓zm, ↓zk, ↓zo, ↓zn, ↓qq, ↓qp, ↓qw, ↓qx, ↓zg, ↓qy, ↓qv, ↓qr, ↓zh, ↓qu, ↓qt, ↓qs, ↓qz, ↓zb, ↓za, ↓zd, ↓ze, ↓zf, ↓zw, ↓zu, ↓zy, ↓zx, ↓qb, ↓qa, ↓qd, ↓qc, ↓qe, ↓qg, ↓qf, ↓zj, ↓zi]
  refine ALoop.go (ι := List α × List Tok) (fun j => [(0, .ptr p []), (1, .d (.int .i64 most)), (2, .fn bf bfi bca), (3, .fn rf rfi rca), (8, .sl (fresh ob) j.1.length)])
    (fun j => (fresh ob, .arr 58 7 (j.1.map enc)) :: setO ob p (pb j.2 en S))
    (fun j => j.1.length ≤ most ∧ PK K ob p en S (fun l => .d (.list 7 (l.map enc))) ((listM begins read (most - j.1.length) >>= fun l => pure (j.1 ++ l)) j.2)) (fun j => most - j.1.length) ([], ts) ⟨by simp, ?_⟩ (by simp) (by simp [setO_self hp]) ?_
  · simp only [List.length_nil, Nat.sub_zero, List.nil_append]
    rw [bind_eq]
    cases hr : listM begins read most ts with
    | ok a ts' => rw [hr] at h; exact h
    | err ts' e => rw [hr] at h; exact h
  rintro ⟨l, ts1⟩ ⟨hl, h⟩ R rn re rr rp
  dsimp only at hl h rn
  simp [lt73_l1, hp, hS, hbc, ↓ql, ↓qn, ↓qo, ↓qi, ↓qh, ↓qj, ↓qk, ↓qm, ↓zs, ↓zp, ↓zr, ↓zt, ↓zq, ↓zl, ↓zm, ↓zk, ↓zo, ↓zn, ↓qq, ↓qp, ↓qw, ↓qx, ↓zg, ↓qy, ↓qv, ↓qr, ↓zh, ↓qu, ↓qt, ↓qs, ↓qz, ↓zb, ↓za, ↓zd, ↓ze, ↓zf, ↓zw, ↓zu, ↓zy, ↓zx, ↓qb, ↓qa, ↓qd, ↓qc, ↓qe, ↓qg, ↓qf, ↓zj, ↓zi]
  refine hb _ _ _ ?_
  cases hbg : begins ts1 with
  | false =>
    simp [hp, hS, ↓ql, ↓qn, ↓qo, ↓qi, ↓qh, ↓qj, ↓qk, ↓qm, ↓zs, ↓zp, ↓zr, ↓zt, ↓zq, ↓zl, ↓zm, ↓zk, ↓zo, ↓zn, ↓qq, ↓qp, ↓qw, ↓qx, ↓zg, ↓qy, ↓qv, ↓qr, ↓zh, ↓qu, ↓qt, ↓qs, ↓qz, ↓zb, ↓za, ↓zd, ↓ze, ↓zf, ↓zw, ↓zu, ↓zy, ↓zx, ↓qb, ↓qa, ↓qd, ↓qc, ↓qe, ↓qg, ↓qf, ↓zj, ↓zi]
    refine re _ _ _ ?_
    have h' : PK K ob p en S (fun l => .d (.list 7 (l.map enc))) (.ok l ts1) := by
      rw [bind_eq] at h
      cases hn : most - l.length <;> simpa [hn, listM, hbg] using h
    simp [hp, hS, ↓ql, ↓qn, ↓qo, ↓qi, ↓qh, ↓qj, ↓qk, ↓qm, ↓zs, ↓zp, ↓zr, ↓zt, ↓zq, ↓zl, ↓zm, ↓zk, ↓zo, ↓zn, ↓qq, ↓qp, ↓qw, ↓qx, ↓zg, ↓qy, ↓qv, ↓qr, ↓zh, ↓qu, ↓qt, ↓qs, ↓qz, ↓zb, ↓za, ↓zd, ↓ze, ↓zf, ↓zw, ↓zu, ↓zy, ↓zx, ↓qb, ↓qa, ↓qd, ↓qc, ↓qe, ↓qg, ↓qf, ↓zj, ↓zi]
    exact leave_p hp hm h' (by simp) (by simp [hp])
  | true =>
    by_cases he : l.length = most
    · simp [he, listM, hbg, bind_eq] at h
      simp [hp, hS, he, ↓ql, ↓qn, ↓qo, ↓qi, ↓qh, ↓qj, ↓qk, ↓qm, ↓zs, ↓zp, ↓zr, ↓zt, ↓zq, ↓zl, ↓zm, ↓zk, ↓zo, ↓zn, ↓qq, ↓qp, ↓qw, ↓qx, ↓zg, ↓qy, ↓qv, ↓qr, ↓zh, ↓qu, ↓qt, ↓qs, ↓qz, ↓zb, ↓za, ↓zd, ↓ze, ↓zf, ↓zw, ↓zu, ↓zy, ↓zx, ↓qb, ↓qa, ↓qd, ↓qc, ↓qe, ↓qg, ↓qf, ↓zj, ↓zi]
      refine y_fail hP hS (ts := ts1) (en := en) (S := S) (by simp [hp]) _ ?_
      simp [hp]
      refine rp _ _ _ ?_
      simp
      exact leave_p hp hm h (by simp) (by simp [hp])
    · have hne : ¬ ((l.length : Int) = most) := by omega
      obtain ⟨n, hn⟩ : ∃ n, most - l.length = n + 1 := ⟨most - l.length - 1, by omega⟩
      simp only [hn] at h
      simp only [bind_eq, listM, hbg, if_true] at h
      simp [hp, hS, hne, hrc, lt73_s0, ↓ql, ↓qn, ↓qo, ↓qi, ↓qh, ↓qj, ↓qk, ↓qm, ↓zs, ↓zp, ↓zr, ↓zt, ↓zq, ↓zl, ↓zm, ↓zk, ↓zo, ↓zn, ↓qq, ↓qp, ↓qw, ↓qx, ↓zg, ↓qy, ↓qv, ↓qr, ↓zh, ↓qu, ↓qt, ↓qs, ↓qz, ↓zb, ↓za, ↓zd, ↓ze, ↓zf, ↓zw, ↓zu, ↓zy, ↓zx, ↓qb, ↓qa, ↓qd, ↓qc, ↓qe, ↓qg, ↓qf, ↓zj, ↓zi]
      refine hr _ _ _ ?_
      cases ha : read ts1 with
      | err ts' e =>
        simp only [ha] at h
        simp
        refine rp _ _ _ ?_
        simp
        exact leave_p hp hm h (by simp) (by simp [hp])
      | ok a ts' =>
        simp only [ha] at h
        simp [hp, hS, hsh]
        refine ⟨by omega, ?_⟩
        refine rn [] (l ++ [a], ts') _ _ ⟨by simp; omega, ?_⟩ (by simp; omega) (by simp) (by simp [hp]) (by simp [hp, hv1]) ?_
        · simp only [List.length_append, List.length_singleton, show most - (l.length + 1) = n by omega]
          rw [bind_eq]
          cases hl2 : listM begins read n ts' with
          | err ts2 e => simp only [hl2] at h; exact h
          | ok l2 ts2 => simp only [hl2] at h; simpa using h
        · simp
          refine noMenO_set_box _ _ _ _ _ (noMenO_up_add _ hm) ?_
          have := men_look (noMenO_up_add 1 (l := []) hm) hp
          simpa [pv] using this
theorem y_listM {α : Type} {enc : α → D} (hsh : ∀ a, (enc a).shape = .node [.leaf, .leaf, .leaf, .leaf, .leaf]) (begins : List Tok → Bool) (read : M α) (most : Nat) (hmost : most ≤ 1000) (bf rf : Nat) (bfi bca rfi rca : List V) (hbc : callable P.p bf = true) (hrc : callable P.p rf = true)
    (x : Nat) (hx : fresh ob = x) (hb : ∀ (ts : List Tok) (o : Ob) (K : Out → Objs → Prop), K (.ret (.d (.bool (begins ts)))) ((x, o) :: setO ob p (pb ts en S)) → ACall P bf (bfi ++ bca) ((x, o) :: setO ob p (pb ts en S)) K)
    (hr : ∀ (ts : List Tok) (o : Ob) (K : Out → Objs → Prop), PK K ((x, o) :: setO ob p (pb ts en S)) p en S (fun a => .d (enc a)) (read ts) → ACall P rf (rfi ++ rca) ((x, o) :: setO ob p (pb ts en S)) K)
    (h : PK K ob p en S (fun l => .d (.list 5 (l.map enc))) (listM begins read most ts)) : ACall P 75 [.ptr p [], .d (.int .i64 most), .fn bf bfi bca, .fn rf rfi rca] ob K := by
  subst hx
  refine acall_lift hP mixed ok75 lf75 TOk.nil fun hv hm => ?_
  have hv1 := V.mens_mono (p := young (fresh ob + 1) []) (q := young (fresh ob) []) (fun j e => by simp [young] at e ⊢; omega) _ (hv [])
  simp at hv1
  simp [lt75, hp, hS, ↓ql, ↓qn, ↓qo, ↓qi, ↓qh, ↓qj, ↓qk, ↓qm, ↓zs, ↓zp, ↓zr, ↓zt, ↓zq, ↓zl, ↓zm, ↓zk, ↓zo, ↓zn, ↓qq, ↓qp, ↓qw, ↓qx, ↓zg, ↓qy, ↓qv, ↓qr, ↓zh, ↓qu, ↓qt, ↓qs, ↓qz, ↓zb, ↓za, ↓zd, ↓ze, ↓zf, ↓zw, ↓zu, ↓zy, ↓zx, ↓qb, ↓qa, ↓qd, ↓qc, ↓qe, ↓qg, ↓qf, ↓zj, ↓zi]
  refine ALoop.go (ι := List α × List Tok) (fun j => [(0, .ptr p []), (1, .d (.int .i64 most)), (2, .fn bf bfi bca), (3, .fn rf rfi rca), (8, .sl (fresh ob) j.1.length)])
    (fun j => (fresh ob, .arr 112 5 (j.1.map enc)) :: setO ob p (pb j.2 en S))
    (fun j => j.1.length ≤ most ∧ PK K ob p en S (fun l => .d (.list 5 (l.map enc))) ((listM begins read (most - j.1.length) >>= fun l => pure (j.1 ++ l)) j.2)) (fun j => most - j.1.length) ([], ts) ⟨by simp, ?_⟩ (by simp) (by simp [setO_self hp]) ?_
  · simp only [List.length_nil, Nat.sub_zero, List.nil_append]
    rw [bind_eq]
    cases hr : listM begins read most ts with
    | ok a ts' => rw [hr] at h; exact h
    | err ts' e => rw [hr] at h; exact h
  rintro ⟨l, ts1⟩ ⟨hl, h⟩ R rn re rr rp
  dsimp only at hl h rn
  simp [lt75_l1, hp, hS, hbc, ↓ql, ↓qn, ↓qo, ↓qi, ↓qh, ↓qj, ↓qk, ↓qm, ↓zs, ↓zp, ↓zr, ↓zt, ↓zq, ↓zl, ↓zm, ↓zk, ↓zo, ↓zn, ↓qq, ↓qp, ↓qw, ↓qx, ↓zg, ↓qy, ↓qv, ↓qr, ↓zh, ↓qu, ↓qt, ↓qs, ↓qz, ↓zb, ↓za, ↓zd, ↓ze, ↓zf, ↓zw, ↓zu, ↓zy, ↓zx, ↓qb, ↓qa, ↓qd, ↓qc, ↓qe, ↓qg, ↓qf, ↓zj, ↓zi]
  refine hb _ _ _ ?_
  cases hbg : begins ts1 with
  | false =>
    simp [hp, hS, ↓ql, ↓qn, ↓qo, ↓qi, ↓qh, ↓qj, ↓qk, ↓qm, ↓zs, ↓zp, ↓zr, ↓zt, ↓zq, ↓zl, ↓zm, ↓zk, ↓zo, ↓zn, ↓qq, ↓qp, ↓qw, ↓qx, ↓zg, ↓qy, ↓qv, ↓qr, ↓zh, ↓qu, ↓qt, ↓qs, ↓qz, ↓zb, ↓za, ↓zd, ↓ze, ↓zf, ↓zw, ↓zu, ↓zy, ↓zx, ↓qb, ↓qa, ↓qd, ↓qc, ↓qe, ↓qg, ↓qf, ↓zj, ↓zi]
    refine re _ _ _ ?_
    have h' : PK K ob p en S (fun l => .d (.list 5 (l.map enc))) (.ok l ts1) := by
      rw [bind_eq] at h
      cases hn : most - l.length <;> simpa [hn, listM, hbg] using h
    simp [hp, hS, ↓ql, ↓qn, ↓qo, ↓qi, ↓qh, ↓qj, ↓qk, ↓qm, ↓zs, ↓zp, ↓zr, ↓zt, ↓zq, ↓zl, ↓zm, ↓zk, ↓zo, ↓zn, ↓qq, ↓qp, ↓qw, ↓qx, ↓zg, ↓qy, ↓qv, ↓qr, ↓zh, ↓qu, ↓qt, ↓qs, ↓qz, ↓zb, ↓za, ↓zd, ↓ze, ↓zf, ↓zw, ↓zu, ↓zy, ↓zx, ↓qb, ↓qa, ↓qd, ↓qc, ↓qe, ↓qg, ↓qf, ↓zj, ↓zi]
    exact leave_p hp hm h' (by simp) (by simp [hp])
  | true =>
    by_cases he : l.length = most
    · simp [he, listM, hbg, bind_eq] at h
      simp [hp, hS, he, ↓ql, ↓qn, ↓qo, ↓qi, ↓qh, ↓qj, ↓qk, ↓qm, ↓zs, ↓zp, ↓zr, ↓zt, ↓zq, ↓zl, ↓zm, ↓zk, ↓zo, ↓zn, ↓qq, ↓qp, ↓qw, ↓qx, ↓zg, ↓qy, ↓qv, ↓qr, ↓zh, ↓qu, ↓qt, ↓qs, ↓qz, ↓zb, ↓za, ↓zd, ↓ze, ↓zf, ↓zw, ↓zu, ↓zy, ↓zx, ↓qb, ↓qa, ↓qd, ↓qc, ↓qe, ↓qg, ↓qf, ↓zj, ↓zi]
      refine y_fail hP hS (ts := ts1) (en := en) (S := S) (by simp [hp]) _ ?_
      simp [hp]
      refine rp _ _ _ ?_
      simp
      exact leave_p hp hm h (by simp) (by simp [hp])
    · have hne : ¬ ((l.length : Int) = most) := by omega
      obtain ⟨n, hn⟩ : ∃ n, most - l.length = n + 1 := ⟨most - l.length - 1, by omega⟩
      simp only [hn] at h
      simp only [bind_eq, listM, hbg, if_true] at h
      simp [hp, hS, hne, hrc, lt75_s0, ↓ql, ↓qn, ↓qo, ↓qi, ↓qh, ↓qj, ↓qk, ↓qm, ↓zs, ↓zp, ↓zr, ↓zt, ↓zq, ↓zl, ↓zm, ↓zk, ↓zo, ↓zn, ↓qq, ↓qp, ↓qw, ↓qx, ↓zg, ↓qy, ↓qv, ↓qr, ↓zh, ↓qu, ↓qt, ↓qs, ↓qz, ↓zb, ↓za, ↓zd, ↓ze, ↓zf, ↓zw, ↓zu, ↓zy, ↓zx, ↓qb, ↓qa, ↓qd, ↓qc, ↓qe, ↓qg, ↓qf, ↓zj, ↓zi]
      refine hr _ _ _ ?_
      cases ha : read ts1 with
      | err ts' e =>
        simp only [ha] at h
        simp
        refine rp _ _ _ ?_
        simp
        exact leave_p hp hm h (by simp) (by simp [hp])
      | ok a ts' =>
        simp only [ha] at h
        simp [hp, hS, hsh]
        refine ⟨by omega, ?_⟩
        refine rn [] (l ++ [a], ts') _ _ ⟨by simp; omega, ?_⟩ (by simp; omega) (by simp) (by simp [hp]) (by simp [hp, hv1]) ?_
        · simp only [List.length_append, List.length_singleton, show most - (l.length + 1) = n by omega]
          rw [bind_eq]
          cases hl2 : listM begins read n ts' with
          | err ts2 e => simp only [hl2] at h; exact h
          | ok l2 ts2 => simp only [hl2] at h; simpa using h
        · simp
          refine noMenO_set_box _ _ _ _ _ (noMenO_up_add _ hm) ?_
          have := men_look (noMenO_up_add 1 (l := []) hm) hp
          simpa [pv] using this
theorem y_listR {α : Type} {enc : α → D} (hsh : ∀ a, (enc a).shape = .node [.leaf, .leaf, .leaf, .leaf]) (begins : List Tok → Bool) (read : M α) (most : Nat) (hmost : most ≤ 1000) (bf rf : Nat) (bfi bca rfi rca : List V) (hbc : callable P.p bf = true) (hrc : callable P.p rf = true)
    (x : Nat) (hx : fresh ob = x) (hb : ∀ (ts : List Tok) (o : Ob) (K : Out → Objs → Prop), K (.ret (.d (.bool (begins ts)))) ((x, o) :: setO ob p (pb ts en S)) → ACall P bf (bfi ++ bca) ((x, o) :: setO ob p (pb ts en S)) K)
    (hr : ∀ (ts : List Tok) (o : Ob) (K : Out → Objs → Prop), PK K ((x, o) :: setO ob p (pb ts en S)) p en S (fun a => .d (enc a)) (read ts) → ACall P rf (rfi ++ rca) ((x, o) :: setO ob p (pb ts en S)) K)
    (h : PK K ob p en S (fun l => .d (.list 4 (l.map enc))) (listM begins read most ts)) : ACall P 77 [.ptr p [], .d (.int .i64 most), .fn bf bfi bca, .fn rf rfi rca] ob K := by
  subst hx
  refine acall_lift hP mixed ok77 lf77 TOk.nil fun hv hm => ?_
  have hv1 := V.mens_mono (p := young (fresh ob + 1) []) (q := young (fresh ob) []) (fun j e => by simp [young] at e ⊢; omega) _ (hv [])
  simp at hv1
  simp [lt77, hp, hS, ↓ql, ↓qn, ↓qo, ↓qi, ↓qh, ↓qj, ↓qk, ↓qm, ↓zs, ↓zp, ↓zr, ↓zt, ↓zq, ↓zl, ↓zm, ↓zk, ↓zo, ↓zn, ↓qq, ↓qp, ↓qw, ↓qx, ↓zg, ↓qy, ↓qv, ↓qr, ↓zh, ↓qu, ↓qt, ↓qs, ↓qz, ↓zb, ↓za, ↓zd, ↓ze, ↓zf, ↓zw, ↓zu, ↓zy, ↓zx, ↓qb, ↓qa, ↓qd, ↓qc, ↓qe, ↓qg, ↓qf, ↓zj, ↓zi]
  refine ALoop.go (ι := List α × List Tok) (fun j => [(0, .ptr p []), (1, .d (.int .i64 most)), (2, .fn bf bfi bca), (3, .fn rf rfi rca), (8, .sl (fresh ob) j.1.length)])
    (fun j => (fresh ob, .arr 107 4 (j.1.map enc)) :: setO ob p (pb j.2 en S))
    (fun j => j.1.length ≤ most ∧ PK K ob p en S (fun l => .d (.list 4 (l.map enc))) ((listM begins read (most - j.1.length) >>= fun l => pure (j.1 ++ l)) j.2)) (fun j => most - j.1.length) ([], ts) ⟨by simp, ?_⟩ (by simp) (by simp [setO_self hp]) ?_
  · simp only [List.length_nil, Nat.sub_zero, List.nil_append]
    rw [bind_eq]
    cases hr : listM begins read most ts with
    | ok a ts' => rw [hr] at h; exact h
    | err ts' e => rw [hr] at h; exact h
  rintro ⟨l, ts1⟩ ⟨hl, h⟩ R rn re rr rp
  dsimp only at hl h rn
  simp [lt77_l1, hp, hS, hbc, ↓ql, ↓qn, ↓qo, ↓qi, ↓qh, ↓qj, ↓qk, ↓qm, ↓zs, ↓zp, ↓zr, ↓zt, ↓zq, ↓zl, ↓zm, ↓zk, ↓zo, ↓zn, ↓qq, ↓qp, ↓qw, ↓qx, ↓zg, ↓qy, ↓qv, ↓qr, ↓zh, ↓qu, ↓qt, ↓qs, ↓qz, ↓zb, ↓za, ↓zd, ↓ze, ↓zf, ↓zw, ↓zu, ↓zy, ↓zx, ↓qb, ↓qa, ↓qd, ↓qc, ↓qe, ↓qg, ↓qf, ↓zj, ↓zi]
  refine hb _ _ _ ?_
  cases hbg : begins ts1 with
  | false =>
    simp [hp, hS, ↓ql, ↓qn, ↓qo, ↓qi, ↓qh, ↓qj, ↓qk, ↓qm, ↓zs, ↓zp, ↓zr, ↓zt, ↓zq, ↓zl, ↓zm, ↓zk, ↓zo, ↓zn, ↓qq, ↓qp, ↓qw, ↓qx, ↓zg, ↓qy, ↓qv, ↓qr, ↓zh, ↓qu, ↓qt, ↓qs, ↓qz, ↓zb, ↓za, ↓zd, ↓ze, ↓zf, ↓zw, ↓zu, ↓zy, ↓zx, ↓qb, ↓qa, ↓qd, ↓qc, ↓qe, ↓qg, ↓qf, ↓zj, ↓zi]
    refine re _ _ _ ?_
    have h' : PK K ob p en S (fun l => .d (.list 4 (l.map enc))) (.ok l ts1) := by
      rw [bind_eq] at h
      cases hn : most - l.length <;> simpa [hn, listM, hbg] using h
    simp [hp, hS, ↓ql, ↓qn, ↓qo, ↓qi, ↓qh, ↓qj, ↓qk, ↓qm, ↓zs, ↓zp, ↓zr, ↓zt, ↓zq, ↓zl, ↓zm, ↓zk, ↓zo, ↓zn, ↓qq, ↓qp, ↓qw, ↓qx, ↓zg, ↓qy, ↓qv, ↓qr, ↓zh, ↓qu, ↓qt, ↓qs, ↓qz, ↓zb, ↓za, ↓zd, ↓ze, ↓zf, ↓zw, ↓zu, ↓zy, ↓zx, ↓qb, ↓qa, ↓qd, ↓qc, ↓qe, ↓qg, ↓qf, ↓zj, ↓zi]
    exact leave_p hp hm h' (by simp) (by simp [hp])
  | true =>
    by_cases he : l.length = most
    · simp [he, listM, hbg, bind_eq] at h
      simp [hp, hS, he, ↓ql, ↓qn, ↓qo, ↓qi, ↓qh, ↓qj, ↓qk, ↓qm, ↓zs, ↓zp, ↓zr, ↓zt, ↓zq, ↓zl, ↓zm, ↓zk, ↓zo, ↓zn, ↓qq, ↓qp, ↓qw, ↓qx, ↓zg, ↓qy, ↓qv, ↓qr, ↓zh, ↓qu, ↓qt, ↓qs, ↓qz, ↓zb, ↓za, ↓zd, ↓ze, ↓zf, ↓zw, ↓zu, ↓zy, ↓zx, ↓qb, ↓qa, ↓qd, ↓qc, ↓qe, ↓qg, ↓qf, ↓zj, ↓zi]
      refine y_fail hP hS (ts := ts1) (en := en) (S := S) (by simp [hp]) _ ?_
      simp [hp]
      refine rp _ _ _ ?_
      simp
      exact leave_p hp hm h (by simp) (by simp [hp])
    · have hne : ¬ ((l.length : Int) = most) := by omega
      obtain ⟨n, hn⟩ : ∃ n, most - l.length = n + 1 := ⟨most - l.length - 1, by omega⟩
      simp only [hn] at h
      simp only [bind_eq, listM, hbg, if_true] at h
      simp [hp, hS, hne, hrc, lt77_s0, ↓ql, ↓qn, ↓qo, ↓qi, ↓qh, ↓qj, ↓qk, ↓qm, ↓zs, ↓zp, ↓zr, ↓zt, ↓zq, ↓zl, ↓zm, ↓zk, ↓zo, ↓zn, ↓qq, ↓qp, ↓qw, ↓qx, ↓zg, ↓qy, ↓qv, ↓qr, ↓zh, ↓qu, ↓qt, ↓qs, ↓qz, ↓zb, ↓za, ↓zd, ↓ze, ↓zf, ↓zw, ↓zu, ↓zy, ↓zx, ↓qb, ↓qa, ↓qd, ↓qc, ↓qe, ↓qg, ↓qf, ↓zj, ↓zi]
      refine hr _ _ _ ?_
      cases ha : read ts1 with
      | err ts' e =>
        simp only [ha] at h
        simp
        refine rp _ _ _ ?_
        simp
        exact leave_p hp hm h (by simp) (by simp [hp])
      | ok a ts' =>
        simp only [ha] at h
        simp [hp, hS, hsh]
        refine ⟨by omega, ?_⟩
        refine rn [] (l ++ [a], ts') _ _ ⟨by simp; omega, ?_⟩ (by simp; omega) (by simp) (by simp [hp]) (by simp [hp, hv1]) ?_
        · simp only [List.length_append, List.length_singleton, show most - (l.length + 1) = n by omega]
          rw [bind_eq]
          cases hl2 : listM begins read n ts' with
          | err ts2 e => simp only [hl2] at h; exact h
          | ok l2 ts2 => simp only [hl2] at h; simpa using h
        · simp
          refine noMenO_set_box _ _ _ _ _ (noMenO_up_add _ hm) ?_
          have := men_look (noMenO_up_add 1 (l := []) hm) hp
          simpa [pv] using this
theorem y_listN {α : Type} {enc : α → D} (hsh : ∀ a, (enc a).shape = .leaf) (begins : List Tok → Bool) (read : M α) (most : Nat) (hmost : most ≤ 1000) (bf rf : Nat) (bfi bca rfi rca : List V) (hbc : callable P.p bf = true) (hrc : callable P.p rf = true)
    (x : Nat) (hx : fresh ob = x) (hb : ∀ (ts : List Tok) (o : Ob) (K : Out → Objs → Prop), K (.ret (.d (.bool (begins ts)))) ((x, o) :: setO ob p (pb ts en S)) → ACall P bf (bfi ++ bca) ((x, o) :: setO ob p (pb ts en S)) K)
    (hr : ∀ (ts : List Tok) (o : Ob) (K : Out → Objs → Prop), PK K ((x, o) :: setO ob p (pb ts en S)) p en S (fun a => .d (enc a)) (read ts) → ACall P rf (rfi ++ rca) ((x, o) :: setO ob p (pb ts en S)) K)
    (h : PK K ob p en S (fun l => .d (.list 1 (l.map enc))) (listM begins read most ts)) : ACall P 176 [.ptr p [], .d (.int .i64 most), .fn bf bfi bca, .fn rf rfi rca] ob K := by
  subst hx
  refine acall_lift hP mixed ok176 lf176 TOk.nil fun hv hm => ?_
  have hv1 := V.mens_mono (p := young (fresh ob + 1) []) (q := young (fresh ob) []) (fun j e => by simp [young] at e ⊢; omega) _ (hv [])
  simp at hv1
  simp [lt176, hp, hS, ↓ql, ↓qn, ↓qo, ↓qi, ↓qh, ↓qj, ↓qk, ↓qm, ↓zs, ↓zp, ↓zr, ↓zt, ↓zq, ↓zl, ↓zm, ↓zk, ↓zo, ↓zn, ↓qq, ↓qp, ↓qw, ↓qx, ↓zg, ↓qy, ↓qv, ↓qr, ↓zh, ↓qu, ↓qt, ↓qs, ↓qz, ↓zb, ↓za, ↓zd, ↓ze, ↓zf, ↓zw, ↓zu, ↓zy, ↓zx, ↓qb, ↓qa, ↓qd, ↓qc, ↓qe, ↓qg, ↓qf, ↓zj, ↓zi]
  refine ALoop.go (ι := List α × List Tok) (fun j => [(0, .ptr p []), (1, .d (.int .i64 most)), (2, .fn bf bfi bca), (3, .fn rf rfi rca), (8, .sl (fresh ob) j.1.length)])
    (fun j => (fresh ob, .arr 9 1 (j.1.map enc)) :: setO ob p (pb j.2 en S))
    (fun j => j.1.length ≤ most ∧ PK K ob p en S (fun l => .d (.list 1 (l.map enc))) ((listM begins read (most - j.1.length) >>= fun l => pure (j.1 ++ l)) j.2)) (fun j => most - j.1.length) ([], ts) ⟨by simp, ?_⟩ (by simp) (by simp [setO_self hp]) ?_
  · simp only [List.length_nil, Nat.sub_zero, List.nil_append]
    rw [bind_eq]
    cases hr : listM begins read most ts with
    | ok a ts' => rw [hr] at h; exact h
    | err ts' e => rw [hr] at h; exact h
  rintro ⟨l, ts1⟩ ⟨hl, h⟩ R rn re rr rp
  dsimp only at hl h rn
  simp [lt176_l1, hp, hS, hbc, ↓ql, ↓qn, ↓qo, ↓qi, ↓qh, ↓qj, ↓qk, ↓qm, ↓zs, ↓zp, ↓zr, ↓zt, ↓zq, ↓zl, ↓zm, ↓zk, ↓zo, ↓zn, ↓qq, ↓qp, ↓qw, ↓qx, ↓zg, ↓qy, ↓qv, ↓qr, ↓zh, ↓qu, ↓qt, ↓qs, ↓qz, ↓zb, ↓za, ↓zd, ↓ze, ↓zf, ↓zw, ↓zu, ↓zy, ↓zx, ↓qb, ↓qa, ↓qd, ↓qc, ↓qe, ↓qg, ↓qf, ↓zj, ↓zi]
  refine hb _ _ _ ?_
  cases hbg : begins ts1 with
  | false =>
    simp [hp, hS, ↓ql, ↓qn, ↓qo, ↓qi, ↓qh, ↓qj, ↓qk, ↓qm, ↓zs, ↓zp, ↓zr, ↓zt, ↓zq, ↓zl, ↓zm, ↓zk, ↓zo, ↓zn, ↓qq, ↓qp, ↓qw, ↓qx, ↓zg, ↓qy, ↓qv, ↓qr, ↓zh, ↓qu, ↓qt, ↓qs, ↓qz, ↓zb, ↓za, ↓zd, ↓ze, ↓zf, ↓zw, ↓zu, ↓zy, ↓zx, ↓qb, ↓qa, ↓qd, ↓qc, ↓qe, ↓qg, ↓qf, ↓zj, ↓zi]
    refine re _ _ _ ?_
    have h' : PK K ob p en S (fun l => .d (.list 1 (l.map enc))) (.ok l ts1) := by
      rw [bind_eq] at h
      cases hn : most - l.length <;> simpa [hn, listM, hbg] using h
    simp [hp, hS, ↓ql, ↓qn, ↓qo, ↓qi, ↓qh, ↓qj, ↓qk, ↓qm, ↓zs, ↓zp, ↓zr, ↓zt, ↓zq, ↓zl, ↓zm, ↓zk, ↓zo, ↓zn, ↓qq, ↓qp, ↓qw, ↓qx, ↓zg, ↓qy, ↓qv, ↓qr, ↓zh, ↓qu, ↓qt, ↓qs, ↓qz, ↓zb, ↓za, ↓zd, ↓ze, ↓zf, ↓zw, ↓zu, ↓zy, ↓zx, ↓qb, ↓qa, ↓qd, ↓qc, ↓qe, ↓qg, ↓qf, ↓zj, ↓zi]
    exact leave_p hp hm h' (by simp) (by simp [hp])
  | true =>
    by_cases he : l.length = most
    · simp [he, listM, hbg, bind_eq] at h
      simp [hp, hS, he, ↓ql, ↓qn, ↓qo, ↓qi, ↓qh, ↓qj, ↓qk, ↓qm, ↓zs, ↓zp, ↓zr, ↓zt, ↓zq, ↓zl, ↓zm, ↓zk, ↓zo, ↓zn, ↓qq, ↓qp, ↓qw, ↓qx, ↓zg, ↓qy, ↓qv, ↓qr, ↓zh, ↓qu, ↓qt, ↓qs, ↓qz, ↓zb, ↓za, ↓zd, ↓ze, ↓zf, ↓zw, ↓zu, ↓zy, ↓zx, ↓qb, ↓qa, ↓qd, ↓qc, ↓qe, ↓qg, ↓qf, ↓zj, ↓zi]
      refine y_fail hP hS (ts := ts1) (en := en) (S := S) (by simp [hp]) _ ?_
      simp [hp]
      refine rp _ _ _ ?_
      simp
      exact leave_p hp hm h (by simp) (by simp [hp])
    · have hne : ¬ ((l.length : Int) = most) := by omega
      obtain ⟨n, hn⟩ : ∃ n, most - l.length = n + 1 := ⟨most - l.length - 1, by omega⟩
      simp only [hn] at h
      simp only [bind_eq, listM, hbg, if_true] at h
      simp [hp, hS, hne, hrc, lt176_s0, ↓ql, ↓qn, ↓qo, ↓qi, ↓qh, ↓qj, ↓qk, ↓qm, ↓zs, ↓zp, ↓zr, ↓zt, ↓zq, ↓zl, ↓zm, ↓zk, ↓zo, ↓zn, ↓qq, ↓qp, ↓qw, ↓qx, ↓zg, ↓qy, ↓qv, ↓qr, ↓zh, ↓qu, ↓qt, ↓qs, ↓qz, ↓zb, ↓za, ↓zd, ↓ze, ↓zf, ↓zw, ↓zu, ↓zy, ↓zx, ↓qb, ↓qa, ↓qd, ↓qc, ↓qe, ↓qg, ↓qf, ↓zj, ↓zi]
      refine hr _ _ _ ?_
      cases ha : read ts1 with
      | err ts' e =>
        simp only [ha] at h
        simp
        refine rp _ _ _ ?_
        simp
        exact leave_p hp hm h (by simp) (by simp [hp])
      | ok a ts' =>
        simp only [ha] at h
        simp [hp, hS, hsh]
        refine ⟨by omega, ?_⟩
        refine rn [] (l ++ [a], ts') _ _ ⟨by simp; omega, ?_⟩ (by simp; omega) (by simp) (by simp [hp]) (by simp [hp, hv1]) ?_
        · simp only [List.length_append, List.length_singleton, show most - (l.length + 1) = n by omega]
          rw [bind_eq]
          cases hl2 : listM begins read n ts' with
          | err ts2 e => simp only [hl2] at h; exact h
          | ok l2 ts2 => simp only [hl2] at h; simpa using h
        · simp
          refine noMenO_set_box _ _ _ _ _ (noMenO_up_add _ hm) ?_
          have := men_look (noMenO_up_add 1 (l := []) hm) hp
          simpa [pv] using this
end
end Go.Proofs.YtanpgmgkmfckaaaGreatDoor
/- Contracts: names with commas, types, fields, dependencies. Condition: the program is the seat's, and its intervals are laid. -/
namespace Go.Proofs.YtanpgmgkmfckaaaGreatDoor
open Go Go.Ab Go.Lx Go.Sx
set_option maxRecDepth 100000
section
variable {P : Prg} (hP : P.p = Tryz.prog) {ob : Objs} {p : Nat} {ts : List Tok} {en : Int} {S : V} (hS : V.allD [S] = none) (hp : lookO ob p = some (pb ts en S)) {K : Out → Objs → Prop}
include hP
theorem call_y : callable P.p 175 = true ∧ callable P.p 177 = true ∧ callable P.p 137 = true ∧ callable P.p 70 = true ∧ callable P.p 72 = true ∧ callable P.p 74 = true ∧ callable P.p 76 = true ∧ callable P.p 78 = true := by
  rw [hP]; exact ⟨by kernel_rfl, by kernel_rfl, by kernel_rfl, by kernel_rfl, by kernel_rfl, by kernel_rfl, by kernel_rfl, by kernel_rfl⟩
include hS hp
theorem y_listed1 {b1 : Nat} (h1 : lookO ob b1 = some (.box 63 (.ptr p []))) (h : K (.ret (.d (.bool (nextB 3 [44] ts)))) (setO ob p (pb ts en S))) : ACall P 175 [.ptr b1 []] ob K := by
  refine acall_lift hP mixed ok175 lf175 TOk.nil fun _ hm => ?_
  simp [lt175, hp, h1, ↓ql, ↓qn, ↓qo, ↓qi, ↓qh, ↓qj, ↓qk, ↓qm, ↓zs, ↓zp, ↓zr, ↓zt, ↓zq, ↓zl, ↓zm, ↓zk, ↓zo, ↓zn, ↓qq, ↓qp, ↓qw, ↓qx, ↓zg, ↓qy, ↓qv, ↓qr, ↓zh, ↓qu, ↓qt, ↓qs, ↓qz, ↓zb, ↓za, ↓zd, ↓ze, ↓zf, ↓zw, ↓zu, ↓zy, ↓zx, ↓qb, ↓qa, ↓qd, ↓qc, ↓qe, ↓qg, ↓qf, ↓zj, ↓zi]
  refine y_next hP hS hp _ _ ?_
  simp [hp]
  exact leave_p hp hm h (by simp) (by simp [hp])
theorem y_listed2 {b1 : Nat} (h1 : lookO ob b1 = some (.box 63 (.ptr p []))) (h : PK K ob p en S (fun a => .d (.str a)) ((do signM [44]; nameM : M B) ts)) : ACall P 177 [.ptr b1 []] ob K := by
  have hbp : (b1 == p) = false := by rw [beq_eq_false_iff_ne]; intro e; subst e; rw [h1] at hp; cases hp
  have hpb : (p == b1) = false := by rw [beq_eq_false_iff_ne]; intro e; subst e; rw [h1] at hp; cases hp
  refine acall_lift hP mixed ok177 lf177 TOk.nil fun _ hm => ?_
  simp [lt177, hp, h1, ↓ql, ↓qn, ↓qo, ↓qi, ↓qh, ↓qj, ↓qk, ↓qm, ↓zs, ↓zp, ↓zr, ↓zt, ↓zq, ↓zl, ↓zm, ↓zk, ↓zo, ↓zn, ↓qq, ↓qp, ↓qw, ↓qx, ↓zg, ↓qy, ↓qv, ↓qr, ↓zh, ↓qu, ↓qt, ↓qs, ↓qz, ↓zb, ↓za, ↓zd, ↓ze, ↓zf, ↓zw, ↓zu, ↓zy, ↓zx, ↓qb, ↓qa, ↓qd, ↓qc, ↓qe, ↓qg, ↓qf, ↓zj, ↓zi]
  refine y_sign hP hS hp _ (PK.bind h (fun ts' e h => ?_) (fun a ts' ha h => ?_))
  · simp
    exact leave_p hp hm h (by simp) (by simp [hp])
  simp [hp, h1, hbp, hpb, ↓ql, ↓qn, ↓qo, ↓qi, ↓qh, ↓qj, ↓qk, ↓qm, ↓zs, ↓zp, ↓zr, ↓zt, ↓zq, ↓zl, ↓zm, ↓zk, ↓zo, ↓zn, ↓qq, ↓qp, ↓qw, ↓qx, ↓zg, ↓qy, ↓qv, ↓qr, ↓zh, ↓qu, ↓qt, ↓qs, ↓qz, ↓zb, ↓za, ↓zd, ↓ze, ↓zf, ↓zw, ↓zu, ↓zy, ↓zx, ↓qb, ↓qa, ↓qd, ↓qc, ↓qe, ↓qg, ↓qf, ↓zj, ↓zi]
  refine y_name hP hS (by simp [hp]) (PK.tail h (fun ts' e h => ?_) (fun a ts' ha h => ?_))
  · simp
    exact leave_p hp hm h (by simp) (by simp [hp])
  simp [hp, h1, ↓ql, ↓qn, ↓qo, ↓qi, ↓qh, ↓qj, ↓qk, ↓qm, ↓zs, ↓zp, ↓zr, ↓zt, ↓zq, ↓zl, ↓zm, ↓zk, ↓zo, ↓zn, ↓qq, ↓qp, ↓qw, ↓qx, ↓zg, ↓qy, ↓qv, ↓qr, ↓zh, ↓qu, ↓qt, ↓qs, ↓qz, ↓zb, ↓za, ↓zd, ↓ze, ↓zf, ↓zw, ↓zu, ↓zy, ↓zx, ↓qb, ↓qa, ↓qd, ↓qc, ↓qe, ↓qg, ↓qf, ↓zj, ↓zi]
  exact leave_p hp hm h (by simp) (by simp [hp])
theorem y_listed (most : Nat) (h0 : 1 ≤ most) (hmost : most ≤ 1000) (h : PK K ob p en S (fun l => .d (strsD l)) (listedM most ts)) : ACall P 136 [.ptr p [], .d (.int .i64 most)] ob K := by
  refine acall_lift hP mixed ok136 lf136 TOk.nil fun _ hm => ?_
  simp [lt136, hp, hS, ↓ql, ↓qn, ↓qo, ↓qi, ↓qh, ↓qj, ↓qk, ↓qm, ↓zs, ↓zp, ↓zr, ↓zt, ↓zq, ↓zl, ↓zm, ↓zk, ↓zo, ↓zn, ↓qq, ↓qp, ↓qw, ↓qx, ↓zg, ↓qy, ↓qv, ↓qr, ↓zh, ↓qu, ↓qt, ↓qs, ↓qz, ↓zb, ↓za, ↓zd, ↓ze, ↓zf, ↓zw, ↓zu, ↓zy, ↓zx, ↓qb, ↓qa, ↓qd, ↓qc, ↓qe, ↓qg, ↓qf, ↓zj, ↓zi]
  refine y_name hP hS (by simp [hp]) (PK.bind h (fun ts' e h => ?_) (fun a ts' ha h => ?_))
  · simp
    exact leave_p hp hm h (by simp) (by simp [hp])
  simp [hp, hS, ↓ql, ↓qn, ↓qo, ↓qi, ↓qh, ↓qj, ↓qk, ↓qm, ↓zs, ↓zp, ↓zr, ↓zt, ↓zq, ↓zl, ↓zm, ↓zk, ↓zo, ↓zn, ↓qq, ↓qp, ↓qw, ↓qx, ↓zg, ↓qy, ↓qv, ↓qr, ↓zh, ↓qu, ↓qt, ↓qs, ↓qz, ↓zb, ↓za, ↓zd, ↓ze, ↓zf, ↓zw, ↓zu, ↓zy, ↓zx, ↓qb, ↓qa, ↓qd, ↓qc, ↓qe, ↓qg, ↓qf, ↓zj, ↓zi]
  have hw : IntKind.i64.wrap ((most : Int) - 1) = ((most - 1 : Nat) : Int) := by rw [IntWalk.i64_in _ (by omega)]; omega
  rw [hw]
  refine y_listN hP hS (by simp [hp]) (enc := D.str) (fun _ => rfl) (nextB 3 [44]) (do signM [44]; nameM) (most - 1) (by omega) _ _ [] _ [] _ (call_y hP).1 (call_y hP).2.1 _ rfl (fun ts o K h => ?_) (fun ts o K h => ?_) (PK.bind h (fun ts' e h => ?_) (fun l ts' ha h => ?_))
  · exact y_listed1 hP hS (p := p) (ts := ts) (en := en) (by simp [hp]) (by simp [hp]) (by simpa [hp] using h)
  · exact y_listed2 hP hS (p := p) (ts := ts) (en := en) (by simp [hp]) (by simp [hp]) (by simpa [hp] using h)
  · simp [hp]
    exact leave_p hp hm h (by simp) (by simp [hp])
  have hl := listM_len ha
  simp [hp, show 1 + l.length = l.length + 1 by omega]
  refine ⟨by omega, ?_⟩
  exact leave_p hp hm h (by simp) (by simp [hp])
theorem y_kind (hI : Ivl P) (h : PK K ob p en S (fun x => .d x.enc) (kindM ts)) : ACall P 135 [.ptr p []] ob K := by
  refine acall_lift hP mixed ok135 lf135 TOk.nil fun _ hm => ?_
  simp [lt135, hp, hS, hI.factors, hI.editions, hI.mosts, hI.weights, hI.anyN, ↓ql, ↓qn, ↓qo, ↓qi, ↓qh, ↓qj, ↓qk, ↓qm, ↓zs, ↓zp, ↓zr, ↓zt, ↓zq, ↓zl, ↓zm, ↓zk, ↓zo, ↓zn, ↓qq, ↓qp, ↓qw, ↓qx, ↓zg, ↓qy, ↓qv, ↓qr, ↓zh, ↓qu, ↓qt, ↓qs, ↓qz, ↓zb, ↓za, ↓zd, ↓ze, ↓zf, ↓zw, ↓zu, ↓zy, ↓zx, ↓qb, ↓qa, ↓qd, ↓qc, ↓qe, ↓qg, ↓qf, ↓zj, ↓zi]
  refine y_accept hP hS (by simp [hp]) _ _ (PK.bind h (fun ts' e h => ?_) (fun a ts' ha h => ?_))
  · simp
    exact leave_p hp hm h (by simp) (by simp [hp])
  cases a
  · skip
    simp only [Bool.false_eq_true, if_false, if_true, massoc, mpure] at h
    simp [hp, hS, hI.factors, hI.editions, hI.mosts, hI.weights, hI.anyN, ↓ql, ↓qn, ↓qo, ↓qi, ↓qh, ↓qj, ↓qk, ↓qm, ↓zs, ↓zp, ↓zr, ↓zt, ↓zq, ↓zl, ↓zm, ↓zk, ↓zo, ↓zn, ↓qq, ↓qp, ↓qw, ↓qx, ↓zg, ↓qy, ↓qv, ↓qr, ↓zh, ↓qu, ↓qt, ↓qs, ↓qz, ↓zb, ↓za, ↓zd, ↓ze, ↓zf, ↓zw, ↓zu, ↓zy, ↓zx, ↓qb, ↓qa, ↓qd, ↓qc, ↓qe, ↓qg, ↓qf, ↓zj, ↓zi]
    refine y_accept hP hS (by simp [hp]) _ _ (PK.bind h (fun ts' e h => ?_) (fun a ts' ha h => ?_))
    · simp
      exact leave_p hp hm h (by simp) (by simp [hp])
    cases a
    · skip
      simp only [Bool.false_eq_true, if_false, if_true, massoc, mpure] at h
      simp [hp, hS, hI.factors, hI.editions, hI.mosts, hI.weights, hI.anyN, ↓ql, ↓qn, ↓qo, ↓qi, ↓qh, ↓qj, ↓qk, ↓qm, ↓zs, ↓zp, ↓zr, ↓zt, ↓zq, ↓zl, ↓zm, ↓zk, ↓zo, ↓zn, ↓qq, ↓qp, ↓qw, ↓qx, ↓zg, ↓qy, ↓qv, ↓qr, ↓zh, ↓qu, ↓qt, ↓qs, ↓qz, ↓zb, ↓za, ↓zd, ↓ze, ↓zf, ↓zw, ↓zu, ↓zy, ↓zx, ↓qb, ↓qa, ↓qd, ↓qc, ↓qe, ↓qg, ↓qf, ↓zj, ↓zi]
      refine y_accept hP hS (by simp [hp]) _ _ (PK.bind h (fun ts' e h => ?_) (fun a ts' ha h => ?_))
      · simp
        exact leave_p hp hm h (by simp) (by simp [hp])
      cases a
      · skip
        simp only [Bool.false_eq_true, if_false, if_true, massoc, mpure] at h
        simp [hp, hS, hI.factors, hI.editions, hI.mosts, hI.weights, hI.anyN, ↓ql, ↓qn, ↓qo, ↓qi, ↓qh, ↓qj, ↓qk, ↓qm, ↓zs, ↓zp, ↓zr, ↓zt, ↓zq, ↓zl, ↓zm, ↓zk, ↓zo, ↓zn, ↓qq, ↓qp, ↓qw, ↓qx, ↓zg, ↓qy, ↓qv, ↓qr, ↓zh, ↓qu, ↓qt, ↓qs, ↓qz, ↓zb, ↓za, ↓zd, ↓ze, ↓zf, ↓zw, ↓zu, ↓zy, ↓zx, ↓qb, ↓qa, ↓qd, ↓qc, ↓qe, ↓qg, ↓qf, ↓zj, ↓zi]
        refine y_accept hP hS (by simp [hp]) _ _ (PK.bind h (fun ts' e h => ?_) (fun a ts' ha h => ?_))
        · simp
          exact leave_p hp hm h (by simp) (by simp [hp])
        cases a
        · skip
          simp only [Bool.false_eq_true, if_false, if_true, massoc, mpure] at h
          simp [hp, hS, hI.factors, hI.editions, hI.mosts, hI.weights, hI.anyN, ↓ql, ↓qn, ↓qo, ↓qi, ↓qh, ↓qj, ↓qk, ↓qm, ↓zs, ↓zp, ↓zr, ↓zt, ↓zq, ↓zl, ↓zm, ↓zk, ↓zo, ↓zn, ↓qq, ↓qp, ↓qw, ↓qx, ↓zg, ↓qy, ↓qv, ↓qr, ↓zh, ↓qu, ↓qt, ↓qs, ↓qz, ↓zb, ↓za, ↓zd, ↓ze, ↓zf, ↓zw, ↓zu, ↓zy, ↓zx, ↓qb, ↓qa, ↓qd, ↓qc, ↓qe, ↓qg, ↓qf, ↓zj, ↓zi]
          refine y_fail hP hS (ts := ts') (en := en) (S := S) (by simp [hp]) _ ?_
          simp [hp]
          exact leave_p hp hm h (by simp) (by simp [hp])
        · skip
          simp only [Bool.false_eq_true, if_false, if_true, massoc, mpure] at h
          simp [hp, hS, hI.factors, hI.editions, hI.mosts, hI.weights, hI.anyN, ↓ql, ↓qn, ↓qo, ↓qi, ↓qh, ↓qj, ↓qk, ↓qm, ↓zs, ↓zp, ↓zr, ↓zt, ↓zq, ↓zl, ↓zm, ↓zk, ↓zo, ↓zn, ↓qq, ↓qp, ↓qw, ↓qx, ↓zg, ↓qy, ↓qv, ↓qr, ↓zh, ↓qu, ↓qt, ↓qs, ↓qz, ↓zb, ↓za, ↓zd, ↓ze, ↓zf, ↓zw, ↓zu, ↓zy, ↓zx, ↓qb, ↓qa, ↓qd, ↓qc, ↓qe, ↓qg, ↓qf, ↓zj, ↓zi]
          refine y_listed hP hS (by simp [hp]) 16 (by decide) (by decide) (PK.bind h (fun ts' e h => ?_) (fun l ts' ha h => ?_))
          · simp
            exact leave_p hp hm h (by simp) (by simp [hp])
          have hl := listedM_len ha
          have hw : IntKind.i64.wrap ((l.length : Int) - 1) = (l.length : Int) - 1 := IntWalk.i64_in _ (by omega)
          simp [hp, hS, strsD, hw, lt135_s0, ↓ql, ↓qn, ↓qo, ↓qi, ↓qh, ↓qj, ↓qk, ↓qm, ↓zs, ↓zp, ↓zr, ↓zt, ↓zq, ↓zl, ↓zm, ↓zk, ↓zo, ↓zn, ↓qq, ↓qp, ↓qw, ↓qx, ↓zg, ↓qy, ↓qv, ↓qr, ↓zh, ↓qu, ↓qt, ↓qs, ↓qz, ↓zb, ↓za, ↓zd, ↓ze, ↓zf, ↓zw, ↓zu, ↓zy, ↓zx, ↓qb, ↓qa, ↓qd, ↓qc, ↓qe, ↓qg, ↓qf, ↓zj, ↓zi]
          exact leave_p hp hm h (by simp) (by simp [hp])
      · skip
        simp only [Bool.false_eq_true, if_false, if_true, massoc, mpure] at h
        simp [hp, hS, hI.factors, hI.editions, hI.mosts, hI.weights, hI.anyN, lt135_s0, ↓ql, ↓qn, ↓qo, ↓qi, ↓qh, ↓qj, ↓qk, ↓qm, ↓zs, ↓zp, ↓zr, ↓zt, ↓zq, ↓zl, ↓zm, ↓zk, ↓zo, ↓zn, ↓qq, ↓qp, ↓qw, ↓qx, ↓zg, ↓qy, ↓qv, ↓qr, ↓zh, ↓qu, ↓qt, ↓qs, ↓qz, ↓zb, ↓za, ↓zd, ↓ze, ↓zf, ↓zw, ↓zu, ↓zy, ↓zx, ↓qb, ↓qa, ↓qd, ↓qc, ↓qe, ↓qg, ↓qf, ↓zj, ↓zi]
        exact leave_p hp hm h (by simp) (by simp [hp])
    · skip
      simp only [Bool.false_eq_true, if_false, if_true, massoc, mpure] at h
      simp [hp, hS, hI.factors, hI.editions, hI.mosts, hI.weights, hI.anyN, lt135_s0, ↓ql, ↓qn, ↓qo, ↓qi, ↓qh, ↓qj, ↓qk, ↓qm, ↓zs, ↓zp, ↓zr, ↓zt, ↓zq, ↓zl, ↓zm, ↓zk, ↓zo, ↓zn, ↓qq, ↓qp, ↓qw, ↓qx, ↓zg, ↓qy, ↓qv, ↓qr, ↓zh, ↓qu, ↓qt, ↓qs, ↓qz, ↓zb, ↓za, ↓zd, ↓ze, ↓zf, ↓zw, ↓zu, ↓zy, ↓zx, ↓qb, ↓qa, ↓qd, ↓qc, ↓qe, ↓qg, ↓qf, ↓zj, ↓zi]
      exact leave_p hp hm h (by simp) (by simp [hp])
  · skip
    simp only [Bool.false_eq_true, if_false, if_true, massoc, mpure] at h
    simp [hp, hS, hI.factors, hI.editions, hI.mosts, hI.weights, hI.anyN, ↓ql, ↓qn, ↓qo, ↓qi, ↓qh, ↓qj, ↓qk, ↓qm, ↓zs, ↓zp, ↓zr, ↓zt, ↓zq, ↓zl, ↓zm, ↓zk, ↓zo, ↓zn, ↓qq, ↓qp, ↓qw, ↓qx, ↓zg, ↓qy, ↓qv, ↓qr, ↓zh, ↓qu, ↓qt, ↓qs, ↓qz, ↓zb, ↓za, ↓zd, ↓ze, ↓zf, ↓zw, ↓zu, ↓zy, ↓zx, ↓qb, ↓qa, ↓qd, ↓qc, ↓qe, ↓qg, ↓qf, ↓zj, ↓zi]
    refine y_number hP hS (by simp [hp]) _ _ (PK.bind h (fun ts' e h => ?_) (fun a ts' ha h => ?_))
    · simp
      exact leave_p hp hm h (by simp) (by simp [hp])
    simp [hp, hS, hI.factors, hI.editions, hI.mosts, hI.weights, hI.anyN, ↓ql, ↓qn, ↓qo, ↓qi, ↓qh, ↓qj, ↓qk, ↓qm, ↓zs, ↓zp, ↓zr, ↓zt, ↓zq, ↓zl, ↓zm, ↓zk, ↓zo, ↓zn, ↓qq, ↓qp, ↓qw, ↓qx, ↓zg, ↓qy, ↓qv, ↓qr, ↓zh, ↓qu, ↓qt, ↓qs, ↓qz, ↓zb, ↓za, ↓zd, ↓ze, ↓zf, ↓zw, ↓zu, ↓zy, ↓zx, ↓qb, ↓qa, ↓qd, ↓qc, ↓qe, ↓qg, ↓qf, ↓zj, ↓zi]
    refine y_word hP hS (by simp [hp]) _ (PK.bind h (fun ts' e h => ?_) (fun a ts' ha h => ?_))
    · simp
      exact leave_p hp hm h (by simp) (by simp [hp])
    simp [hp, hS, hI.factors, hI.editions, hI.mosts, hI.weights, hI.anyN, ↓ql, ↓qn, ↓qo, ↓qi, ↓qh, ↓qj, ↓qk, ↓qm, ↓zs, ↓zp, ↓zr, ↓zt, ↓zq, ↓zl, ↓zm, ↓zk, ↓zo, ↓zn, ↓qq, ↓qp, ↓qw, ↓qx, ↓zg, ↓qy, ↓qv, ↓qr, ↓zh, ↓qu, ↓qt, ↓qs, ↓qz, ↓zb, ↓za, ↓zd, ↓ze, ↓zf, ↓zw, ↓zu, ↓zy, ↓zx, ↓qb, ↓qa, ↓qd, ↓qc, ↓qe, ↓qg, ↓qf, ↓zj, ↓zi]
    refine y_number hP hS (by simp [hp]) _ _ (PK.bind h (fun ts' e h => ?_) (fun a ts' ha h => ?_))
    · simp
      exact leave_p hp hm h (by simp) (by simp [hp])
    simp [hp, hS, hI.factors, hI.editions, hI.mosts, hI.weights, hI.anyN, ↓ql, ↓qn, ↓qo, ↓qi, ↓qh, ↓qj, ↓qk, ↓qm, ↓zs, ↓zp, ↓zr, ↓zt, ↓zq, ↓zl, ↓zm, ↓zk, ↓zo, ↓zn, ↓qq, ↓qp, ↓qw, ↓qx, ↓zg, ↓qy, ↓qv, ↓qr, ↓zh, ↓qu, ↓qt, ↓qs, ↓qz, ↓zb, ↓za, ↓zd, ↓ze, ↓zf, ↓zw, ↓zu, ↓zy, ↓zx, ↓qb, ↓qa, ↓qd, ↓qc, ↓qe, ↓qg, ↓qf, ↓zj, ↓zi]
    refine y_accept hP hS (by simp [hp]) _ _ (PK.bind h (fun ts' e h => ?_) (fun a ts' ha h => ?_))
    · simp
      exact leave_p hp hm h (by simp) (by simp [hp])
    cases a
    · skip
      simp only [Bool.false_eq_true, if_false, if_true, massoc, mpure] at h
      simp [hp, hS, hI.factors, hI.editions, hI.mosts, hI.weights, hI.anyN, lt135_s0, ↓ql, ↓qn, ↓qo, ↓qi, ↓qh, ↓qj, ↓qk, ↓qm, ↓zs, ↓zp, ↓zr, ↓zt, ↓zq, ↓zl, ↓zm, ↓zk, ↓zo, ↓zn, ↓qq, ↓qp, ↓qw, ↓qx, ↓zg, ↓qy, ↓qv, ↓qr, ↓zh, ↓qu, ↓qt, ↓qs, ↓qz, ↓zb, ↓za, ↓zd, ↓ze, ↓zf, ↓zw, ↓zu, ↓zy, ↓zx, ↓qb, ↓qa, ↓qd, ↓qc, ↓qe, ↓qg, ↓qf, ↓zj, ↓zi]
      exact leave_p hp hm h (by simp) (by simp [hp])
    · skip
      simp only [Bool.false_eq_true, if_false, if_true, massoc, mpure] at h
      simp [hp, hS, hI.factors, hI.editions, hI.mosts, hI.weights, hI.anyN, ↓ql, ↓qn, ↓qo, ↓qi, ↓qh, ↓qj, ↓qk, ↓qm, ↓zs, ↓zp, ↓zr, ↓zt, ↓zq, ↓zl, ↓zm, ↓zk, ↓zo, ↓zn, ↓qq, ↓qp, ↓qw, ↓qx, ↓zg, ↓qy, ↓qv, ↓qr, ↓zh, ↓qu, ↓qt, ↓qs, ↓qz, ↓zb, ↓za, ↓zd, ↓ze, ↓zf, ↓zw, ↓zu, ↓zy, ↓zx, ↓qb, ↓qa, ↓qd, ↓qc, ↓qe, ↓qg, ↓qf, ↓zj, ↓zi]
      refine y_name hP hS (by simp [hp]) (PK.bind h (fun ts' e h => ?_) (fun a ts' ha h => ?_))
      · simp
        exact leave_p hp hm h (by simp) (by simp [hp])
      simp [hp, hS, hI.factors, hI.editions, hI.mosts, hI.weights, hI.anyN, lt135_s0, ↓ql, ↓qn, ↓qo, ↓qi, ↓qh, ↓qj, ↓qk, ↓qm, ↓zs, ↓zp, ↓zr, ↓zt, ↓zq, ↓zl, ↓zm, ↓zk, ↓zo, ↓zn, ↓qq, ↓qp, ↓qw, ↓qx, ↓zg, ↓qy, ↓qv, ↓qr, ↓zh, ↓qu, ↓qt, ↓qs, ↓qz, ↓zb, ↓za, ↓zd, ↓ze, ↓zf, ↓zw, ↓zu, ↓zy, ↓zx, ↓qb, ↓qa, ↓qd, ↓qc, ↓qe, ↓qg, ↓qf, ↓zj, ↓zi]
      exact leave_p hp hm h (by simp) (by simp [hp])
theorem y_field (hI : Ivl P) (h : PK K ob p en S (fun x => .d x.enc) (fieldM ts)) : ACall P 66 [.ptr p []] ob K := by
  refine acall_lift hP mixed ok66 lf66 TOk.nil fun _ hm => ?_
  simp [lt66, hp, hS, hI.factors, hI.editions, hI.mosts, hI.weights, hI.anyN, ↓ql, ↓qn, ↓qo, ↓qi, ↓qh, ↓qj, ↓qk, ↓qm, ↓zs, ↓zp, ↓zr, ↓zt, ↓zq, ↓zl, ↓zm, ↓zk, ↓zo, ↓zn, ↓qq, ↓qp, ↓qw, ↓qx, ↓zg, ↓qy, ↓qv, ↓qr, ↓zh, ↓qu, ↓qt, ↓qs, ↓qz, ↓zb, ↓za, ↓zd, ↓ze, ↓zf, ↓zw, ↓zu, ↓zy, ↓zx, ↓qb, ↓qa, ↓qd, ↓qc, ↓qe, ↓qg, ↓qf, ↓zj, ↓zi]
  refine y_word hP hS (by simp [hp]) _ (PK.bind h (fun ts' e h => ?_) (fun a ts' ha h => ?_))
  · simp
    exact leave_p hp hm h (by simp) (by simp [hp])
  simp [hp, hS, hI.factors, hI.editions, hI.mosts, hI.weights, hI.anyN, ↓ql, ↓qn, ↓qo, ↓qi, ↓qh, ↓qj, ↓qk, ↓qm, ↓zs, ↓zp, ↓zr, ↓zt, ↓zq, ↓zl, ↓zm, ↓zk, ↓zo, ↓zn, ↓qq, ↓qp, ↓qw, ↓qx, ↓zg, ↓qy, ↓qv, ↓qr, ↓zh, ↓qu, ↓qt, ↓qs, ↓qz, ↓zb, ↓za, ↓zd, ↓ze, ↓zf, ↓zw, ↓zu, ↓zy, ↓zx, ↓qb, ↓qa, ↓qd, ↓qc, ↓qe, ↓qg, ↓qf, ↓zj, ↓zi]
  refine y_name hP hS (by simp [hp]) (PK.bind h (fun ts' e h => ?_) (fun a ts' ha h => ?_))
  · simp
    exact leave_p hp hm h (by simp) (by simp [hp])
  simp [hp, hS, hI.factors, hI.editions, hI.mosts, hI.weights, hI.anyN, ↓ql, ↓qn, ↓qo, ↓qi, ↓qh, ↓qj, ↓qk, ↓qm, ↓zs, ↓zp, ↓zr, ↓zt, ↓zq, ↓zl, ↓zm, ↓zk, ↓zo, ↓zn, ↓qq, ↓qp, ↓qw, ↓qx, ↓zg, ↓qy, ↓qv, ↓qr, ↓zh, ↓qu, ↓qt, ↓qs, ↓qz, ↓zb, ↓za, ↓zd, ↓ze, ↓zf, ↓zw, ↓zu, ↓zy, ↓zx, ↓qb, ↓qa, ↓qd, ↓qc, ↓qe, ↓qg, ↓qf, ↓zj, ↓zi]
  refine y_sign hP hS (by simp [hp]) _ (PK.bind h (fun ts' e h => ?_) (fun a ts' ha h => ?_))
  · simp
    exact leave_p hp hm h (by simp) (by simp [hp])
  simp [hp, hS, hI.factors, hI.editions, hI.mosts, hI.weights, hI.anyN, ↓ql, ↓qn, ↓qo, ↓qi, ↓qh, ↓qj, ↓qk, ↓qm, ↓zs, ↓zp, ↓zr, ↓zt, ↓zq, ↓zl, ↓zm, ↓zk, ↓zo, ↓zn, ↓qq, ↓qp, ↓qw, ↓qx, ↓zg, ↓qy, ↓qv, ↓qr, ↓zh, ↓qu, ↓qt, ↓qs, ↓qz, ↓zb, ↓za, ↓zd, ↓ze, ↓zf, ↓zw, ↓zu, ↓zy, ↓zx, ↓qb, ↓qa, ↓qd, ↓qc, ↓qe, ↓qg, ↓qf, ↓zj, ↓zi]
  refine y_kind hP hS (by simp [hp]) hI (PK.bind h (fun ts' e h => ?_) (fun a ts' ha h => ?_))
  · simp
    exact leave_p hp hm h (by simp) (by simp [hp])
  simp [hp, hS, hI.factors, hI.editions, hI.mosts, hI.weights, hI.anyN, ↓ql, ↓qn, ↓qo, ↓qi, ↓qh, ↓qj, ↓qk, ↓qm, ↓zs, ↓zp, ↓zr, ↓zt, ↓zq, ↓zl, ↓zm, ↓zk, ↓zo, ↓zn, ↓qq, ↓qp, ↓qw, ↓qx, ↓zg, ↓qy, ↓qv, ↓qr, ↓zh, ↓qu, ↓qt, ↓qs, ↓qz, ↓zb, ↓za, ↓zd, ↓ze, ↓zf, ↓zw, ↓zu, ↓zy, ↓zx, ↓qb, ↓qa, ↓qd, ↓qc, ↓qe, ↓qg, ↓qf, ↓zj, ↓zi]
  refine y_weights hP hS (by simp [hp]) hI (PK.bind h (fun ts' e h => ?_) (fun l ts' ha h => ?_))
  · simp
    exact leave_p hp hm h (by simp) (by simp [hp])
  obtain ⟨a0, b0, c0, d0, rfl⟩ := weights_four ha
  simp [hp, hS, ↓ql, ↓qn, ↓qo, ↓qi, ↓qh, ↓qj, ↓qk, ↓qm, ↓zs, ↓zp, ↓zr, ↓zt, ↓zq, ↓zl, ↓zm, ↓zk, ↓zo, ↓zn, ↓qq, ↓qp, ↓qw, ↓qx, ↓zg, ↓qy, ↓qv, ↓qr, ↓zh, ↓qu, ↓qt, ↓qs, ↓qz, ↓zb, ↓za, ↓zd, ↓ze, ↓zf, ↓zw, ↓zu, ↓zy, ↓zx, ↓qb, ↓qa, ↓qd, ↓qc, ↓qe, ↓qg, ↓qf, ↓zj, ↓zi]
  refine y_sign hP hS (by simp [hp]) _ (PK.bind h (fun ts' e h => ?_) (fun a ts' ha h => ?_))
  · simp
    exact leave_p hp hm h (by simp) (by simp [hp])
  simp [hp, hS, hI.factors, hI.editions, hI.mosts, hI.weights, hI.anyN, ↓ql, ↓qn, ↓qo, ↓qi, ↓qh, ↓qj, ↓qk, ↓qm, ↓zs, ↓zp, ↓zr, ↓zt, ↓zq, ↓zl, ↓zm, ↓zk, ↓zo, ↓zn, ↓qq, ↓qp, ↓qw, ↓qx, ↓zg, ↓qy, ↓qv, ↓qr, ↓zh, ↓qu, ↓qt, ↓qs, ↓qz, ↓zb, ↓za, ↓zd, ↓ze, ↓zf, ↓zw, ↓zu, ↓zy, ↓zx, ↓qb, ↓qa, ↓qd, ↓qc, ↓qe, ↓qg, ↓qf, ↓zj, ↓zi]
  exact leave_p hp hm h (by simp) (by simp [hp])
theorem y_depend (h : PK K ob p en S (fun x => .d x.enc) (dependM ts)) : ACall P 67 [.ptr p []] ob K := by
  refine acall_lift hP mixed ok67 lf67 TOk.nil fun _ hm => ?_
  simp [lt67, hp, hS, ↓ql, ↓qn, ↓qo, ↓qi, ↓qh, ↓qj, ↓qk, ↓qm, ↓zs, ↓zp, ↓zr, ↓zt, ↓zq, ↓zl, ↓zm, ↓zk, ↓zo, ↓zn, ↓qq, ↓qp, ↓qw, ↓qx, ↓zg, ↓qy, ↓qv, ↓qr, ↓zh, ↓qu, ↓qt, ↓qs, ↓qz, ↓zb, ↓za, ↓zd, ↓ze, ↓zf, ↓zw, ↓zu, ↓zy, ↓zx, ↓qb, ↓qa, ↓qd, ↓qc, ↓qe, ↓qg, ↓qf, ↓zj, ↓zi]
  refine y_word hP hS (by simp [hp]) _ (PK.bind h (fun ts' e h => ?_) (fun a ts' ha h => ?_))
  · simp
    exact leave_p hp hm h (by simp) (by simp [hp])
  simp [hp, hS, ↓ql, ↓qn, ↓qo, ↓qi, ↓qh, ↓qj, ↓qk, ↓qm, ↓zs, ↓zp, ↓zr, ↓zt, ↓zq, ↓zl, ↓zm, ↓zk, ↓zo, ↓zn, ↓qq, ↓qp, ↓qw, ↓qx, ↓zg, ↓qy, ↓qv, ↓qr, ↓zh, ↓qu, ↓qt, ↓qs, ↓qz, ↓zb, ↓za, ↓zd, ↓ze, ↓zf, ↓zw, ↓zu, ↓zy, ↓zx, ↓qb, ↓qa, ↓qd, ↓qc, ↓qe, ↓qg, ↓qf, ↓zj, ↓zi]
  refine y_listed hP hS (by simp [hp]) 11 (by decide) (by decide) (PK.bind h (fun ts' e h => ?_) (fun l ts' ha h => ?_))
  · simp
    exact leave_p hp hm h (by simp) (by simp [hp])
  simp [hp, hS, strsD, ↓ql, ↓qn, ↓qo, ↓qi, ↓qh, ↓qj, ↓qk, ↓qm, ↓zs, ↓zp, ↓zr, ↓zt, ↓zq, ↓zl, ↓zm, ↓zk, ↓zo, ↓zn, ↓qq, ↓qp, ↓qw, ↓qx, ↓zg, ↓qy, ↓qv, ↓qr, ↓zh, ↓qu, ↓qt, ↓qs, ↓qz, ↓zb, ↓za, ↓zd, ↓ze, ↓zf, ↓zw, ↓zu, ↓zy, ↓zx, ↓qb, ↓qa, ↓qd, ↓qc, ↓qe, ↓qg, ↓qf, ↓zj, ↓zi]
  refine y_word hP hS (by simp [hp]) _ (PK.bind h (fun ts' e h => ?_) (fun a ts' ha h => ?_))
  · simp
    exact leave_p hp hm h (by simp) (by simp [hp])
  simp [hp, hS, ↓ql, ↓qn, ↓qo, ↓qi, ↓qh, ↓qj, ↓qk, ↓qm, ↓zs, ↓zp, ↓zr, ↓zt, ↓zq, ↓zl, ↓zm, ↓zk, ↓zo, ↓zn, ↓qq, ↓qp, ↓qw, ↓qx, ↓zg, ↓qy, ↓qv, ↓qr, ↓zh, ↓qu, ↓qt, ↓qs, ↓qz, ↓zb, ↓za, ↓zd, ↓ze, ↓zf, ↓zw, ↓zu, ↓zy, ↓zx, ↓qb, ↓qa, ↓qd, ↓qc, ↓qe, ↓qg, ↓qf, ↓zj, ↓zi]
  refine y_name hP hS (by simp [hp]) (PK.bind h (fun ts' e h => ?_) (fun a ts' ha h => ?_))
  · simp
    exact leave_p hp hm h (by simp) (by simp [hp])
  simp [hp, hS, ↓ql, ↓qn, ↓qo, ↓qi, ↓qh, ↓qj, ↓qk, ↓qm, ↓zs, ↓zp, ↓zr, ↓zt, ↓zq, ↓zl, ↓zm, ↓zk, ↓zo, ↓zn, ↓qq, ↓qp, ↓qw, ↓qx, ↓zg, ↓qy, ↓qv, ↓qr, ↓zh, ↓qu, ↓qt, ↓qs, ↓qz, ↓zb, ↓za, ↓zd, ↓ze, ↓zf, ↓zw, ↓zu, ↓zy, ↓zx, ↓qb, ↓qa, ↓qd, ↓qc, ↓qe, ↓qg, ↓qf, ↓zj, ↓zi]
  refine y_sign hP hS (by simp [hp]) _ (PK.bind h (fun ts' e h => ?_) (fun a ts' ha h => ?_))
  · simp
    exact leave_p hp hm h (by simp) (by simp [hp])
  simp [hp, hS, ↓ql, ↓qn, ↓qo, ↓qi, ↓qh, ↓qj, ↓qk, ↓qm, ↓zs, ↓zp, ↓zr, ↓zt, ↓zq, ↓zl, ↓zm, ↓zk, ↓zo, ↓zn, ↓qq, ↓qp, ↓qw, ↓qx, ↓zg, ↓qy, ↓qv, ↓qr, ↓zh, ↓qu, ↓qt, ↓qs, ↓qz, ↓zb, ↓za, ↓zd, ↓ze, ↓zf, ↓zw, ↓zu, ↓zy, ↓zx, ↓qb, ↓qa, ↓qd, ↓qc, ↓qe, ↓qg, ↓qf, ↓zj, ↓zi]
  exact leave_p hp hm h (by simp) (by simp [hp])
end
end Go.Proofs.YtanpgmgkmfckaaaGreatDoor
/- Contracts: the definitions. Condition: the program is the seat's, and its intervals are laid. -/
namespace Go.Proofs.YtanpgmgkmfckaaaGreatDoor
open Go Go.Ab Go.Lx Go.Sx
set_option maxRecDepth 100000
section
variable {P : Prg} (hP : P.p = Tryz.prog) (hI : Ivl P) {ts : List Tok} {en : Int} {s : Src} (hs : Few s) {K : Out → Objs → Prop}
include hP hI hs
theorem y_issuer (h : PS K en (issuerM s ts)) : ACall P 19 [.ptr 4 []] (stO en ts s) K := by
  refine acall_lift hP mixed ok19 lf19 TOk.nil fun _ hm => ?_
  simp [lt19, hI.factors, hI.editions, hI.mosts, hI.weights, hI.anyN, ↓ql, ↓qn, ↓qo, ↓qi, ↓qh, ↓qj, ↓qk, ↓qm, ↓zs, ↓zp, ↓zr, ↓zt, ↓zq, ↓zl, ↓zm, ↓zk, ↓zo, ↓zn, ↓qq, ↓qp, ↓qw, ↓qx, ↓zg, ↓qy, ↓qv, ↓qr, ↓zh, ↓qu, ↓qt, ↓qs, ↓qz, ↓zb, ↓za, ↓zd, ↓ze, ↓zf, ↓zw, ↓zu, ↓zy, ↓zx, ↓qb, ↓qa, ↓qd, ↓qc, ↓qe, ↓qg, ↓qf, ↓zj, ↓zi]
  refine y_room hP (S := srcV s) (by simp) (by simp) _ 8 (PS.bind h (fun ts' e h => ?_) (fun a ts' ha h => ?_))
  · simp
    exact leave_s (h s) (by simp) (by simp [young])
  simp [↓ql, ↓qn, ↓qo, ↓qi, ↓qh, ↓qj, ↓qk, ↓qm, ↓zs, ↓zp, ↓zr, ↓zt, ↓zq, ↓zl, ↓zm, ↓zk, ↓zo, ↓zn, ↓qq, ↓qp, ↓qw, ↓qx, ↓zg, ↓qy, ↓qv, ↓qr, ↓zh, ↓qu, ↓qt, ↓qs, ↓qz, ↓zb, ↓za, ↓zd, ↓ze, ↓zf, ↓zw, ↓zu, ↓zy, ↓zx, ↓qb, ↓qa, ↓qd, ↓qc, ↓qe, ↓qg, ↓qf, ↓zj, ↓zi, hI.factors, hI.editions, hI.mosts, hI.weights, hI.anyN]
  refine y_word hP (S := srcV s) (by simp) (by simp) _ (PS.bind h (fun ts' e h => ?_) (fun a ts' ha h => ?_))
  · simp
    exact leave_s (h s) (by simp) (by simp [young])
  simp [↓ql, ↓qn, ↓qo, ↓qi, ↓qh, ↓qj, ↓qk, ↓qm, ↓zs, ↓zp, ↓zr, ↓zt, ↓zq, ↓zl, ↓zm, ↓zk, ↓zo, ↓zn, ↓qq, ↓qp, ↓qw, ↓qx, ↓zg, ↓qy, ↓qv, ↓qr, ↓zh, ↓qu, ↓qt, ↓qs, ↓qz, ↓zb, ↓za, ↓zd, ↓ze, ↓zf, ↓zw, ↓zu, ↓zy, ↓zx, ↓qb, ↓qa, ↓qd, ↓qc, ↓qe, ↓qg, ↓qf, ↓zj, ↓zi, hI.factors, hI.editions, hI.mosts, hI.weights, hI.anyN]
  refine ⟨?_, ?_⟩
  · skip
    refine y_name hP (S := srcV s) (by simp) (by simp) (PS.bind h (fun ts' e h => ?_) (fun a ts' ha h => ?_))
    · simp
      exact leave_s (h s) (by simp) (by simp [young])
    simp [↓ql, ↓qn, ↓qo, ↓qi, ↓qh, ↓qj, ↓qk, ↓qm, ↓zs, ↓zp, ↓zr, ↓zt, ↓zq, ↓zl, ↓zm, ↓zk, ↓zo, ↓zn, ↓qq, ↓qp, ↓qw, ↓qx, ↓zg, ↓qy, ↓qv, ↓qr, ↓zh, ↓qu, ↓qt, ↓qs, ↓qz, ↓zb, ↓za, ↓zd, ↓ze, ↓zf, ↓zw, ↓zu, ↓zy, ↓zx, ↓qb, ↓qa, ↓qd, ↓qc, ↓qe, ↓qg, ↓qf, ↓zj, ↓zi, hI.factors, hI.editions, hI.mosts, hI.weights, hI.anyN]
    refine ⟨by have := hs.issuers; omega, ?_⟩
    refine y_sign hP (S := srcV { s with issuers := s.issuers ++ [a] }) (by simp) (by simp) _ (PS.bind h (fun ts' e h => ?_) (fun a ts' ha h => ?_))
    · simp
      exact leave_s (h { s with issuers := s.issuers ++ [a] }) (by simp) (by simp [young])
    simp [↓ql, ↓qn, ↓qo, ↓qi, ↓qh, ↓qj, ↓qk, ↓qm, ↓zs, ↓zp, ↓zr, ↓zt, ↓zq, ↓zl, ↓zm, ↓zk, ↓zo, ↓zn, ↓qq, ↓qp, ↓qw, ↓qx, ↓zg, ↓qy, ↓qv, ↓qr, ↓zh, ↓qu, ↓qt, ↓qs, ↓qz, ↓zb, ↓za, ↓zd, ↓ze, ↓zf, ↓zw, ↓zu, ↓zy, ↓zx, ↓qb, ↓qa, ↓qd, ↓qc, ↓qe, ↓qg, ↓qf, ↓zj, ↓zi, hI.factors, hI.editions, hI.mosts, hI.weights, hI.anyN]
    exact leave_s h (by simp) (by simp)
  · skip
    refine y_name hP (S := srcV s) (by simp) (by simp) (PS.bind h (fun ts' e h => ?_) (fun a ts' ha h => ?_))
    · simp
      exact leave_s (h s) (by simp) (by simp [young])
    simp [↓ql, ↓qn, ↓qo, ↓qi, ↓qh, ↓qj, ↓qk, ↓qm, ↓zs, ↓zp, ↓zr, ↓zt, ↓zq, ↓zl, ↓zm, ↓zk, ↓zo, ↓zn, ↓qq, ↓qp, ↓qw, ↓qx, ↓zg, ↓qy, ↓qv, ↓qr, ↓zh, ↓qu, ↓qt, ↓qs, ↓qz, ↓zb, ↓za, ↓zd, ↓ze, ↓zf, ↓zw, ↓zu, ↓zy, ↓zx, ↓qb, ↓qa, ↓qd, ↓qc, ↓qe, ↓qg, ↓qf, ↓zj, ↓zi, hI.factors, hI.editions, hI.mosts, hI.weights, hI.anyN]
    refine ⟨by have := hs.issuers; omega, ?_⟩
    refine y_sign hP (S := srcV { s with issuers := s.issuers ++ [a] }) (by simp) (by simp) _ (PS.bind h (fun ts' e h => ?_) (fun a ts' ha h => ?_))
    · simp
      exact leave_s (h { s with issuers := s.issuers ++ [a] }) (by simp) (by simp [young])
    simp [↓ql, ↓qn, ↓qo, ↓qi, ↓qh, ↓qj, ↓qk, ↓qm, ↓zs, ↓zp, ↓zr, ↓zt, ↓zq, ↓zl, ↓zm, ↓zk, ↓zo, ↓zn, ↓qq, ↓qp, ↓qw, ↓qx, ↓zg, ↓qy, ↓qv, ↓qr, ↓zh, ↓qu, ↓qt, ↓qs, ↓qz, ↓zb, ↓za, ↓zd, ↓ze, ↓zf, ↓zw, ↓zu, ↓zy, ↓zx, ↓qb, ↓qa, ↓qd, ↓qc, ↓qe, ↓qg, ↓qf, ↓zj, ↓zi, hI.factors, hI.editions, hI.mosts, hI.weights, hI.anyN]
    exact leave_s h (by simp) (by simp)
end
end Go.Proofs.YtanpgmgkmfckaaaGreatDoor
/- Contracts: the definitions. Condition: the program is the seat's, and its intervals are laid. -/
namespace Go.Proofs.YtanpgmgkmfckaaaGreatDoor
open Go Go.Ab Go.Lx Go.Sx
set_option maxRecDepth 100000
section
variable {P : Prg} (hP : P.p = Tryz.prog) (hI : Ivl P) {ts : List Tok} {en : Int} {s : Src} (hs : Few s) {K : Out → Objs → Prop}
include hP hI hs
theorem y_unit (h : PS K en (unitM s ts)) : ACall P 20 [.ptr 4 []] (stO en ts s) K := by
  refine acall_lift hP mixed ok20 lf20 TOk.nil fun _ hm => ?_
  simp [lt20, hI.factors, hI.editions, hI.mosts, hI.weights, hI.anyN, ↓ql, ↓qn, ↓qo, ↓qi, ↓qh, ↓qj, ↓qk, ↓qm, ↓zs, ↓zp, ↓zr, ↓zt, ↓zq, ↓zl, ↓zm, ↓zk, ↓zo, ↓zn, ↓qq, ↓qp, ↓qw, ↓qx, ↓zg, ↓qy, ↓qv, ↓qr, ↓zh, ↓qu, ↓qt, ↓qs, ↓qz, ↓zb, ↓za, ↓zd, ↓ze, ↓zf, ↓zw, ↓zu, ↓zy, ↓zx, ↓qb, ↓qa, ↓qd, ↓qc, ↓qe, ↓qg, ↓qf, ↓zj, ↓zi]
  refine y_room hP (S := srcV s) (by simp) (by simp) _ 16 (PS.bind h (fun ts' e h => ?_) (fun a ts' ha h => ?_))
  · simp
    exact leave_s (h s) (by simp) (by simp [young])
  simp [↓ql, ↓qn, ↓qo, ↓qi, ↓qh, ↓qj, ↓qk, ↓qm, ↓zs, ↓zp, ↓zr, ↓zt, ↓zq, ↓zl, ↓zm, ↓zk, ↓zo, ↓zn, ↓qq, ↓qp, ↓qw, ↓qx, ↓zg, ↓qy, ↓qv, ↓qr, ↓zh, ↓qu, ↓qt, ↓qs, ↓qz, ↓zb, ↓za, ↓zd, ↓ze, ↓zf, ↓zw, ↓zu, ↓zy, ↓zx, ↓qb, ↓qa, ↓qd, ↓qc, ↓qe, ↓qg, ↓qf, ↓zj, ↓zi, hI.factors, hI.editions, hI.mosts, hI.weights, hI.anyN]
  refine y_word hP (S := srcV s) (by simp) (by simp) _ (PS.bind h (fun ts' e h => ?_) (fun a ts' ha h => ?_))
  · simp
    exact leave_s (h s) (by simp) (by simp [young])
  simp [↓ql, ↓qn, ↓qo, ↓qi, ↓qh, ↓qj, ↓qk, ↓qm, ↓zs, ↓zp, ↓zr, ↓zt, ↓zq, ↓zl, ↓zm, ↓zk, ↓zo, ↓zn, ↓qq, ↓qp, ↓qw, ↓qx, ↓zg, ↓qy, ↓qv, ↓qr, ↓zh, ↓qu, ↓qt, ↓qs, ↓qz, ↓zb, ↓za, ↓zd, ↓ze, ↓zf, ↓zw, ↓zu, ↓zy, ↓zx, ↓qb, ↓qa, ↓qd, ↓qc, ↓qe, ↓qg, ↓qf, ↓zj, ↓zi, hI.factors, hI.editions, hI.mosts, hI.weights, hI.anyN]
  refine y_name hP (S := srcV s) (by simp) (by simp) (PS.bind h (fun ts' e h => ?_) (fun a ts' ha h => ?_))
  · simp
    exact leave_s (h s) (by simp) (by simp [young])
  simp [↓ql, ↓qn, ↓qo, ↓qi, ↓qh, ↓qj, ↓qk, ↓qm, ↓zs, ↓zp, ↓zr, ↓zt, ↓zq, ↓zl, ↓zm, ↓zk, ↓zo, ↓zn, ↓qq, ↓qp, ↓qw, ↓qx, ↓zg, ↓qy, ↓qv, ↓qr, ↓zh, ↓qu, ↓qt, ↓qs, ↓qz, ↓zb, ↓za, ↓zd, ↓ze, ↓zf, ↓zw, ↓zu, ↓zy, ↓zx, ↓qb, ↓qa, ↓qd, ↓qc, ↓qe, ↓qg, ↓qf, ↓zj, ↓zi, hI.factors, hI.editions, hI.mosts, hI.weights, hI.anyN]
  refine y_accept hP (S := srcV s) (by simp) (by simp) _ _ (PS.bind h (fun ts' e h => ?_) (fun a ts' ha h => ?_))
  · simp
    exact leave_s (h s) (by simp) (by simp [young])
  cases a
  · skip
    simp only [Bool.false_eq_true, if_false, if_true, massoc, mpure] at h
    simp [↓ql, ↓qn, ↓qo, ↓qi, ↓qh, ↓qj, ↓qk, ↓qm, ↓zs, ↓zp, ↓zr, ↓zt, ↓zq, ↓zl, ↓zm, ↓zk, ↓zo, ↓zn, ↓qq, ↓qp, ↓qw, ↓qx, ↓zg, ↓qy, ↓qv, ↓qr, ↓zh, ↓qu, ↓qt, ↓qs, ↓qz, ↓zb, ↓za, ↓zd, ↓ze, ↓zf, ↓zw, ↓zu, ↓zy, ↓zx, ↓qb, ↓qa, ↓qd, ↓qc, ↓qe, ↓qg, ↓qf, ↓zj, ↓zi, hI.factors, hI.editions, hI.mosts, hI.weights, hI.anyN, lt20_s0]
    refine y_sign hP (S := srcV s) (by simp) (by simp) _ (PS.bind h (fun ts' e h => ?_) (fun a ts' ha h => ?_))
    · simp
      exact leave_s (h s) (by simp) (by simp [young])
    simp [↓ql, ↓qn, ↓qo, ↓qi, ↓qh, ↓qj, ↓qk, ↓qm, ↓zs, ↓zp, ↓zr, ↓zt, ↓zq, ↓zl, ↓zm, ↓zk, ↓zo, ↓zn, ↓qq, ↓qp, ↓qw, ↓qx, ↓zg, ↓qy, ↓qv, ↓qr, ↓zh, ↓qu, ↓qt, ↓qs, ↓qz, ↓zb, ↓za, ↓zd, ↓ze, ↓zf, ↓zw, ↓zu, ↓zy, ↓zx, ↓qb, ↓qa, ↓qd, ↓qc, ↓qe, ↓qg, ↓qf, ↓zj, ↓zi, hI.factors, hI.editions, hI.mosts, hI.weights, hI.anyN]
    refine ⟨by have := hs.units; omega, ?_⟩
    exact leave_s h (by simp) (by simp [young, UnitT.enc])
  · skip
    simp only [Bool.false_eq_true, if_false, if_true, massoc, mpure] at h
    simp [↓ql, ↓qn, ↓qo, ↓qi, ↓qh, ↓qj, ↓qk, ↓qm, ↓zs, ↓zp, ↓zr, ↓zt, ↓zq, ↓zl, ↓zm, ↓zk, ↓zo, ↓zn, ↓qq, ↓qp, ↓qw, ↓qx, ↓zg, ↓qy, ↓qv, ↓qr, ↓zh, ↓qu, ↓qt, ↓qs, ↓qz, ↓zb, ↓za, ↓zd, ↓ze, ↓zf, ↓zw, ↓zu, ↓zy, ↓zx, ↓qb, ↓qa, ↓qd, ↓qc, ↓qe, ↓qg, ↓qf, ↓zj, ↓zi, hI.factors, hI.editions, hI.mosts, hI.weights, hI.anyN]
    refine y_number hP (S := srcV s) (by simp) (by simp) _ _ (PS.bind h (fun ts' e h => ?_) (fun a ts' ha h => ?_))
    · simp
      exact leave_s (h s) (by simp) (by simp [young])
    simp [↓ql, ↓qn, ↓qo, ↓qi, ↓qh, ↓qj, ↓qk, ↓qm, ↓zs, ↓zp, ↓zr, ↓zt, ↓zq, ↓zl, ↓zm, ↓zk, ↓zo, ↓zn, ↓qq, ↓qp, ↓qw, ↓qx, ↓zg, ↓qy, ↓qv, ↓qr, ↓zh, ↓qu, ↓qt, ↓qs, ↓qz, ↓zb, ↓za, ↓zd, ↓ze, ↓zf, ↓zw, ↓zu, ↓zy, ↓zx, ↓qb, ↓qa, ↓qd, ↓qc, ↓qe, ↓qg, ↓qf, ↓zj, ↓zi, hI.factors, hI.editions, hI.mosts, hI.weights, hI.anyN]
    refine y_name hP (S := srcV s) (by simp) (by simp) (PS.bind h (fun ts' e h => ?_) (fun a ts' ha h => ?_))
    · simp
      exact leave_s (h s) (by simp) (by simp [young])
    simp [↓ql, ↓qn, ↓qo, ↓qi, ↓qh, ↓qj, ↓qk, ↓qm, ↓zs, ↓zp, ↓zr, ↓zt, ↓zq, ↓zl, ↓zm, ↓zk, ↓zo, ↓zn, ↓qq, ↓qp, ↓qw, ↓qx, ↓zg, ↓qy, ↓qv, ↓qr, ↓zh, ↓qu, ↓qt, ↓qs, ↓qz, ↓zb, ↓za, ↓zd, ↓ze, ↓zf, ↓zw, ↓zu, ↓zy, ↓zx, ↓qb, ↓qa, ↓qd, ↓qc, ↓qe, ↓qg, ↓qf, ↓zj, ↓zi, hI.factors, hI.editions, hI.mosts, hI.weights, hI.anyN, lt20_s0]
    refine y_sign hP (S := srcV s) (by simp) (by simp) _ (PS.bind h (fun ts' e h => ?_) (fun a ts' ha h => ?_))
    · simp
      exact leave_s (h s) (by simp) (by simp [young])
    simp [↓ql, ↓qn, ↓qo, ↓qi, ↓qh, ↓qj, ↓qk, ↓qm, ↓zs, ↓zp, ↓zr, ↓zt, ↓zq, ↓zl, ↓zm, ↓zk, ↓zo, ↓zn, ↓qq, ↓qp, ↓qw, ↓qx, ↓zg, ↓qy, ↓qv, ↓qr, ↓zh, ↓qu, ↓qt, ↓qs, ↓qz, ↓zb, ↓za, ↓zd, ↓ze, ↓zf, ↓zw, ↓zu, ↓zy, ↓zx, ↓qb, ↓qa, ↓qd, ↓qc, ↓qe, ↓qg, ↓qf, ↓zj, ↓zi, hI.factors, hI.editions, hI.mosts, hI.weights, hI.anyN]
    refine ⟨by have := hs.units; omega, ?_⟩
    exact leave_s h (by simp) (by simp [young, UnitT.enc])
end
end Go.Proofs.YtanpgmgkmfckaaaGreatDoor
/- The abstract statements that stand for the code of these functions, written by a program from the translation; that they do is checked by the kernel. No condition. -/
namespace Go.Proofs.YtanpgmgkmfckaaaGreatDoor
open Go Go.Ab
set_option maxRecDepth 100000
def ir9_s0 : S := .rg [] [.op (some 57) (.c (.mv (.t 8))),
   .op (some 58) (.c (.mv (.t 7))),
   .op (some 59) (.callv (.t 57) [(.t 58)])] [2, 3, 4, 6, 7] [2, 3, 4]
def ir9_l1 : S := .seq (.seq (.rg [] [.op (some 28) (.c (.mv (.t 7))),
   .op (some 29) (.c (.nilc (.t 28))),
   .op (some 30) (.c (.fldA 0 0 (.t 29))),
   .op (some 31) (.c (.ld 1 false (.t 30))),
   .op (some 32) (.c (.lenL (.t 31))),
   .op (some 33) (.c (.bin .gtr (.t 32) (.int .i64 0)))] [2, 3, 4, 6, 7, 33] [2, 3, 4])
 (.cond (.t 33) (.skip) (.exit 0)))
 (.block 1 (.seq (.rg [] [.op (some 34) (.c (.mv (.t 6))),
   .op (some 35) (.c (.mv (.t 7))),
   .op (some 36) (.c (.nilc (.t 35))),
   .op (some 37) (.c (.fldA 0 0 (.t 36))),
   .op (some 38) (.c (.ld 1 false (.t 37))),
   .op (some 39) (.c (.idxA 4 (.t 38) (.int .i64 0))),
   .op (some 40) (.c (.fldA 1 1 (.t 39))),
   .op (some 41) (.c (.ld 1 false (.t 40))),
   .op (some 42) (.lkp (.str []) (.nilf) false (.t 34) (.t 41)),
   .op (some 8) (.c (.mv (.t 42)))] [2, 3, 4, 6, 7, 8] [2, 3, 4])
 (.seq (.seq (.rg [] [.op (some 43) (.c (.mv (.t 8))),
   .op (some 44) (.c (.fnil true (.t 43))),
   .op (some 45) (.c (.mv (.t 44))),
   .gop 45 false (some 46) (.c (.mv (.t 7))),
   .gop 45 false (some 47) (.c (.nilc (.t 46))),
   .gop 45 false (some 48) (.c (.fldA 0 0 (.t 47))),
   .gop 45 false (some 49) (.c (.ld 1 false (.t 48))),
   .gop 45 false (some 50) (.c (.idxA 4 (.t 49) (.int .i64 0))),
   .gop 45 false (some 51) (.c (.fldA 0 0 (.t 50))),
   .gop 45 false (some 52) (.c (.ld 1 false (.t 51))),
   .gop 45 false (some 53) (.c (.bin .neq (.t 52) (.int .i64 1))),
   .op (some 54) (.c (.pick (.t 45) (.bool true) (.t 53)))] [2, 3, 4, 6, 7, 8, 54] [2, 3, 4])
 (.cond (.t 54) (.rg [] [.op (some 55) (.c (.mv (.t 7))),
   .op (some 56) (.call 25 [(.t 55), (.int .i64 100)])] [2, 3, 4, 6, 7, 8] [2, 3, 4]) (.skip)))
 (ir9_s0))))
def ir9 : FSt := .pre (.rg [] [.op (some 2) (.alloc 30 (.agg [.nils, .nils, .nils, .nils, .nils, .nils])),
   .op (some 3) (.alloc 3 (.int .i64 0)),
   .op (some 4) (.alloc 31 (.int .i64 0))] [0, 2, 3, 4] [])
 (.pre (.rg [] [.op (some 10) (.c (.mv (.t 0))),
   .op (some 11) (.pcall 15 [(.t 10)]),
   .op (some 9) (.c (.mv (.t 11))),
   .op (some 12) (.c (.ext (.t 9) 0)),
   .op (some 13) (.c (.ext (.t 9) 1)),
   .op (some 14) (.c (.ext (.t 9) 2)),
   .op (some 5) (.c (.mv (.t 12))),
   .op none (.st 1 (.t 3) (.t 13)),
   .op none (.st 1 (.t 4) (.t 14))] [0, 2, 3, 4, 5] [])
 (.pre (.seq (.rg [] [.op (some 15) (.c (.ld 1 false (.t 4))),
   .op (some 16) (.c (.bin .neq (.t 15) (.int .i64 0)))] [0, 2, 3, 4, 5, 16] [])
 (.cond (.t 16) (.seq (.rgT 6 (.one 0 (.op (some 17) (.c (.ld 6 true (.t 2))))
  (.br (.cons 1 (.op (some 18) (.c (.ld 1 false (.t 3)))) (.br (.cons 2 (.op (some 19) (.c (.ld 1 false (.t 4)))) (.one 3 (.op none (.st 6 (.t 2) (.t 17)))
  (.one 4 (.op none (.st 1 (.t 3) (.t 18)))
  (.one 5 (.op none (.st 1 (.t 4) (.t 19)))
  (.done))))
  (.cons 3 (.op none (.st 6 (.t 2) (.t 17))) (.br (.cons 2 (.op (some 19) (.c (.ld 1 false (.t 4)))) (.one 4 (.op none (.st 1 (.t 3) (.t 18)))
  (.one 5 (.op none (.st 1 (.t 4) (.t 19)))
  (.done)))
  (.cons 4 (.op none (.st 1 (.t 3) (.t 18))) (.br (.cons 2 (.op (some 19) (.c (.ld 1 false (.t 4)))) (.one 5 (.op none (.st 1 (.t 4) (.t 19)))
  (.done))
  (.nil)))
  (.nil))))
  (.nil))))
  (.cons 2 (.op (some 19) (.c (.ld 1 false (.t 4)))) (.br (.cons 1 (.op (some 18) (.c (.ld 1 false (.t 3)))) (.one 3 (.op none (.st 6 (.t 2) (.t 17)))
  (.one 4 (.op none (.st 1 (.t 3) (.t 18)))
  (.one 5 (.op none (.st 1 (.t 4) (.t 19)))
  (.done))))
  (.cons 3 (.op none (.st 6 (.t 2) (.t 17))) (.br (.cons 1 (.op (some 18) (.c (.ld 1 false (.t 3)))) (.one 4 (.op none (.st 1 (.t 3) (.t 18)))
  (.one 5 (.op none (.st 1 (.t 4) (.t 19)))
  (.done)))
  (.nil)))
  (.nil))))
  (.cons 3 (.op none (.st 6 (.t 2) (.t 17))) (.br (.cons 1 (.op (some 18) (.c (.ld 1 false (.t 3)))) (.br (.cons 2 (.op (some 19) (.c (.ld 1 false (.t 4)))) (.one 4 (.op none (.st 1 (.t 3) (.t 18)))
  (.one 5 (.op none (.st 1 (.t 4) (.t 19)))
  (.done)))
  (.cons 4 (.op none (.st 1 (.t 3) (.t 18))) (.br (.cons 2 (.op (some 19) (.c (.ld 1 false (.t 4)))) (.one 5 (.op none (.st 1 (.t 4) (.t 19)))
  (.done))
  (.nil)))
  (.nil))))
  (.cons 2 (.op (some 19) (.c (.ld 1 false (.t 4)))) (.br (.cons 1 (.op (some 18) (.c (.ld 1 false (.t 3)))) (.one 4 (.op none (.st 1 (.t 3) (.t 18)))
  (.one 5 (.op none (.st 1 (.t 4) (.t 19)))
  (.done)))
  (.nil)))
  (.nil))))
  (.nil)))))) [2, 3, 4] [])
 (.ret)) (.skip)))
 (.dfr [.op (some 20) (.c (.mkf 18 [] [(.t 2), (.t 3), (.t 4)]))] [0, 2, 3, 4, 5, 20] 20
 (.seq (.rg [] [.op (some 21) (.mkm none),
   .op none (.mset (.str []) (.t 21) (.str [105, 115, 115, 117, 101, 114]) (.fn 19)),
   .op none (.mset (.str []) (.t 21) (.str [117, 110, 105, 116]) (.fn 20)),
   .op none (.mset (.str []) (.t 21) (.str [115, 99, 104, 101, 109, 97]) (.fn 21)),
   .op none (.mset (.str []) (.t 21) (.str [100, 101, 114, 105, 118, 101]) (.fn 22)),
   .op none (.mset (.str []) (.t 21) (.str [99, 111, 110, 118, 101, 114, 116]) (.fn 23)),
   .op none (.mset (.str []) (.t 21) (.str [112, 117, 114, 112, 111, 115, 101]) (.fn 24)),
   .op (some 22) (.c (.mv (.t 21))),
   .op (some 6) (.c (.mv (.t 22)))] [0, 2, 3, 4, 5, 6] [2, 3, 4])
 (.seq (.rg [] [.op (some 23) (.c (.mv (.t 5))),
   .op (some 24) (.c (.mv (.t 0))),
   .op (some 25) (.c (.lenS (.t 24))),
   .op (some 26) (.c (.bld [.nils, .int .i64 0, .agg [.nils, .nils, .nils, .nils, .nils, .nils]] [(0, (.t 23)), (1, (.t 25))])),
   .op (some 27) (.box 66 (.t 26)),
   .op (some 7) (.mvn (.t 27) (.t 27) [(9, 1, [2, 0]), (74, 5, [2, 1]), (79, 6, [2, 2]), (50, 5, [2, 3]), (84, 5, [2, 4]), (88, 3, [2, 5])])] [2, 3, 4, 6, 7] [2, 3, 4])
 (.seq (.block 0 (.loop [2, 3, 4, 6, 7] ir9_l1))
 (.seq (.rg [] [.op (some 60) (.c (.mv (.t 7))),
   .op (some 61) (.c (.nilc (.t 60))),
   .op (some 62) (.c (.fldA 2 2 (.t 61))),
   .op (some 63) (.ldf 6 true (.t 62)),
   .op none (.st 6 (.t 2) (.t 63)),
   .op none (.st 1 (.t 3) (.int .i64 0)),
   .op none (.st 1 (.t 4) (.int .i64 0))] [2, 3, 4] [2, 3, 4])
 (.ret))))))))
theorem ok9 : fnOkD Tryz.prog 9 1 ir9 [.c 2 6 true, .c 3 1 false, .c 4 1 false] = true := by kernel_rfl
def ir21_s0 : S := .rgT 8 (.one 0 (.op (some 53) (.c (.fldA 4 4 (.t 2))))
  (.one 2 (.op (some 55) (.c (.mv (.t 0))))
  (.br (.cons 1 (.op (some 54) (.c (.ld 1 false (.t 53)))) (.one 3 (.op (some 56) (.call 66 [(.t 55)]))
  (.one 4 (.op (some 57) (.bls 11 [.agg [.str [], .agg [.int .i64 0, .int .i64 0, .int .i64 0, .str [], .int .i64 0, .nils], .agg (List.replicate 4 (.int .i64 0))]] [(0, (.t 56))]))
  (.one 5 (.op (some 58) (.app 93 11 120 (.t 54) (.t 57)))
  (.one 6 (.op (some 59) (.c (.fldA 4 4 (.t 2))))
  (.one 7 (.op none (.st 1 (.t 59) (.t 58)))
  (.done))))))
  (.cons 3 (.op (some 56) (.call 66 [(.t 55)])) (.br (.cons 1 (.op (some 54) (.c (.ld 1 false (.t 53)))) (.one 4 (.op (some 57) (.bls 11 [.agg [.str [], .agg [.int .i64 0, .int .i64 0, .int .i64 0, .str [], .int .i64 0, .nils], .agg (List.replicate 4 (.int .i64 0))]] [(0, (.t 56))]))
  (.one 5 (.op (some 58) (.app 93 11 120 (.t 54) (.t 57)))
  (.one 6 (.op (some 59) (.c (.fldA 4 4 (.t 2))))
  (.one 7 (.op none (.st 1 (.t 59) (.t 58)))
  (.done)))))
  (.cons 4 (.op (some 57) (.bls 11 [.agg [.str [], .agg [.int .i64 0, .int .i64 0, .int .i64 0, .str [], .int .i64 0, .nils], .agg (List.replicate 4 (.int .i64 0))]] [(0, (.t 56))])) (.br (.cons 1 (.op (some 54) (.c (.ld 1 false (.t 53)))) (.one 5 (.op (some 58) (.app 93 11 120 (.t 54) (.t 57)))
  (.one 6 (.op (some 59) (.c (.fldA 4 4 (.t 2))))
  (.one 7 (.op none (.st 1 (.t 59) (.t 58)))
  (.done))))
  (.nil)))
  (.nil))))
  (.nil)))))) [0, 2] []
def ir21_s1 : S := .rgT 8 (.one 0 (.op (some 68) (.c (.fldA 5 5 (.t 2))))
  (.one 2 (.op (some 70) (.c (.mv (.t 0))))
  (.br (.cons 1 (.op (some 69) (.c (.ld 1 false (.t 68)))) (.one 3 (.op (some 71) (.call 67 [(.t 70)]))
  (.one 4 (.op (some 72) (.bls 4 [.agg [.nils, .str [], .nils, .int .i64 0]] [(0, (.t 71))]))
  (.one 5 (.op (some 73) (.app 96 4 72 (.t 69) (.t 72)))
  (.one 6 (.op (some 74) (.c (.fldA 5 5 (.t 2))))
  (.one 7 (.op none (.st 1 (.t 74) (.t 73)))
  (.done))))))
  (.cons 3 (.op (some 71) (.call 67 [(.t 70)])) (.br (.cons 1 (.op (some 69) (.c (.ld 1 false (.t 68)))) (.one 4 (.op (some 72) (.bls 4 [.agg [.nils, .str [], .nils, .int .i64 0]] [(0, (.t 71))]))
  (.one 5 (.op (some 73) (.app 96 4 72 (.t 69) (.t 72)))
  (.one 6 (.op (some 74) (.c (.fldA 5 5 (.t 2))))
  (.one 7 (.op none (.st 1 (.t 74) (.t 73)))
  (.done)))))
  (.cons 4 (.op (some 72) (.bls 4 [.agg [.nils, .str [], .nils, .int .i64 0]] [(0, (.t 71))])) (.br (.cons 1 (.op (some 69) (.c (.ld 1 false (.t 68)))) (.one 5 (.op (some 73) (.app 96 4 72 (.t 69) (.t 72)))
  (.one 6 (.op (some 74) (.c (.fldA 5 5 (.t 2))))
  (.one 7 (.op none (.st 1 (.t 74) (.t 73)))
  (.done))))
  (.nil)))
  (.nil))))
  (.nil)))))) [0, 2] []
def ir21_s2 : S := .cond (.t 60) (.seq (.rg [] [.op (some 63) (.c (.mv (.t 0))),
   .op (some 64) (.c (.fldA 5 5 (.t 2))),
   .op (some 65) (.c (.ld 1 false (.t 64))),
   .op (some 66) (.c (.lenL (.t 65))),
   .op (some 67) (.call 58 [(.t 63), (.t 66), (.int .i64 8)])] [0, 2] [])
 (ir21_s1)) (.rg [] [.op (some 43) (.c (.mv (.t 0))),
   .op (some 44) (.call 25 [(.t 43), (.int .i64 100)])] [0, 2] [])
def ir21_s3 : S := .cond (.t 45) (.seq (.rg [] [.op (some 48) (.c (.mv (.t 0))),
   .op (some 49) (.c (.fldA 4 4 (.t 2))),
   .op (some 50) (.c (.ld 1 false (.t 49))),
   .op (some 51) (.c (.lenL (.t 50))),
   .op (some 52) (.call 58 [(.t 48), (.t 51), (.int .i64 12)])] [0, 2] [])
 (ir21_s0)) (.seq (.rg [] [.op (some 61) (.c (.mv (.t 0))),
   .op (some 62) (.call 65 [(.t 61), (.int .i64 1), (.str [100, 101, 112, 101, 110, 100])]),
   .op (some 60) (.c (.mv (.t 62)))] [0, 2, 60] [])
 (ir21_s2))
def ir21_s4 : S := .cond (.t 42) (.skip) (.exit 0)
def ir21_s5 : S := .block 1 (.block 2 (.seq (.rg [] [.op (some 46) (.c (.mv (.t 0))),
   .op (some 47) (.call 65 [(.t 46), (.int .i64 1), (.str [102, 105, 101, 108, 100])]),
   .op (some 45) (.c (.mv (.t 47)))] [0, 2, 45] [])
 (ir21_s3)))
def ir21_l6 : S := .seq (.seq (.rg [] [.op (some 40) (.c (.mv (.t 0))),
   .op (some 41) (.call 62 [(.t 40), (.int .i64 3), (.str [125])]),
   .op (some 42) (.c (.not (.t 41)))] [0, 2, 42] [])
 (ir21_s4))
 (ir21_s5)
def ir21_s7 : S := .seq (.block 0 (.loop [0, 2] ir21_l6))
 (.rgT 13 (.one 0 (.op (some 75) (.c (.mv (.t 0))))
  (.one 1 (.op (some 76) (.c (.mv (.t 0))))
  (.one 2 (.op (some 77) (.c (.nilc (.t 76))))
  (.one 3 (.op (some 78) (.c (.fldA 2 2 (.t 77))))
  (.one 4 (.op (some 79) (.c (.fldA 2 2 (.t 78))))
  (.br (.cons 5 (.op (some 80) (.c (.ld 1 false (.t 79)))) (.one 6 (.op (some 81) (.ldf 6 true (.t 2)))
  (.one 7 (.op (some 82) (.bls 6 [.agg [.str [], .str [], .int .i64 0, .int .i64 0, .nils, .nils]] [(0, (.t 81))]))
  (.one 8 (.op (some 83) (.app 79 6 96 (.t 80) (.t 82)))
  (.one 9 (.op (some 84) (.c (.nilc (.t 75))))
  (.one 10 (.op (some 85) (.c (.fldA 2 2 (.t 84))))
  (.one 11 (.op (some 86) (.c (.fldA 2 2 (.t 85))))
  (.one 12 (.op none (.st 1 (.t 86) (.t 83)))
  (.done))))))))
  (.cons 6 (.op (some 81) (.ldf 6 true (.t 2))) (.br (.cons 5 (.op (some 80) (.c (.ld 1 false (.t 79)))) (.one 7 (.op (some 82) (.bls 6 [.agg [.str [], .str [], .int .i64 0, .int .i64 0, .nils, .nils]] [(0, (.t 81))]))
  (.one 8 (.op (some 83) (.app 79 6 96 (.t 80) (.t 82)))
  (.one 9 (.op (some 84) (.c (.nilc (.t 75))))
  (.one 10 (.op (some 85) (.c (.fldA 2 2 (.t 84))))
  (.one 11 (.op (some 86) (.c (.fldA 2 2 (.t 85))))
  (.one 12 (.op none (.st 1 (.t 86) (.t 83)))
  (.done)))))))
  (.cons 7 (.op (some 82) (.bls 6 [.agg [.str [], .str [], .int .i64 0, .int .i64 0, .nils, .nils]] [(0, (.t 81))])) (.br (.cons 5 (.op (some 80) (.c (.ld 1 false (.t 79)))) (.one 8 (.op (some 83) (.app 79 6 96 (.t 80) (.t 82)))
  (.one 9 (.op (some 84) (.c (.nilc (.t 75))))
  (.one 10 (.op (some 85) (.c (.fldA 2 2 (.t 84))))
  (.one 11 (.op (some 86) (.c (.fldA 2 2 (.t 85))))
  (.one 12 (.op none (.st 1 (.t 86) (.t 83)))
  (.done))))))
  (.nil)))
  (.nil))))
  (.nil))))))))) [] [])
def ir21_s8 : S := .seq (.rg [] [.op (some 35) (.c (.ld 11 true (.t 3))),
   .op (some 36) (.blo 93 11 [.agg [.str [], .agg [.int .i64 0, .int .i64 0, .int .i64 0, .str [], .int .i64 0, .nils], .agg (List.replicate 4 (.int .i64 0))]] [(0, (.t 35))]),
   .op (some 37) (.c (.fldA 4 4 (.t 2))),
   .op none (.st 1 (.t 37) (.t 36))] [0, 2] [])
 (.seq (.rg [] [.op (some 38) (.mvg 96 4 (.t 0) (.t 2) [5]),
   .op (some 39) (.call 61 [(.t 38), (.str [123])])] [0, 2] [])
 (ir21_s7))
def ir21_s9 : S := .seq (.rg [] [.op (some 30) (.c (.bld [.int .i64 0, .int .i64 0, .int .i64 0, .str [], .int .i64 0, .nils] [(0, (.int .i64 3)), (2, (.int .i64 4095))])),
   .op (some 31) (.c (.bld [.str [], .agg [.int .i64 0, .int .i64 0, .int .i64 0, .str [], .int .i64 0, .nils], .agg (List.replicate 4 (.int .i64 0))] [(0, (.str [115, 101, 108, 102])), (1, (.t 30))])),
   .op (some 3) (.alloc 93 (.agg [.str [], .agg [.int .i64 0, .int .i64 0, .int .i64 0, .str [], .int .i64 0, .nils], .agg (List.replicate 4 (.int .i64 0))])),
   .op none (.st 11 (.t 3) (.t 31))] [0, 2, 3] [])
 (.seq (.rg [] [.op (some 32) (.c (.mv (.t 0))),
   .op (some 33) (.call 64 [(.t 32)]),
   .op (some 34) (.c (.fldA 2 7 (.t 3))),
   .op none (.st 4 (.t 34) (.t 33))] [0, 2, 3] [])
 (ir21_s8))
def ir21_s10 : S := .seq (.rg [] [.op (some 28) (.c (.mv (.t 0))),
   .op (some 29) (.call 59 [(.t 28), (.str [115, 101, 108, 102])])] [0, 2] [])
 (ir21_s9)
def ir21_s11 : S := .seq (.rg [] [.op (some 24) (.c (.mv (.t 0))),
   .op (some 25) (.gld 1 2 true (.agg [.int .i64 1, .int .i64 255])),
   .op (some 26) (.call 63 [(.t 24), (.t 25)]),
   .op (some 27) (.c (.fldA 3 3 (.t 2))),
   .op none (.st 1 (.t 27) (.t 26))] [0, 2] [])
 (ir21_s10)
def ir21_s12 : S := .seq (.rg [] [.op (some 22) (.c (.mv (.t 0))),
   .op (some 23) (.call 59 [(.t 22), (.str [118, 101, 114, 115, 105, 111, 110])])] [0, 2] [])
 (ir21_s11)
def ir21_s13 : S := .seq (.rg [] [.op (some 19) (.c (.mv (.t 0))),
   .op (some 20) (.call 60 [(.t 19)]),
   .op (some 21) (.c (.fldA 1 1 (.t 2))),
   .op none (.st 1 (.t 21) (.t 20))] [0, 2] [])
 (ir21_s12)
def ir21_s14 : S := .seq (.rg [] [.op (some 17) (.c (.mv (.t 0))),
   .op (some 18) (.call 59 [(.t 17), (.str [98, 121])])] [0, 2] [])
 (ir21_s13)
def ir21_s15 : S := .seq (.rg [] [.op (some 14) (.c (.mv (.t 0))),
   .op (some 15) (.call 60 [(.t 14)]),
   .op (some 16) (.c (.bld [.str [], .str [], .int .i64 0, .int .i64 0, .nils, .nils] [(0, (.t 15))])),
   .op (some 2) (.alloc 79 (.agg [.str [], .str [], .int .i64 0, .int .i64 0, .nils, .nils])),
   .op none (.st 6 (.t 2) (.t 16))] [0, 2] [])
 (ir21_s14)
def ir21_s16 : S := .seq (.rg [] [.op (some 12) (.c (.mv (.t 0))),
   .op (some 13) (.call 59 [(.t 12), (.str [115, 99, 104, 101, 109, 97])])] [0] [])
 (ir21_s15)
def ir21 : S := .seq (.rg [] [.op (some 4) (.c (.mv (.t 0))),
   .op (some 5) (.c (.mv (.t 0))),
   .op (some 6) (.c (.nilc (.t 5))),
   .op (some 7) (.c (.fldA 2 2 (.t 6))),
   .op (some 8) (.c (.fldA 2 2 (.t 7))),
   .op (some 9) (.c (.ld 1 false (.t 8))),
   .op (some 10) (.c (.lenL (.t 9))),
   .op (some 11) (.call 58 [(.t 4), (.t 10), (.int .i64 16)])] [0] [])
 (ir21_s16)
theorem ok21 : fnOk Tryz.prog 21 1 ir21 [] = true := by kernel_rfl
def ir22_s0 : S := .rg [0, 1, 2, 3, 4, 5, 6, 7, 8, 9, 10, 11, 12] [.op (some 46) (.c (.mv (.t 0))),
   .op (some 47) (.c (.mv (.t 0))),
   .op (some 48) (.c (.nilc (.t 47))),
   .op (some 49) (.c (.fldA 2 2 (.t 48))),
   .op (some 50) (.c (.fldA 3 3 (.t 49))),
   .op (some 51) (.c (.ld 1 false (.t 50))),
   .op (some 52) (.c (.ld 5 true (.t 2))),
   .op (some 53) (.bls 5 [.agg [.str [], .int .i64 0, .nils, .nils, .nils]] [(0, (.t 52))]),
   .op (some 54) (.app 50 5 96 (.t 51) (.t 53)),
   .op (some 55) (.c (.nilc (.t 46))),
   .op (some 56) (.c (.fldA 2 2 (.t 55))),
   .op (some 57) (.c (.fldA 3 3 (.t 56))),
   .op none (.st 1 (.t 57) (.t 54))] [] []
def ir22_s1 : S := .seq (.rg [] [.op (some 44) (.c (.mv (.t 0))),
   .op (some 45) (.call 61 [(.t 44), (.str [125])])] [0, 2] [])
 (ir22_s0)
def ir22_s2 : S := .seq (.rg [] [.op (some 37) (.c (.mv (.t 0))),
   .op (some 38) (.c (.mv (.t 0))),
   .op (some 39) (.call 69 [(.t 38), (.str [115, 101, 116])]),
   .op (some 40) (.c (.mv (.t 0))),
   .op (some 41) (.c (.mkf 74 [(.t 40)] [])),
   .op (some 42) (.call 73 [(.t 37), (.int .i64 11), (.t 39), (.t 41)]),
   .op (some 43) (.c (.fldA 4 4 (.t 2))),
   .op none (.st 1 (.t 43) (.t 42))] [0, 2] [])
 (ir22_s1)
def ir22_s3 : S := .seq (.rg [] [.op (some 30) (.c (.mv (.t 0))),
   .op (some 31) (.c (.mv (.t 0))),
   .op (some 32) (.call 69 [(.t 31), (.str [119, 104, 101, 114, 101])]),
   .op (some 33) (.c (.mv (.t 0))),
   .op (some 34) (.c (.mkf 72 [(.t 33)] [])),
   .op (some 35) (.call 71 [(.t 30), (.int .i64 8), (.t 32), (.t 34)]),
   .op (some 36) (.c (.fldA 3 3 (.t 2))),
   .op none (.st 1 (.t 36) (.t 35))] [0, 2] [])
 (ir22_s2)
def ir22_s4 : S := .seq (.rg [] [.op (some 23) (.c (.mv (.t 0))),
   .op (some 24) (.c (.mv (.t 0))),
   .op (some 25) (.call 69 [(.t 24), (.str [102, 114, 111, 109])]),
   .op (some 26) (.c (.mv (.t 0))),
   .op (some 27) (.c (.mkf 70 [(.t 26)] [])),
   .op (some 28) (.call 68 [(.t 23), (.int .i64 3), (.t 25), (.t 27)]),
   .op (some 29) (.c (.fldA 2 2 (.t 2))),
   .op none (.st 1 (.t 29) (.t 28))] [0, 2] [])
 (ir22_s3)
def ir22_s5 : S := .cond (.t 20) (.rg [] [.op (some 21) (.c (.mv (.t 0))),
   .op (some 22) (.call 25 [(.t 21), (.int .i64 100)])] [0, 2] []) (.skip)
def ir22_s6 : S := .seq (.seq (.rg [] [.op (some 18) (.c (.mv (.t 0))),
   .op (some 19) (.call 65 [(.t 18), (.int .i64 1), (.str [102, 114, 111, 109])]),
   .op (some 20) (.c (.not (.t 19)))] [0, 2, 20] [])
 (ir22_s5))
 (ir22_s4)
def ir22_s7 : S := .seq (.rg [] [.op (some 16) (.c (.mv (.t 0))),
   .op (some 17) (.call 61 [(.t 16), (.str [123])])] [0, 2] [])
 (ir22_s6)
def ir22_s8 : S := .seq (.rg [] [.op (some 13) (.c (.mv (.t 0))),
   .op (some 14) (.call 60 [(.t 13)]),
   .op (some 15) (.c (.bld [.str [], .int .i64 0, .nils, .nils, .nils] [(0, (.t 14))])),
   .op (some 2) (.alloc 50 (.agg [.str [], .int .i64 0, .nils, .nils, .nils])),
   .op none (.st 5 (.t 2) (.t 15))] [0, 2] [])
 (ir22_s7)
def ir22_s9 : S := .seq (.rg [] [.op (some 11) (.c (.mv (.t 0))),
   .op (some 12) (.call 59 [(.t 11), (.str [100, 101, 114, 105, 118, 101])])] [0] [])
 (ir22_s8)
def ir22 : S := .seq (.rg [] [.op (some 3) (.c (.mv (.t 0))),
   .op (some 4) (.c (.mv (.t 0))),
   .op (some 5) (.c (.nilc (.t 4))),
   .op (some 6) (.c (.fldA 2 2 (.t 5))),
   .op (some 7) (.c (.fldA 3 3 (.t 6))),
   .op (some 8) (.c (.ld 1 false (.t 7))),
   .op (some 9) (.c (.lenL (.t 8))),
   .op (some 10) (.call 58 [(.t 3), (.t 9), (.int .i64 16)])] [0] [])
 (ir22_s9)
theorem ok22 : fnOk Tryz.prog 22 1 ir22 [] = true := by kernel_rfl
def ir23_s0 : S := .rg [0, 1, 2, 3, 4, 5, 6, 7, 8, 9, 10, 11, 12] [.op (some 32) (.c (.mv (.t 0))),
   .op (some 33) (.c (.mv (.t 0))),
   .op (some 34) (.c (.nilc (.t 33))),
   .op (some 35) (.c (.fldA 2 2 (.t 34))),
   .op (some 36) (.c (.fldA 4 4 (.t 35))),
   .op (some 37) (.c (.ld 1 false (.t 36))),
   .op (some 38) (.c (.ld 5 true (.t 2))),
   .op (some 39) (.bls 5 [.agg [.str [], .str [], .int .i64 0, .int .i64 0, .nils]] [(0, (.t 38))]),
   .op (some 40) (.app 84 5 72 (.t 37) (.t 39)),
   .op (some 41) (.c (.nilc (.t 32))),
   .op (some 42) (.c (.fldA 2 2 (.t 41))),
   .op (some 43) (.c (.fldA 4 4 (.t 42))),
   .op none (.st 1 (.t 43) (.t 40))] [] []
def ir23_s1 : S := .seq (.rg [] [.op (some 30) (.c (.mv (.t 0))),
   .op (some 31) (.call 61 [(.t 30), (.str [125])])] [0, 2] [])
 (ir23_s0)
def ir23_s2 : S := .seq (.rg [] [.op (some 23) (.c (.mv (.t 0))),
   .op (some 24) (.c (.mv (.t 0))),
   .op (some 25) (.call 69 [(.t 24), (.str [])]),
   .op (some 26) (.c (.mv (.t 0))),
   .op (some 27) (.c (.mkf 76 [(.t 26)] [])),
   .op (some 28) (.call 75 [(.t 23), (.int .i64 11), (.t 25), (.t 27)]),
   .op (some 29) (.c (.fldA 4 4 (.t 2))),
   .op none (.st 1 (.t 29) (.t 28))] [0, 2] [])
 (ir23_s1)
def ir23_s3 : S := .seq (.rg [] [.op (some 21) (.c (.mv (.t 0))),
   .op (some 22) (.call 61 [(.t 21), (.str [123])])] [0, 2] [])
 (ir23_s2)
def ir23_s4 : S := .seq (.rg [] [.op (some 18) (.c (.mv (.t 0))),
   .op (some 19) (.call 60 [(.t 18)]),
   .op (some 20) (.c (.fldA 1 1 (.t 2))),
   .op none (.st 1 (.t 20) (.t 19))] [0, 2] [])
 (ir23_s3)
def ir23_s5 : S := .seq (.rg [] [.op (some 16) (.c (.mv (.t 0))),
   .op (some 17) (.call 59 [(.t 16), (.str [116, 111])])] [0, 2] [])
 (ir23_s4)
def ir23_s6 : S := .seq (.rg [] [.op (some 13) (.c (.mv (.t 0))),
   .op (some 14) (.call 60 [(.t 13)]),
   .op (some 15) (.c (.bld [.str [], .str [], .int .i64 0, .int .i64 0, .nils] [(0, (.t 14))])),
   .op (some 2) (.alloc 84 (.agg [.str [], .str [], .int .i64 0, .int .i64 0, .nils])),
   .op none (.st 5 (.t 2) (.t 15))] [0, 2] [])
 (ir23_s5)
def ir23_s7 : S := .seq (.rg [] [.op (some 11) (.c (.mv (.t 0))),
   .op (some 12) (.call 59 [(.t 11), (.str [99, 111, 110, 118, 101, 114, 116])])] [0] [])
 (ir23_s6)
def ir23 : S := .seq (.rg [] [.op (some 3) (.c (.mv (.t 0))),
   .op (some 4) (.c (.mv (.t 0))),
   .op (some 5) (.c (.nilc (.t 4))),
   .op (some 6) (.c (.fldA 2 2 (.t 5))),
   .op (some 7) (.c (.fldA 4 4 (.t 6))),
   .op (some 8) (.c (.ld 1 false (.t 7))),
   .op (some 9) (.c (.lenL (.t 8))),
   .op (some 10) (.call 58 [(.t 3), (.t 9), (.int .i64 16)])] [0] [])
 (ir23_s7)
theorem ok23 : fnOk Tryz.prog 23 1 ir23 [] = true := by kernel_rfl
def ir24_s0 : S := .rg [0, 1, 2, 3, 4, 5, 6, 7, 8, 9, 10, 11, 12] [.op (some 35) (.c (.mv (.t 0))),
   .op (some 36) (.c (.mv (.t 0))),
   .op (some 37) (.c (.nilc (.t 36))),
   .op (some 38) (.c (.fldA 2 2 (.t 37))),
   .op (some 39) (.c (.fldA 5 5 (.t 38))),
   .op (some 40) (.c (.ld 1 false (.t 39))),
   .op (some 41) (.c (.ld 3 true (.t 2))),
   .op (some 42) (.bls 3 [.agg [.str [], .nils, .int .i64 0]] [(0, (.t 41))]),
   .op (some 43) (.app 88 3 48 (.t 40) (.t 42)),
   .op (some 44) (.c (.nilc (.t 35))),
   .op (some 45) (.c (.fldA 2 2 (.t 44))),
   .op (some 46) (.c (.fldA 5 5 (.t 45))),
   .op none (.st 1 (.t 46) (.t 43))] [] []
def ir24_s1 : S := .seq (.rg [] [.op (some 33) (.c (.mv (.t 0))),
   .op (some 34) (.call 61 [(.t 33), (.str [125])])] [0, 2] [])
 (ir24_s0)
def ir24_s2 : S := .seq (.rg [] [.op (some 31) (.c (.mv (.t 0))),
   .op (some 32) (.call 61 [(.t 31), (.str [59])])] [0, 2] [])
 (ir24_s1)
def ir24_s3 : S := .seq (.rg [] [.op (some 27) (.c (.mv (.t 0))),
   .op (some 28) (.gld 2 2 true (.agg [.int .i64 0, .int .i64 32])),
   .op (some 29) (.call 63 [(.t 27), (.t 28)]),
   .op (some 30) (.c (.fldA 2 2 (.t 2))),
   .op none (.st 1 (.t 30) (.t 29))] [0, 2] [])
 (ir24_s2)
def ir24_s4 : S := .seq (.rg [] [.op (some 25) (.c (.mv (.t 0))),
   .op (some 26) (.call 59 [(.t 25), (.str [109, 111, 115, 116])])] [0, 2] [])
 (ir24_s3)
def ir24_s5 : S := .seq (.rg [] [.op (some 18) (.c (.mv (.t 0))),
   .op (some 19) (.c (.mv (.t 0))),
   .op (some 20) (.call 69 [(.t 19), (.str [109, 97, 121])]),
   .op (some 21) (.c (.mv (.t 0))),
   .op (some 22) (.c (.mkf 78 [(.t 21)] [])),
   .op (some 23) (.call 77 [(.t 18), (.int .i64 32), (.t 20), (.t 22)]),
   .op (some 24) (.c (.fldA 1 1 (.t 2))),
   .op none (.st 1 (.t 24) (.t 23))] [0, 2] [])
 (ir24_s4)
def ir24_s6 : S := .seq (.rg [] [.op (some 16) (.c (.mv (.t 0))),
   .op (some 17) (.call 61 [(.t 16), (.str [123])])] [0, 2] [])
 (ir24_s5)
def ir24_s7 : S := .seq (.rg [] [.op (some 13) (.c (.mv (.t 0))),
   .op (some 14) (.call 60 [(.t 13)]),
   .op (some 15) (.c (.bld [.str [], .nils, .int .i64 0] [(0, (.t 14))])),
   .op (some 2) (.alloc 88 (.agg [.str [], .nils, .int .i64 0])),
   .op none (.st 3 (.t 2) (.t 15))] [0, 2] [])
 (ir24_s6)
def ir24_s8 : S := .seq (.rg [] [.op (some 11) (.c (.mv (.t 0))),
   .op (some 12) (.call 59 [(.t 11), (.str [112, 117, 114, 112, 111, 115, 101])])] [0] [])
 (ir24_s7)
def ir24 : S := .seq (.rg [] [.op (some 3) (.c (.mv (.t 0))),
   .op (some 4) (.c (.mv (.t 0))),
   .op (some 5) (.c (.nilc (.t 4))),
   .op (some 6) (.c (.fldA 2 2 (.t 5))),
   .op (some 7) (.c (.fldA 5 5 (.t 6))),
   .op (some 8) (.c (.ld 1 false (.t 7))),
   .op (some 9) (.c (.lenL (.t 8))),
   .op (some 10) (.call 58 [(.t 3), (.t 9), (.int .i64 8)])] [0] [])
 (ir24_s8)
theorem ok24 : fnOk Tryz.prog 24 1 ir24 [] = true := by kernel_rfl
end Go.Proofs.YtanpgmgkmfckaaaGreatDoor
/- The same statements with their regions folded into expressions, printed by the fold itself; that they are that is checked by the kernel. No condition. -/
namespace Go.Proofs.YtanpgmgkmfckaaaGreatDoor
open Go Go.Ab
set_option maxRecDepth 100000
def lt9_s0 : S2 := .rg [.lt 58 [] (.a (.t 7)), .lt 57 [] (.a (.t 8)), .op (some 59) (.callv (.t 57) [(.t 58)])] [(2, (.a (.t 2))), (3, (.a (.t 3))), (4, (.a (.t 4))), (6, (.a (.t 6))), (7, (.a (.t 7)))] [2, 3, 4]
def lt9_l1 : S2 := .seq (.seq (.rg [] [(2, (.a (.t 2))), (3, (.a (.t 3))), (4, (.a (.t 4))), (6, (.a (.t 6))), (7, (.a (.t 7))), (33, (.b (.bin .gtr (.t 0) (.t 1)) (.u (.lenL (.t 0)) (.u (.ld 1 false (.t 0)) (.u (.fldA 0 0 (.t 0)) (.u (.nilc (.t 0)) (.a (.t 7)))))) (.a (.int .i64 0))))] [2, 3, 4])
 (.cond (.t 33) (.skip) (.exit 0)))
 (.block 1 (.seq (.rg [.chk [] (.u (.ld 1 false (.t 0)) (.u (.fldA 1 1 (.t 0)) (.b (.idxA 4 (.t 0) (.t 1)) (.u (.ld 1 false (.t 0)) (.u (.fldA 0 0 (.t 0)) (.u (.nilc (.t 0)) (.a (.t 7))))) (.a (.int .i64 0))))), .lt 41 [] (.u (.ld 1 false (.t 0)) (.u (.fldA 1 1 (.t 0)) (.b (.idxA 4 (.t 0) (.t 1)) (.u (.ld 1 false (.t 0)) (.u (.fldA 0 0 (.t 0)) (.u (.nilc (.t 0)) (.a (.t 7))))) (.a (.int .i64 0))))), .lt 34 [] (.a (.t 6)), .op (some 42) (.lkp (.str []) .nilf false (.t 34) (.t 41))] [(2, (.a (.t 2))), (3, (.a (.t 3))), (4, (.a (.t 4))), (6, (.a (.t 6))), (7, (.a (.t 7))), (8, (.a (.t 42)))] [2, 3, 4])
 (.seq (.seq (.rg [] [(2, (.a (.t 2))), (3, (.a (.t 3))), (4, (.a (.t 4))), (6, (.a (.t 6))), (7, (.a (.t 7))), (8, (.a (.t 8))), (54, (.ite (.u (.fnil true (.t 0)) (.a (.t 8))) (.a (.bool true)) (.b (.bin .neq (.t 0) (.t 1)) (.u (.ld 1 false (.t 0)) (.u (.fldA 0 0 (.t 0)) (.b (.idxA 4 (.t 0) (.t 1)) (.u (.ld 1 false (.t 0)) (.u (.fldA 0 0 (.t 0)) (.u (.nilc (.t 0)) (.a (.t 7))))) (.a (.int .i64 0))))) (.a (.int .i64 1)))))] [2, 3, 4])
 (.cond (.t 54) (.rg [.lt 55 [] (.a (.t 7)), .op (some 56) (.call 25 [(.t 55), (.int .i64 100)])] [(2, (.a (.t 2))), (3, (.a (.t 3))), (4, (.a (.t 4))), (6, (.a (.t 6))), (7, (.a (.t 7))), (8, (.a (.t 8)))] [2, 3, 4]) (.skip)))
 (lt9_s0))))
def lt9 : FS2 := .pre (.rg [.op (some 2) (.alloc 30 (.agg [.nils, .nils, .nils, .nils, .nils, .nils])), .op (some 3) (.alloc 3 (.int .i64 0)), .op (some 4) (.alloc 31 (.int .i64 0))] [(0, (.a (.t 0))), (2, (.a (.t 2))), (3, (.a (.t 3))), (4, (.a (.t 4)))] [])
 (.pre (.rg [.chk [] (.u (.ext (.t 0) 0) (.call 15 (.cons (.a (.t 0)) .nil))), .chk [] (.u (.ext (.t 0) 2) (.call 15 (.cons (.a (.t 0)) .nil))), .chk [] (.u (.ext (.t 0) 1) (.call 15 (.cons (.a (.t 0)) .nil))), .lt 13 [] (.u (.ext (.t 0) 1) (.call 15 (.cons (.a (.t 0)) .nil))), .op none (.st 1 (.t 3) (.t 13)), .lt 14 [] (.u (.ext (.t 0) 2) (.call 15 (.cons (.a (.t 0)) .nil))), .op none (.st 1 (.t 4) (.t 14))] [(0, (.a (.t 0))), (2, (.a (.t 2))), (3, (.a (.t 3))), (4, (.a (.t 4))), (5, (.u (.ext (.t 0) 0) (.call 15 (.cons (.a (.t 0)) .nil))))] [])
 (.pre (.seq (.rg [] [(0, (.a (.t 0))), (2, (.a (.t 2))), (3, (.a (.t 3))), (4, (.a (.t 4))), (5, (.a (.t 5))), (16, (.b (.bin .neq (.t 0) (.t 1)) (.u (.ld 1 false (.t 0)) (.a (.t 4))) (.a (.int .i64 0))))] [])
 (.cond (.t 16) (.seq (.rgT (.one 0 (.op (some 17) (.c (.ld 6 true (.t 2))))
  (.br (.cons 1 (.op (some 18) (.c (.ld 1 false (.t 3)))) (.br (.cons 2 (.op (some 19) (.c (.ld 1 false (.t 4)))) (.one 3 (.op none (.st 6 (.t 2) (.t 17)))
  (.one 4 (.op none (.st 1 (.t 3) (.t 18)))
  (.one 5 (.op none (.st 1 (.t 4) (.t 19)))
  (.done))))
  (.cons 3 (.op none (.st 6 (.t 2) (.t 17))) (.br (.cons 2 (.op (some 19) (.c (.ld 1 false (.t 4)))) (.one 4 (.op none (.st 1 (.t 3) (.t 18)))
  (.one 5 (.op none (.st 1 (.t 4) (.t 19)))
  (.done)))
  (.cons 4 (.op none (.st 1 (.t 3) (.t 18))) (.br (.cons 2 (.op (some 19) (.c (.ld 1 false (.t 4)))) (.one 5 (.op none (.st 1 (.t 4) (.t 19)))
  (.done))
  (.nil)))
  (.nil))))
  (.nil))))
  (.cons 2 (.op (some 19) (.c (.ld 1 false (.t 4)))) (.br (.cons 1 (.op (some 18) (.c (.ld 1 false (.t 3)))) (.one 3 (.op none (.st 6 (.t 2) (.t 17)))
  (.one 4 (.op none (.st 1 (.t 3) (.t 18)))
  (.one 5 (.op none (.st 1 (.t 4) (.t 19)))
  (.done))))
  (.cons 3 (.op none (.st 6 (.t 2) (.t 17))) (.br (.cons 1 (.op (some 18) (.c (.ld 1 false (.t 3)))) (.one 4 (.op none (.st 1 (.t 3) (.t 18)))
  (.one 5 (.op none (.st 1 (.t 4) (.t 19)))
  (.done)))
  (.nil)))
  (.nil))))
  (.cons 3 (.op none (.st 6 (.t 2) (.t 17))) (.br (.cons 1 (.op (some 18) (.c (.ld 1 false (.t 3)))) (.br (.cons 2 (.op (some 19) (.c (.ld 1 false (.t 4)))) (.one 4 (.op none (.st 1 (.t 3) (.t 18)))
  (.one 5 (.op none (.st 1 (.t 4) (.t 19)))
  (.done)))
  (.cons 4 (.op none (.st 1 (.t 3) (.t 18))) (.br (.cons 2 (.op (some 19) (.c (.ld 1 false (.t 4)))) (.one 5 (.op none (.st 1 (.t 4) (.t 19)))
  (.done))
  (.nil)))
  (.nil))))
  (.cons 2 (.op (some 19) (.c (.ld 1 false (.t 4)))) (.br (.cons 1 (.op (some 18) (.c (.ld 1 false (.t 3)))) (.one 4 (.op none (.st 1 (.t 3) (.t 18)))
  (.one 5 (.op none (.st 1 (.t 4) (.t 19)))
  (.done)))
  (.nil)))
  (.nil))))
  (.nil)))))) [2, 3, 4] [])
 (.ret)) (.skip)))
 (.dfr [.op (some 20) (.c (.mkf 18 [] [(.t 2), (.t 3), (.t 4)]))] [(0, (.a (.t 0))), (2, (.a (.t 2))), (3, (.a (.t 3))), (4, (.a (.t 4))), (5, (.a (.t 5))), (20, (.a (.t 20)))] 20
 (.seq (.rg [.op (some 21) (.mkm none), .op none (.mset (.str []) (.t 21) (.str [105, 115, 115, 117, 101, 114]) (.fn 19)), .op none (.mset (.str []) (.t 21) (.str [117, 110, 105, 116]) (.fn 20)), .op none (.mset (.str []) (.t 21) (.str [115, 99, 104, 101, 109, 97]) (.fn 21)), .op none (.mset (.str []) (.t 21) (.str [100, 101, 114, 105, 118, 101]) (.fn 22)), .op none (.mset (.str []) (.t 21) (.str [99, 111, 110, 118, 101, 114, 116]) (.fn 23)), .op none (.mset (.str []) (.t 21) (.str [112, 117, 114, 112, 111, 115, 101]) (.fn 24))] [(0, (.a (.t 0))), (2, (.a (.t 2))), (3, (.a (.t 3))), (4, (.a (.t 4))), (5, (.a (.t 5))), (6, (.a (.t 21)))] [2, 3, 4])
 (.seq (.rg [.chk [] (.u (.lenS (.t 0)) (.a (.t 0))), .lt 25 [] (.u (.lenS (.t 0)) (.a (.t 0))), .lt 23 [] (.a (.t 5)), .op (some 26) (.c (.bld [.nils, (.int .i64 0), (.agg [.nils, .nils, .nils, .nils, .nils, .nils])] [(0, (.t 23)), (1, (.t 25))])), .op (some 27) (.box 66 (.t 26)), .op (some 7) (.mvn (.t 27) (.t 27) [(9, 1, [2, 0]), (74, 5, [2, 1]), (79, 6, [2, 2]), (50, 5, [2, 3]), (84, 5, [2, 4]), (88, 3, [2, 5])])] [(2, (.a (.t 2))), (3, (.a (.t 3))), (4, (.a (.t 4))), (6, (.a (.t 6))), (7, (.a (.t 7)))] [2, 3, 4])
 (.seq (.block 0 (.loop [2, 3, 4, 6, 7] lt9_l1))
 (.seq (.rg [.chk [] (.u (.fldA 2 2 (.t 0)) (.u (.nilc (.t 0)) (.a (.t 7)))), .lt 62 [] (.u (.fldA 2 2 (.t 0)) (.u (.nilc (.t 0)) (.a (.t 7)))), .op (some 63) (.ldf 6 true (.t 62)), .op none (.st 6 (.t 2) (.t 63)), .op none (.st 1 (.t 3) (.int .i64 0)), .op none (.st 1 (.t 4) (.int .i64 0))] [(2, (.a (.t 2))), (3, (.a (.t 3))), (4, (.a (.t 4)))] [2, 3, 4])
 (.ret))))))))
theorem lf9 : ir9.lift [15] = some lt9 := by kernel_rfl
def lt21_s0 : S2 := .rgT (.one 0 (.op (some 53) (.c (.fldA 4 4 (.t 2))))
  (.one 2 (.op (some 55) (.c (.mv (.t 0))))
  (.br (.cons 1 (.op (some 54) (.c (.ld 1 false (.t 53)))) (.one 3 (.op (some 56) (.call 66 [(.t 55)]))
  (.one 4 (.op (some 57) (.bls 11 [.agg [.str [], .agg [.int .i64 0, .int .i64 0, .int .i64 0, .str [], .int .i64 0, .nils], .agg (List.replicate 4 (.int .i64 0))]] [(0, (.t 56))]))
  (.one 5 (.op (some 58) (.app 93 11 120 (.t 54) (.t 57)))
  (.one 6 (.op (some 59) (.c (.fldA 4 4 (.t 2))))
  (.one 7 (.op none (.st 1 (.t 59) (.t 58)))
  (.done))))))
  (.cons 3 (.op (some 56) (.call 66 [(.t 55)])) (.br (.cons 1 (.op (some 54) (.c (.ld 1 false (.t 53)))) (.one 4 (.op (some 57) (.bls 11 [.agg [.str [], .agg [.int .i64 0, .int .i64 0, .int .i64 0, .str [], .int .i64 0, .nils], .agg (List.replicate 4 (.int .i64 0))]] [(0, (.t 56))]))
  (.one 5 (.op (some 58) (.app 93 11 120 (.t 54) (.t 57)))
  (.one 6 (.op (some 59) (.c (.fldA 4 4 (.t 2))))
  (.one 7 (.op none (.st 1 (.t 59) (.t 58)))
  (.done)))))
  (.cons 4 (.op (some 57) (.bls 11 [.agg [.str [], .agg [.int .i64 0, .int .i64 0, .int .i64 0, .str [], .int .i64 0, .nils], .agg (List.replicate 4 (.int .i64 0))]] [(0, (.t 56))])) (.br (.cons 1 (.op (some 54) (.c (.ld 1 false (.t 53)))) (.one 5 (.op (some 58) (.app 93 11 120 (.t 54) (.t 57)))
  (.one 6 (.op (some 59) (.c (.fldA 4 4 (.t 2))))
  (.one 7 (.op none (.st 1 (.t 59) (.t 58)))
  (.done))))
  (.nil)))
  (.nil))))
  (.nil)))))) [0, 2] []
def lt21_s1 : S2 := .rgT (.one 0 (.op (some 68) (.c (.fldA 5 5 (.t 2))))
  (.one 2 (.op (some 70) (.c (.mv (.t 0))))
  (.br (.cons 1 (.op (some 69) (.c (.ld 1 false (.t 68)))) (.one 3 (.op (some 71) (.call 67 [(.t 70)]))
  (.one 4 (.op (some 72) (.bls 4 [.agg [.nils, .str [], .nils, .int .i64 0]] [(0, (.t 71))]))
  (.one 5 (.op (some 73) (.app 96 4 72 (.t 69) (.t 72)))
  (.one 6 (.op (some 74) (.c (.fldA 5 5 (.t 2))))
  (.one 7 (.op none (.st 1 (.t 74) (.t 73)))
  (.done))))))
  (.cons 3 (.op (some 71) (.call 67 [(.t 70)])) (.br (.cons 1 (.op (some 69) (.c (.ld 1 false (.t 68)))) (.one 4 (.op (some 72) (.bls 4 [.agg [.nils, .str [], .nils, .int .i64 0]] [(0, (.t 71))]))
  (.one 5 (.op (some 73) (.app 96 4 72 (.t 69) (.t 72)))
  (.one 6 (.op (some 74) (.c (.fldA 5 5 (.t 2))))
  (.one 7 (.op none (.st 1 (.t 74) (.t 73)))
  (.done)))))
  (.cons 4 (.op (some 72) (.bls 4 [.agg [.nils, .str [], .nils, .int .i64 0]] [(0, (.t 71))])) (.br (.cons 1 (.op (some 69) (.c (.ld 1 false (.t 68)))) (.one 5 (.op (some 73) (.app 96 4 72 (.t 69) (.t 72)))
  (.one 6 (.op (some 74) (.c (.fldA 5 5 (.t 2))))
  (.one 7 (.op none (.st 1 (.t 74) (.t 73)))
  (.done))))
  (.nil)))
  (.nil))))
  (.nil)))))) [0, 2] []
def lt21_s2 : S2 := .cond (.t 60) (.seq (.rg [.chk [] (.u (.lenL (.t 0)) (.u (.ld 1 false (.t 0)) (.u (.fldA 5 5 (.t 0)) (.a (.t 2))))), .lt 66 [] (.u (.lenL (.t 0)) (.u (.ld 1 false (.t 0)) (.u (.fldA 5 5 (.t 0)) (.a (.t 2))))), .lt 63 [] (.a (.t 0)), .op (some 67) (.call 58 [(.t 63), (.t 66), (.int .i64 8)])] [(0, (.a (.t 0))), (2, (.a (.t 2)))] [])
 (lt21_s1)) (.rg [.lt 43 [] (.a (.t 0)), .op (some 44) (.call 25 [(.t 43), (.int .i64 100)])] [(0, (.a (.t 0))), (2, (.a (.t 2)))] [])
def lt21_s3 : S2 := .cond (.t 45) (.seq (.rg [.chk [] (.u (.lenL (.t 0)) (.u (.ld 1 false (.t 0)) (.u (.fldA 4 4 (.t 0)) (.a (.t 2))))), .lt 51 [] (.u (.lenL (.t 0)) (.u (.ld 1 false (.t 0)) (.u (.fldA 4 4 (.t 0)) (.a (.t 2))))), .lt 48 [] (.a (.t 0)), .op (some 52) (.call 58 [(.t 48), (.t 51), (.int .i64 12)])] [(0, (.a (.t 0))), (2, (.a (.t 2)))] [])
 (lt21_s0)) (.seq (.rg [.lt 61 [] (.a (.t 0)), .op (some 62) (.call 65 [(.t 61), (.int .i64 1), (.str [100, 101, 112, 101, 110, 100])])] [(0, (.a (.t 0))), (2, (.a (.t 2))), (60, (.a (.t 62)))] [])
 (lt21_s2))
def lt21_s4 : S2 := .cond (.t 42) (.skip) (.exit 0)
def lt21_s5 : S2 := .block 1 (.block 2 (.seq (.rg [.lt 46 [] (.a (.t 0)), .op (some 47) (.call 65 [(.t 46), (.int .i64 1), (.str [102, 105, 101, 108, 100])])] [(0, (.a (.t 0))), (2, (.a (.t 2))), (45, (.a (.t 47)))] [])
 (lt21_s3)))
def lt21_l6 : S2 := .seq (.seq (.rg [.lt 40 [] (.a (.t 0)), .op (some 41) (.call 62 [(.t 40), (.int .i64 3), (.str [125])])] [(0, (.a (.t 0))), (2, (.a (.t 2))), (42, (.u (.not (.t 0)) (.a (.t 41))))] [])
 (lt21_s4))
 (lt21_s5)
def lt21_s7 : S2 := .seq (.block 0 (.loop [0, 2] lt21_l6))
 (.rgT (.one 0 (.op (some 75) (.c (.mv (.t 0))))
  (.one 1 (.op (some 76) (.c (.mv (.t 0))))
  (.one 2 (.op (some 77) (.c (.nilc (.t 76))))
  (.one 3 (.op (some 78) (.c (.fldA 2 2 (.t 77))))
  (.one 4 (.op (some 79) (.c (.fldA 2 2 (.t 78))))
  (.br (.cons 5 (.op (some 80) (.c (.ld 1 false (.t 79)))) (.one 6 (.op (some 81) (.ldf 6 true (.t 2)))
  (.one 7 (.op (some 82) (.bls 6 [.agg [.str [], .str [], .int .i64 0, .int .i64 0, .nils, .nils]] [(0, (.t 81))]))
  (.one 8 (.op (some 83) (.app 79 6 96 (.t 80) (.t 82)))
  (.one 9 (.op (some 84) (.c (.nilc (.t 75))))
  (.one 10 (.op (some 85) (.c (.fldA 2 2 (.t 84))))
  (.one 11 (.op (some 86) (.c (.fldA 2 2 (.t 85))))
  (.one 12 (.op none (.st 1 (.t 86) (.t 83)))
  (.done))))))))
  (.cons 6 (.op (some 81) (.ldf 6 true (.t 2))) (.br (.cons 5 (.op (some 80) (.c (.ld 1 false (.t 79)))) (.one 7 (.op (some 82) (.bls 6 [.agg [.str [], .str [], .int .i64 0, .int .i64 0, .nils, .nils]] [(0, (.t 81))]))
  (.one 8 (.op (some 83) (.app 79 6 96 (.t 80) (.t 82)))
  (.one 9 (.op (some 84) (.c (.nilc (.t 75))))
  (.one 10 (.op (some 85) (.c (.fldA 2 2 (.t 84))))
  (.one 11 (.op (some 86) (.c (.fldA 2 2 (.t 85))))
  (.one 12 (.op none (.st 1 (.t 86) (.t 83)))
  (.done)))))))
  (.cons 7 (.op (some 82) (.bls 6 [.agg [.str [], .str [], .int .i64 0, .int .i64 0, .nils, .nils]] [(0, (.t 81))])) (.br (.cons 5 (.op (some 80) (.c (.ld 1 false (.t 79)))) (.one 8 (.op (some 83) (.app 79 6 96 (.t 80) (.t 82)))
  (.one 9 (.op (some 84) (.c (.nilc (.t 75))))
  (.one 10 (.op (some 85) (.c (.fldA 2 2 (.t 84))))
  (.one 11 (.op (some 86) (.c (.fldA 2 2 (.t 85))))
  (.one 12 (.op none (.st 1 (.t 86) (.t 83)))
  (.done))))))
  (.nil)))
  (.nil))))
  (.nil))))))))) [] [])
def lt21_s8 : S2 := .seq (.rg [.chk [] (.u (.ld 11 true (.t 0)) (.a (.t 3))), .lt 35 [] (.u (.ld 11 true (.t 0)) (.a (.t 3))), .op (some 36) (.blo 93 11 [(.agg [(.str []), (.agg [(.int .i64 0), (.int .i64 0), (.int .i64 0), (.str []), (.int .i64 0), .nils]), (.agg [(.int .i64 0), (.int .i64 0), (.int .i64 0), (.int .i64 0)])])] [(0, (.t 35))]), .chk [] (.u (.fldA 4 4 (.t 0)) (.a (.t 2))), .lt 37 [] (.u (.fldA 4 4 (.t 0)) (.a (.t 2))), .op none (.st 1 (.t 37) (.t 36))] [(0, (.a (.t 0))), (2, (.a (.t 2)))] [])
 (.seq (.rg [.op (some 38) (.mvg 96 4 (.t 0) (.t 2) [5]), .op (some 39) (.call 61 [(.t 38), (.str [123])])] [(0, (.a (.t 0))), (2, (.a (.t 2)))] [])
 (lt21_s7))
def lt21_s9 : S2 := .seq (.rg [.op (some 30) (.c (.bld [(.int .i64 0), (.int .i64 0), (.int .i64 0), (.str []), (.int .i64 0), .nils] [(0, (.int .i64 3)), (2, (.int .i64 4095))])), .op (some 31) (.c (.bld [(.str []), (.agg [(.int .i64 0), (.int .i64 0), (.int .i64 0), (.str []), (.int .i64 0), .nils]), (.agg [(.int .i64 0), (.int .i64 0), (.int .i64 0), (.int .i64 0)])] [(0, (.str [115, 101, 108, 102])), (1, (.t 30))])), .op (some 3) (.alloc 93 (.agg [(.str []), (.agg [(.int .i64 0), (.int .i64 0), (.int .i64 0), (.str []), (.int .i64 0), .nils]), (.agg [(.int .i64 0), (.int .i64 0), (.int .i64 0), (.int .i64 0)])])), .op none (.st 11 (.t 3) (.t 31))] [(0, (.a (.t 0))), (2, (.a (.t 2))), (3, (.a (.t 3)))] [])
 (.seq (.rg [.lt 32 [] (.a (.t 0)), .op (some 33) (.call 64 [(.t 32)]), .chk [] (.u (.fldA 2 7 (.t 0)) (.a (.t 3))), .lt 34 [] (.u (.fldA 2 7 (.t 0)) (.a (.t 3))), .op none (.st 4 (.t 34) (.t 33))] [(0, (.a (.t 0))), (2, (.a (.t 2))), (3, (.a (.t 3)))] [])
 (lt21_s8))
def lt21_s10 : S2 := .seq (.rg [.lt 28 [] (.a (.t 0)), .op (some 29) (.call 59 [(.t 28), (.str [115, 101, 108, 102])])] [(0, (.a (.t 0))), (2, (.a (.t 2)))] [])
 (lt21_s9)
def lt21_s11 : S2 := .seq (.rg [.op (some 25) (.gld 1 2 true (.agg [(.int .i64 1), (.int .i64 255)])), .lt 24 [] (.a (.t 0)), .op (some 26) (.call 63 [(.t 24), (.t 25)]), .chk [] (.u (.fldA 3 3 (.t 0)) (.a (.t 2))), .lt 27 [] (.u (.fldA 3 3 (.t 0)) (.a (.t 2))), .op none (.st 1 (.t 27) (.t 26))] [(0, (.a (.t 0))), (2, (.a (.t 2)))] [])
 (lt21_s10)
def lt21_s12 : S2 := .seq (.rg [.lt 22 [] (.a (.t 0)), .op (some 23) (.call 59 [(.t 22), (.str [118, 101, 114, 115, 105, 111, 110])])] [(0, (.a (.t 0))), (2, (.a (.t 2)))] [])
 (lt21_s11)
def lt21_s13 : S2 := .seq (.rg [.lt 19 [] (.a (.t 0)), .op (some 20) (.call 60 [(.t 19)]), .chk [] (.u (.fldA 1 1 (.t 0)) (.a (.t 2))), .lt 21 [] (.u (.fldA 1 1 (.t 0)) (.a (.t 2))), .op none (.st 1 (.t 21) (.t 20))] [(0, (.a (.t 0))), (2, (.a (.t 2)))] [])
 (lt21_s12)
def lt21_s14 : S2 := .seq (.rg [.lt 17 [] (.a (.t 0)), .op (some 18) (.call 59 [(.t 17), (.str [98, 121])])] [(0, (.a (.t 0))), (2, (.a (.t 2)))] [])
 (lt21_s13)
def lt21_s15 : S2 := .seq (.rg [.lt 14 [] (.a (.t 0)), .op (some 15) (.call 60 [(.t 14)]), .op (some 16) (.c (.bld [(.str []), (.str []), (.int .i64 0), (.int .i64 0), .nils, .nils] [(0, (.t 15))])), .op (some 2) (.alloc 79 (.agg [(.str []), (.str []), (.int .i64 0), (.int .i64 0), .nils, .nils])), .op none (.st 6 (.t 2) (.t 16))] [(0, (.a (.t 0))), (2, (.a (.t 2)))] [])
 (lt21_s14)
def lt21_s16 : S2 := .seq (.rg [.lt 12 [] (.a (.t 0)), .op (some 13) (.call 59 [(.t 12), (.str [115, 99, 104, 101, 109, 97])])] [(0, (.a (.t 0)))] [])
 (lt21_s15)
def lt21 : S2 := .seq (.rg [.chk [] (.u (.lenL (.t 0)) (.u (.ld 1 false (.t 0)) (.u (.fldA 2 2 (.t 0)) (.u (.fldA 2 2 (.t 0)) (.u (.nilc (.t 0)) (.a (.t 0))))))), .lt 10 [] (.u (.lenL (.t 0)) (.u (.ld 1 false (.t 0)) (.u (.fldA 2 2 (.t 0)) (.u (.fldA 2 2 (.t 0)) (.u (.nilc (.t 0)) (.a (.t 0))))))), .lt 4 [] (.a (.t 0)), .op (some 11) (.call 58 [(.t 4), (.t 10), (.int .i64 16)])] [(0, (.a (.t 0)))] [])
 (lt21_s16)
theorem lf21 : ir21.lift [] = some lt21 := by kernel_rfl
def lt22_s0 : S2 := .rg [.chk [] (.u (.ld 5 true (.t 0)) (.a (.t 2))), .chk [] (.u (.ld 1 false (.t 0)) (.u (.fldA 3 3 (.t 0)) (.u (.fldA 2 2 (.t 0)) (.u (.nilc (.t 0)) (.a (.t 0)))))), .lt 52 [] (.u (.ld 5 true (.t 0)) (.a (.t 2))), .lt 51 [] (.u (.ld 1 false (.t 0)) (.u (.fldA 3 3 (.t 0)) (.u (.fldA 2 2 (.t 0)) (.u (.nilc (.t 0)) (.a (.t 0)))))), .op (some 53) (.bls 5 [(.agg [(.str []), (.int .i64 0), .nils, .nils, .nils])] [(0, (.t 52))]), .op (some 54) (.app 50 5 96 (.t 51) (.t 53)), .chk [] (.u (.fldA 3 3 (.t 0)) (.u (.fldA 2 2 (.t 0)) (.u (.nilc (.t 0)) (.a (.t 0))))), .lt 57 [] (.u (.fldA 3 3 (.t 0)) (.u (.fldA 2 2 (.t 0)) (.u (.nilc (.t 0)) (.a (.t 0))))), .op none (.st 1 (.t 57) (.t 54))] [] []
def lt22_s1 : S2 := .seq (.rg [.lt 44 [] (.a (.t 0)), .op (some 45) (.call 61 [(.t 44), (.str [125])])] [(0, (.a (.t 0))), (2, (.a (.t 2)))] [])
 (lt22_s0)
def lt22_s2 : S2 := .seq (.rg [.lt 38 [] (.a (.t 0)), .op (some 39) (.call 69 [(.t 38), (.str [115, 101, 116])]), .lt 40 [] (.a (.t 0)), .op (some 41) (.c (.mkf 74 [(.t 40)] [])), .lt 37 [] (.a (.t 0)), .op (some 42) (.call 73 [(.t 37), (.int .i64 11), (.t 39), (.t 41)]), .chk [] (.u (.fldA 4 4 (.t 0)) (.a (.t 2))), .lt 43 [] (.u (.fldA 4 4 (.t 0)) (.a (.t 2))), .op none (.st 1 (.t 43) (.t 42))] [(0, (.a (.t 0))), (2, (.a (.t 2)))] [])
 (lt22_s1)
def lt22_s3 : S2 := .seq (.rg [.lt 31 [] (.a (.t 0)), .op (some 32) (.call 69 [(.t 31), (.str [119, 104, 101, 114, 101])]), .lt 33 [] (.a (.t 0)), .op (some 34) (.c (.mkf 72 [(.t 33)] [])), .lt 30 [] (.a (.t 0)), .op (some 35) (.call 71 [(.t 30), (.int .i64 8), (.t 32), (.t 34)]), .chk [] (.u (.fldA 3 3 (.t 0)) (.a (.t 2))), .lt 36 [] (.u (.fldA 3 3 (.t 0)) (.a (.t 2))), .op none (.st 1 (.t 36) (.t 35))] [(0, (.a (.t 0))), (2, (.a (.t 2)))] [])
 (lt22_s2)
def lt22_s4 : S2 := .seq (.rg [.lt 24 [] (.a (.t 0)), .op (some 25) (.call 69 [(.t 24), (.str [102, 114, 111, 109])]), .lt 26 [] (.a (.t 0)), .op (some 27) (.c (.mkf 70 [(.t 26)] [])), .lt 23 [] (.a (.t 0)), .op (some 28) (.call 68 [(.t 23), (.int .i64 3), (.t 25), (.t 27)]), .chk [] (.u (.fldA 2 2 (.t 0)) (.a (.t 2))), .lt 29 [] (.u (.fldA 2 2 (.t 0)) (.a (.t 2))), .op none (.st 1 (.t 29) (.t 28))] [(0, (.a (.t 0))), (2, (.a (.t 2)))] [])
 (lt22_s3)
def lt22_s5 : S2 := .cond (.t 20) (.rg [.lt 21 [] (.a (.t 0)), .op (some 22) (.call 25 [(.t 21), (.int .i64 100)])] [(0, (.a (.t 0))), (2, (.a (.t 2)))] []) (.skip)
def lt22_s6 : S2 := .seq (.seq (.rg [.lt 18 [] (.a (.t 0)), .op (some 19) (.call 65 [(.t 18), (.int .i64 1), (.str [102, 114, 111, 109])])] [(0, (.a (.t 0))), (2, (.a (.t 2))), (20, (.u (.not (.t 0)) (.a (.t 19))))] [])
 (lt22_s5))
 (lt22_s4)
def lt22_s7 : S2 := .seq (.rg [.lt 16 [] (.a (.t 0)), .op (some 17) (.call 61 [(.t 16), (.str [123])])] [(0, (.a (.t 0))), (2, (.a (.t 2)))] [])
 (lt22_s6)
def lt22_s8 : S2 := .seq (.rg [.lt 13 [] (.a (.t 0)), .op (some 14) (.call 60 [(.t 13)]), .op (some 15) (.c (.bld [(.str []), (.int .i64 0), .nils, .nils, .nils] [(0, (.t 14))])), .op (some 2) (.alloc 50 (.agg [(.str []), (.int .i64 0), .nils, .nils, .nils])), .op none (.st 5 (.t 2) (.t 15))] [(0, (.a (.t 0))), (2, (.a (.t 2)))] [])
 (lt22_s7)
def lt22_s9 : S2 := .seq (.rg [.lt 11 [] (.a (.t 0)), .op (some 12) (.call 59 [(.t 11), (.str [100, 101, 114, 105, 118, 101])])] [(0, (.a (.t 0)))] [])
 (lt22_s8)
def lt22 : S2 := .seq (.rg [.chk [] (.u (.lenL (.t 0)) (.u (.ld 1 false (.t 0)) (.u (.fldA 3 3 (.t 0)) (.u (.fldA 2 2 (.t 0)) (.u (.nilc (.t 0)) (.a (.t 0))))))), .lt 9 [] (.u (.lenL (.t 0)) (.u (.ld 1 false (.t 0)) (.u (.fldA 3 3 (.t 0)) (.u (.fldA 2 2 (.t 0)) (.u (.nilc (.t 0)) (.a (.t 0))))))), .lt 3 [] (.a (.t 0)), .op (some 10) (.call 58 [(.t 3), (.t 9), (.int .i64 16)])] [(0, (.a (.t 0)))] [])
 (lt22_s9)
theorem lf22 : ir22.lift [] = some lt22 := by kernel_rfl
def lt23_s0 : S2 := .rg [.chk [] (.u (.ld 5 true (.t 0)) (.a (.t 2))), .chk [] (.u (.ld 1 false (.t 0)) (.u (.fldA 4 4 (.t 0)) (.u (.fldA 2 2 (.t 0)) (.u (.nilc (.t 0)) (.a (.t 0)))))), .lt 38 [] (.u (.ld 5 true (.t 0)) (.a (.t 2))), .lt 37 [] (.u (.ld 1 false (.t 0)) (.u (.fldA 4 4 (.t 0)) (.u (.fldA 2 2 (.t 0)) (.u (.nilc (.t 0)) (.a (.t 0)))))), .op (some 39) (.bls 5 [(.agg [(.str []), (.str []), (.int .i64 0), (.int .i64 0), .nils])] [(0, (.t 38))]), .op (some 40) (.app 84 5 72 (.t 37) (.t 39)), .chk [] (.u (.fldA 4 4 (.t 0)) (.u (.fldA 2 2 (.t 0)) (.u (.nilc (.t 0)) (.a (.t 0))))), .lt 43 [] (.u (.fldA 4 4 (.t 0)) (.u (.fldA 2 2 (.t 0)) (.u (.nilc (.t 0)) (.a (.t 0))))), .op none (.st 1 (.t 43) (.t 40))] [] []
def lt23_s1 : S2 := .seq (.rg [.lt 30 [] (.a (.t 0)), .op (some 31) (.call 61 [(.t 30), (.str [125])])] [(0, (.a (.t 0))), (2, (.a (.t 2)))] [])
 (lt23_s0)
def lt23_s2 : S2 := .seq (.rg [.lt 24 [] (.a (.t 0)), .op (some 25) (.call 69 [(.t 24), (.str [])]), .lt 26 [] (.a (.t 0)), .op (some 27) (.c (.mkf 76 [(.t 26)] [])), .lt 23 [] (.a (.t 0)), .op (some 28) (.call 75 [(.t 23), (.int .i64 11), (.t 25), (.t 27)]), .chk [] (.u (.fldA 4 4 (.t 0)) (.a (.t 2))), .lt 29 [] (.u (.fldA 4 4 (.t 0)) (.a (.t 2))), .op none (.st 1 (.t 29) (.t 28))] [(0, (.a (.t 0))), (2, (.a (.t 2)))] [])
 (lt23_s1)
def lt23_s3 : S2 := .seq (.rg [.lt 21 [] (.a (.t 0)), .op (some 22) (.call 61 [(.t 21), (.str [123])])] [(0, (.a (.t 0))), (2, (.a (.t 2)))] [])
 (lt23_s2)
def lt23_s4 : S2 := .seq (.rg [.lt 18 [] (.a (.t 0)), .op (some 19) (.call 60 [(.t 18)]), .chk [] (.u (.fldA 1 1 (.t 0)) (.a (.t 2))), .lt 20 [] (.u (.fldA 1 1 (.t 0)) (.a (.t 2))), .op none (.st 1 (.t 20) (.t 19))] [(0, (.a (.t 0))), (2, (.a (.t 2)))] [])
 (lt23_s3)
def lt23_s5 : S2 := .seq (.rg [.lt 16 [] (.a (.t 0)), .op (some 17) (.call 59 [(.t 16), (.str [116, 111])])] [(0, (.a (.t 0))), (2, (.a (.t 2)))] [])
 (lt23_s4)
def lt23_s6 : S2 := .seq (.rg [.lt 13 [] (.a (.t 0)), .op (some 14) (.call 60 [(.t 13)]), .op (some 15) (.c (.bld [(.str []), (.str []), (.int .i64 0), (.int .i64 0), .nils] [(0, (.t 14))])), .op (some 2) (.alloc 84 (.agg [(.str []), (.str []), (.int .i64 0), (.int .i64 0), .nils])), .op none (.st 5 (.t 2) (.t 15))] [(0, (.a (.t 0))), (2, (.a (.t 2)))] [])
 (lt23_s5)
def lt23_s7 : S2 := .seq (.rg [.lt 11 [] (.a (.t 0)), .op (some 12) (.call 59 [(.t 11), (.str [99, 111, 110, 118, 101, 114, 116])])] [(0, (.a (.t 0)))] [])
 (lt23_s6)
def lt23 : S2 := .seq (.rg [.chk [] (.u (.lenL (.t 0)) (.u (.ld 1 false (.t 0)) (.u (.fldA 4 4 (.t 0)) (.u (.fldA 2 2 (.t 0)) (.u (.nilc (.t 0)) (.a (.t 0))))))), .lt 9 [] (.u (.lenL (.t 0)) (.u (.ld 1 false (.t 0)) (.u (.fldA 4 4 (.t 0)) (.u (.fldA 2 2 (.t 0)) (.u (.nilc (.t 0)) (.a (.t 0))))))), .lt 3 [] (.a (.t 0)), .op (some 10) (.call 58 [(.t 3), (.t 9), (.int .i64 16)])] [(0, (.a (.t 0)))] [])
 (lt23_s7)
theorem lf23 : ir23.lift [] = some lt23 := by kernel_rfl
def lt24_s0 : S2 := .rg [.chk [] (.u (.ld 3 true (.t 0)) (.a (.t 2))), .chk [] (.u (.ld 1 false (.t 0)) (.u (.fldA 5 5 (.t 0)) (.u (.fldA 2 2 (.t 0)) (.u (.nilc (.t 0)) (.a (.t 0)))))), .lt 41 [] (.u (.ld 3 true (.t 0)) (.a (.t 2))), .lt 40 [] (.u (.ld 1 false (.t 0)) (.u (.fldA 5 5 (.t 0)) (.u (.fldA 2 2 (.t 0)) (.u (.nilc (.t 0)) (.a (.t 0)))))), .op (some 42) (.bls 3 [(.agg [(.str []), .nils, (.int .i64 0)])] [(0, (.t 41))]), .op (some 43) (.app 88 3 48 (.t 40) (.t 42)), .chk [] (.u (.fldA 5 5 (.t 0)) (.u (.fldA 2 2 (.t 0)) (.u (.nilc (.t 0)) (.a (.t 0))))), .lt 46 [] (.u (.fldA 5 5 (.t 0)) (.u (.fldA 2 2 (.t 0)) (.u (.nilc (.t 0)) (.a (.t 0))))), .op none (.st 1 (.t 46) (.t 43))] [] []
def lt24_s1 : S2 := .seq (.rg [.lt 33 [] (.a (.t 0)), .op (some 34) (.call 61 [(.t 33), (.str [125])])] [(0, (.a (.t 0))), (2, (.a (.t 2)))] [])
 (lt24_s0)
def lt24_s2 : S2 := .seq (.rg [.lt 31 [] (.a (.t 0)), .op (some 32) (.call 61 [(.t 31), (.str [59])])] [(0, (.a (.t 0))), (2, (.a (.t 2)))] [])
 (lt24_s1)
def lt24_s3 : S2 := .seq (.rg [.op (some 28) (.gld 2 2 true (.agg [(.int .i64 0), (.int .i64 32)])), .lt 27 [] (.a (.t 0)), .op (some 29) (.call 63 [(.t 27), (.t 28)]), .chk [] (.u (.fldA 2 2 (.t 0)) (.a (.t 2))), .lt 30 [] (.u (.fldA 2 2 (.t 0)) (.a (.t 2))), .op none (.st 1 (.t 30) (.t 29))] [(0, (.a (.t 0))), (2, (.a (.t 2)))] [])
 (lt24_s2)
def lt24_s4 : S2 := .seq (.rg [.lt 25 [] (.a (.t 0)), .op (some 26) (.call 59 [(.t 25), (.str [109, 111, 115, 116])])] [(0, (.a (.t 0))), (2, (.a (.t 2)))] [])
 (lt24_s3)
def lt24_s5 : S2 := .seq (.rg [.lt 19 [] (.a (.t 0)), .op (some 20) (.call 69 [(.t 19), (.str [109, 97, 121])]), .lt 21 [] (.a (.t 0)), .op (some 22) (.c (.mkf 78 [(.t 21)] [])), .lt 18 [] (.a (.t 0)), .op (some 23) (.call 77 [(.t 18), (.int .i64 32), (.t 20), (.t 22)]), .chk [] (.u (.fldA 1 1 (.t 0)) (.a (.t 2))), .lt 24 [] (.u (.fldA 1 1 (.t 0)) (.a (.t 2))), .op none (.st 1 (.t 24) (.t 23))] [(0, (.a (.t 0))), (2, (.a (.t 2)))] [])
 (lt24_s4)
def lt24_s6 : S2 := .seq (.rg [.lt 16 [] (.a (.t 0)), .op (some 17) (.call 61 [(.t 16), (.str [123])])] [(0, (.a (.t 0))), (2, (.a (.t 2)))] [])
 (lt24_s5)
def lt24_s7 : S2 := .seq (.rg [.lt 13 [] (.a (.t 0)), .op (some 14) (.call 60 [(.t 13)]), .op (some 15) (.c (.bld [(.str []), .nils, (.int .i64 0)] [(0, (.t 14))])), .op (some 2) (.alloc 88 (.agg [(.str []), .nils, (.int .i64 0)])), .op none (.st 3 (.t 2) (.t 15))] [(0, (.a (.t 0))), (2, (.a (.t 2)))] [])
 (lt24_s6)
def lt24_s8 : S2 := .seq (.rg [.lt 11 [] (.a (.t 0)), .op (some 12) (.call 59 [(.t 11), (.str [112, 117, 114, 112, 111, 115, 101])])] [(0, (.a (.t 0)))] [])
 (lt24_s7)
def lt24 : S2 := .seq (.rg [.chk [] (.u (.lenL (.t 0)) (.u (.ld 1 false (.t 0)) (.u (.fldA 5 5 (.t 0)) (.u (.fldA 2 2 (.t 0)) (.u (.nilc (.t 0)) (.a (.t 0))))))), .lt 9 [] (.u (.lenL (.t 0)) (.u (.ld 1 false (.t 0)) (.u (.fldA 5 5 (.t 0)) (.u (.fldA 2 2 (.t 0)) (.u (.nilc (.t 0)) (.a (.t 0))))))), .lt 3 [] (.a (.t 0)), .op (some 10) (.call 58 [(.t 3), (.t 9), (.int .i64 8)])] [(0, (.a (.t 0)))] [])
 (lt24_s8)
theorem lf24 : ir24.lift [] = some lt24 := by kernel_rfl
end Go.Proofs.YtanpgmgkmfckaaaGreatDoor
/- Contracts: the definitions. Condition: the program is the seat's, and its intervals are laid. -/
namespace Go.Proofs.YtanpgmgkmfckaaaGreatDoor
open Go Go.Ab Go.Lx Go.Sx
set_option maxRecDepth 100000
section
variable {P : Prg} (hP : P.p = Tryz.prog) (hI : Ivl P) {ts : List Tok} {en : Int} {s : Src} (hs : Few s) {K : Out → Objs → Prop}
include hP hI hs
theorem y_convert (h : PS K en (convertM s ts)) : ACall P 23 [.ptr 4 []] (stO en ts s) K := by
  refine acall_lift hP mixed ok23 lf23 TOk.nil fun _ hm => ?_
  simp [lt23, hI.factors, hI.editions, hI.mosts, hI.weights, hI.anyN, ↓ql, ↓qn, ↓qo, ↓qi, ↓qh, ↓qj, ↓qk, ↓qm, ↓zs, ↓zp, ↓zr, ↓zt, ↓zq, ↓zl, ↓zm, ↓zk, ↓zo, ↓zn, ↓qq, ↓qp, ↓qw, ↓qx, ↓zg, ↓qy, ↓qv, ↓qr, ↓zh, ↓qu, ↓qt, ↓qs, ↓qz, ↓zb, ↓za, ↓zd, ↓ze, ↓zf, ↓zw, ↓zu, ↓zy, ↓zx, ↓qb, ↓qa, ↓qd, ↓qc, ↓qe, ↓qg, ↓qf, ↓zj, ↓zi]
  refine y_room hP (S := srcV s) (by simp) (by simp) _ 16 (PS.bind h (fun ts' e h => ?_) (fun a ts' ha h => ?_))
  · simp
    exact leave_s (h s) (by simp) (by simp [young])
  simp [↓ql, ↓qn, ↓qo, ↓qi, ↓qh, ↓qj, ↓qk, ↓qm, ↓zs, ↓zp, ↓zr, ↓zt, ↓zq, ↓zl, ↓zm, ↓zk, ↓zo, ↓zn, ↓qq, ↓qp, ↓qw, ↓qx, ↓zg, ↓qy, ↓qv, ↓qr, ↓zh, ↓qu, ↓qt, ↓qs, ↓qz, ↓zb, ↓za, ↓zd, ↓ze, ↓zf, ↓zw, ↓zu, ↓zy, ↓zx, ↓qb, ↓qa, ↓qd, ↓qc, ↓qe, ↓qg, ↓qf, ↓zj, ↓zi, hI.factors, hI.editions, hI.mosts, hI.weights, hI.anyN, lt23_s7]
  refine y_word hP (S := srcV s) (by simp) (by simp) _ (PS.bind h (fun ts' e h => ?_) (fun a ts' ha h => ?_))
  · simp
    exact leave_s (h s) (by simp) (by simp [young])
  simp [↓ql, ↓qn, ↓qo, ↓qi, ↓qh, ↓qj, ↓qk, ↓qm, ↓zs, ↓zp, ↓zr, ↓zt, ↓zq, ↓zl, ↓zm, ↓zk, ↓zo, ↓zn, ↓qq, ↓qp, ↓qw, ↓qx, ↓zg, ↓qy, ↓qv, ↓qr, ↓zh, ↓qu, ↓qt, ↓qs, ↓qz, ↓zb, ↓za, ↓zd, ↓ze, ↓zf, ↓zw, ↓zu, ↓zy, ↓zx, ↓qb, ↓qa, ↓qd, ↓qc, ↓qe, ↓qg, ↓qf, ↓zj, ↓zi, hI.factors, hI.editions, hI.mosts, hI.weights, hI.anyN, lt23_s6]
  refine y_name hP (S := srcV s) (by simp) (by simp) (PS.bind h (fun ts' e h => ?_) (fun a ts' ha h => ?_))
  · simp
    exact leave_s (h s) (by simp) (by simp [young])
  simp [↓ql, ↓qn, ↓qo, ↓qi, ↓qh, ↓qj, ↓qk, ↓qm, ↓zs, ↓zp, ↓zr, ↓zt, ↓zq, ↓zl, ↓zm, ↓zk, ↓zo, ↓zn, ↓qq, ↓qp, ↓qw, ↓qx, ↓zg, ↓qy, ↓qv, ↓qr, ↓zh, ↓qu, ↓qt, ↓qs, ↓qz, ↓zb, ↓za, ↓zd, ↓ze, ↓zf, ↓zw, ↓zu, ↓zy, ↓zx, ↓qb, ↓qa, ↓qd, ↓qc, ↓qe, ↓qg, ↓qf, ↓zj, ↓zi, hI.factors, hI.editions, hI.mosts, hI.weights, hI.anyN, lt23_s5]
  refine y_word hP (S := srcV s) (by simp) (by simp) _ (PS.bind h (fun ts' e h => ?_) (fun a ts' ha h => ?_))
  · simp
    exact leave_s (h s) (by simp) (by simp [young])
  simp [↓ql, ↓qn, ↓qo, ↓qi, ↓qh, ↓qj, ↓qk, ↓qm, ↓zs, ↓zp, ↓zr, ↓zt, ↓zq, ↓zl, ↓zm, ↓zk, ↓zo, ↓zn, ↓qq, ↓qp, ↓qw, ↓qx, ↓zg, ↓qy, ↓qv, ↓qr, ↓zh, ↓qu, ↓qt, ↓qs, ↓qz, ↓zb, ↓za, ↓zd, ↓ze, ↓zf, ↓zw, ↓zu, ↓zy, ↓zx, ↓qb, ↓qa, ↓qd, ↓qc, ↓qe, ↓qg, ↓qf, ↓zj, ↓zi, hI.factors, hI.editions, hI.mosts, hI.weights, hI.anyN, lt23_s4]
  refine y_name hP (S := srcV s) (by simp) (by simp) (PS.bind h (fun ts' e h => ?_) (fun a ts' ha h => ?_))
  · simp
    exact leave_s (h s) (by simp) (by simp [young])
  simp [↓ql, ↓qn, ↓qo, ↓qi, ↓qh, ↓qj, ↓qk, ↓qm, ↓zs, ↓zp, ↓zr, ↓zt, ↓zq, ↓zl, ↓zm, ↓zk, ↓zo, ↓zn, ↓qq, ↓qp, ↓qw, ↓qx, ↓zg, ↓qy, ↓qv, ↓qr, ↓zh, ↓qu, ↓qt, ↓qs, ↓qz, ↓zb, ↓za, ↓zd, ↓ze, ↓zf, ↓zw, ↓zu, ↓zy, ↓zx, ↓qb, ↓qa, ↓qd, ↓qc, ↓qe, ↓qg, ↓qf, ↓zj, ↓zi, hI.factors, hI.editions, hI.mosts, hI.weights, hI.anyN, lt23_s3]
  refine y_sign hP (S := srcV s) (by simp) (by simp) _ (PS.bind h (fun ts' e h => ?_) (fun a ts' ha h => ?_))
  · simp
    exact leave_s (h s) (by simp) (by simp [young])
  simp [↓ql, ↓qn, ↓qo, ↓qi, ↓qh, ↓qj, ↓qk, ↓qm, ↓zs, ↓zp, ↓zr, ↓zt, ↓zq, ↓zl, ↓zm, ↓zk, ↓zo, ↓zn, ↓qq, ↓qp, ↓qw, ↓qx, ↓zg, ↓qy, ↓qv, ↓qr, ↓zh, ↓qu, ↓qt, ↓qs, ↓qz, ↓zb, ↓za, ↓zd, ↓ze, ↓zf, ↓zw, ↓zu, ↓zy, ↓zx, ↓qb, ↓qa, ↓qd, ↓qc, ↓qe, ↓qg, ↓qf, ↓zj, ↓zi, hI.factors, hI.editions, hI.mosts, hI.weights, hI.anyN, lt23_s2]
  refine y_begins hP (ts := ts') (en := en) (S := srcV s) (by simp) _ 12 (by simp) ?_
  simp [↓ql, ↓qn, ↓qo, ↓qi, ↓qh, ↓qj, ↓qk, ↓qm, ↓zs, ↓zp, ↓zr, ↓zt, ↓zq, ↓zl, ↓zm, ↓zk, ↓zo, ↓zn, ↓qq, ↓qp, ↓qw, ↓qx, ↓zg, ↓qy, ↓qv, ↓qr, ↓zh, ↓qu, ↓qt, ↓qs, ↓qz, ↓zb, ↓za, ↓zd, ↓ze, ↓zf, ↓zw, ↓zu, ↓zy, ↓zx, ↓qb, ↓qa, ↓qd, ↓qc, ↓qe, ↓qg, ↓qf, ↓zj, ↓zi]
  refine y_listM hP (S := srcV s) (by simp) (by simp) (enc := Move.enc) (by simp) (nextB 1 []) moveM 11 (by decide) _ _ [] _ [.ptr 4 []] [] (call_y hP).2.2.1 (call_y hP).2.2.2.2.2.2.1 14 (by simp) (fun ts o K h => ?_) (fun ts o K h => ?_) (PS.bind h (fun ts' e h => ?_) (fun a ts' ha h => ?_))
  · exact y_begins1 hP (S := srcV s) (p := 4) (ts := ts) (en := en) (t := []) (by simp) (by simp) (by simp) (by simp) (by simpa using h)
  · exact y_move hP (S := srcV s) (by simp) (p := 4) (ts := ts) (en := en) (by simp) hI h
  · simp
    exact leave_s (h s) (by simp) (by simp [young])
  simp [↓ql, ↓qn, ↓qo, ↓qi, ↓qh, ↓qj, ↓qk, ↓qm, ↓zs, ↓zp, ↓zr, ↓zt, ↓zq, ↓zl, ↓zm, ↓zk, ↓zo, ↓zn, ↓qq, ↓qp, ↓qw, ↓qx, ↓zg, ↓qy, ↓qv, ↓qr, ↓zh, ↓qu, ↓qt, ↓qs, ↓qz, ↓zb, ↓za, ↓zd, ↓ze, ↓zf, ↓zw, ↓zu, ↓zy, ↓zx, ↓qb, ↓qa, ↓qd, ↓qc, ↓qe, ↓qg, ↓qf, ↓zj, ↓zi, hI.factors, hI.editions, hI.mosts, hI.weights, hI.anyN, lt23_s1]
  refine y_sign hP (S := srcV s) (by simp) (by simp) _ (PS.bind h (fun ts' e h => ?_) (fun a ts' ha h => ?_))
  · simp
    exact leave_s (h s) (by simp) (by simp [young])
  simp [↓ql, ↓qn, ↓qo, ↓qi, ↓qh, ↓qj, ↓qk, ↓qm, ↓zs, ↓zp, ↓zr, ↓zt, ↓zq, ↓zl, ↓zm, ↓zk, ↓zo, ↓zn, ↓qq, ↓qp, ↓qw, ↓qx, ↓zg, ↓qy, ↓qv, ↓qr, ↓zh, ↓qu, ↓qt, ↓qs, ↓qz, ↓zb, ↓za, ↓zd, ↓ze, ↓zf, ↓zw, ↓zu, ↓zy, ↓zx, ↓qb, ↓qa, ↓qd, ↓qc, ↓qe, ↓qg, ↓qf, ↓zj, ↓zi, hI.factors, hI.editions, hI.mosts, hI.weights, hI.anyN, lt23_s0]
  refine ⟨by have := hs.converts; omega, ?_⟩
  exact leave_s (s := { s with converts := s.converts ++ [⟨_, _, _⟩] }) h (by simp) (by simp [young]; rfl)
end
end Go.Proofs.YtanpgmgkmfckaaaGreatDoor
/- Contracts: the definitions. Condition: the program is the seat's, and its intervals are laid. -/
namespace Go.Proofs.YtanpgmgkmfckaaaGreatDoor
open Go Go.Ab Go.Lx Go.Sx
set_option maxRecDepth 100000
section
variable {P : Prg} (hP : P.p = Tryz.prog) (hI : Ivl P) {ts : List Tok} {en : Int} {s : Src} (hs : Few s) {K : Out → Objs → Prop}
include hP hI hs
theorem y_purpose (h : PS K en (purposeM s ts)) : ACall P 24 [.ptr 4 []] (stO en ts s) K := by
  refine acall_lift hP mixed ok24 lf24 TOk.nil fun _ hm => ?_
  simp [lt24, hI.factors, hI.editions, hI.mosts, hI.weights, hI.anyN, ↓ql, ↓qn, ↓qo, ↓qi, ↓qh, ↓qj, ↓qk, ↓qm, ↓zs, ↓zp, ↓zr, ↓zt, ↓zq, ↓zl, ↓zm, ↓zk, ↓zo, ↓zn, ↓qq, ↓qp, ↓qw, ↓qx, ↓zg, ↓qy, ↓qv, ↓qr, ↓zh, ↓qu, ↓qt, ↓qs, ↓qz, ↓zb, ↓za, ↓zd, ↓ze, ↓zf, ↓zw, ↓zu, ↓zy, ↓zx, ↓qb, ↓qa, ↓qd, ↓qc, ↓qe, ↓qg, ↓qf, ↓zj, ↓zi]
  refine y_room hP (S := srcV s) (by simp) (by simp) _ 8 (PS.bind h (fun ts' e h => ?_) (fun a ts' ha h => ?_))
  · simp
    exact leave_s (h s) (by simp) (by simp [young])
  simp [↓ql, ↓qn, ↓qo, ↓qi, ↓qh, ↓qj, ↓qk, ↓qm, ↓zs, ↓zp, ↓zr, ↓zt, ↓zq, ↓zl, ↓zm, ↓zk, ↓zo, ↓zn, ↓qq, ↓qp, ↓qw, ↓qx, ↓zg, ↓qy, ↓qv, ↓qr, ↓zh, ↓qu, ↓qt, ↓qs, ↓qz, ↓zb, ↓za, ↓zd, ↓ze, ↓zf, ↓zw, ↓zu, ↓zy, ↓zx, ↓qb, ↓qa, ↓qd, ↓qc, ↓qe, ↓qg, ↓qf, ↓zj, ↓zi, hI.factors, hI.editions, hI.mosts, hI.weights, hI.anyN, lt24_s8]
  refine y_word hP (S := srcV s) (by simp) (by simp) _ (PS.bind h (fun ts' e h => ?_) (fun a ts' ha h => ?_))
  · simp
    exact leave_s (h s) (by simp) (by simp [young])
  simp [↓ql, ↓qn, ↓qo, ↓qi, ↓qh, ↓qj, ↓qk, ↓qm, ↓zs, ↓zp, ↓zr, ↓zt, ↓zq, ↓zl, ↓zm, ↓zk, ↓zo, ↓zn, ↓qq, ↓qp, ↓qw, ↓qx, ↓zg, ↓qy, ↓qv, ↓qr, ↓zh, ↓qu, ↓qt, ↓qs, ↓qz, ↓zb, ↓za, ↓zd, ↓ze, ↓zf, ↓zw, ↓zu, ↓zy, ↓zx, ↓qb, ↓qa, ↓qd, ↓qc, ↓qe, ↓qg, ↓qf, ↓zj, ↓zi, hI.factors, hI.editions, hI.mosts, hI.weights, hI.anyN, lt24_s7]
  refine y_name hP (S := srcV s) (by simp) (by simp) (PS.bind h (fun ts' e h => ?_) (fun a ts' ha h => ?_))
  · simp
    exact leave_s (h s) (by simp) (by simp [young])
  simp [↓ql, ↓qn, ↓qo, ↓qi, ↓qh, ↓qj, ↓qk, ↓qm, ↓zs, ↓zp, ↓zr, ↓zt, ↓zq, ↓zl, ↓zm, ↓zk, ↓zo, ↓zn, ↓qq, ↓qp, ↓qw, ↓qx, ↓zg, ↓qy, ↓qv, ↓qr, ↓zh, ↓qu, ↓qt, ↓qs, ↓qz, ↓zb, ↓za, ↓zd, ↓ze, ↓zf, ↓zw, ↓zu, ↓zy, ↓zx, ↓qb, ↓qa, ↓qd, ↓qc, ↓qe, ↓qg, ↓qf, ↓zj, ↓zi, hI.factors, hI.editions, hI.mosts, hI.weights, hI.anyN, lt24_s6]
  refine y_sign hP (S := srcV s) (by simp) (by simp) _ (PS.bind h (fun ts' e h => ?_) (fun a ts' ha h => ?_))
  · simp
    exact leave_s (h s) (by simp) (by simp [young])
  simp [↓ql, ↓qn, ↓qo, ↓qi, ↓qh, ↓qj, ↓qk, ↓qm, ↓zs, ↓zp, ↓zr, ↓zt, ↓zq, ↓zl, ↓zm, ↓zk, ↓zo, ↓zn, ↓qq, ↓qp, ↓qw, ↓qx, ↓zg, ↓qy, ↓qv, ↓qr, ↓zh, ↓qu, ↓qt, ↓qs, ↓qz, ↓zb, ↓za, ↓zd, ↓ze, ↓zf, ↓zw, ↓zu, ↓zy, ↓zx, ↓qb, ↓qa, ↓qd, ↓qc, ↓qe, ↓qg, ↓qf, ↓zj, ↓zi, hI.factors, hI.editions, hI.mosts, hI.weights, hI.anyN, lt24_s5]
  refine y_begins hP (ts := ts') (en := en) (S := srcV s) (by simp) _ 12 (by simp) ?_
  simp [↓ql, ↓qn, ↓qo, ↓qi, ↓qh, ↓qj, ↓qk, ↓qm, ↓zs, ↓zp, ↓zr, ↓zt, ↓zq, ↓zl, ↓zm, ↓zk, ↓zo, ↓zn, ↓qq, ↓qp, ↓qw, ↓qx, ↓zg, ↓qy, ↓qv, ↓qr, ↓zh, ↓qu, ↓qt, ↓qs, ↓qz, ↓zb, ↓za, ↓zd, ↓ze, ↓zf, ↓zw, ↓zu, ↓zy, ↓zx, ↓qb, ↓qa, ↓qd, ↓qc, ↓qe, ↓qg, ↓qf, ↓zj, ↓zi]
  refine y_listR hP (S := srcV s) (by simp) (by simp) (enc := Ref.enc) (by simp) (nextB 1 [109, 97, 121]) mayM 32 (by decide) _ _ [] _ [.ptr 4 []] [] (call_y hP).2.2.1 (call_y hP).2.2.2.2.2.2.2 14 (by simp) (fun ts o K h => ?_) (fun ts o K h => ?_) (PS.bind h (fun ts' e h => ?_) (fun a ts' ha h => ?_))
  · exact y_begins1 hP (S := srcV s) (p := 4) (ts := ts) (en := en) (t := [109, 97, 121]) (by simp) (by simp) (by simp) (by simp) (by simpa using h)
  · exact y_may hP (S := srcV s) (by simp) (p := 4) (ts := ts) (en := en) (by simp) h
  · simp
    exact leave_s (h s) (by simp) (by simp [young])
  simp [↓ql, ↓qn, ↓qo, ↓qi, ↓qh, ↓qj, ↓qk, ↓qm, ↓zs, ↓zp, ↓zr, ↓zt, ↓zq, ↓zl, ↓zm, ↓zk, ↓zo, ↓zn, ↓qq, ↓qp, ↓qw, ↓qx, ↓zg, ↓qy, ↓qv, ↓qr, ↓zh, ↓qu, ↓qt, ↓qs, ↓qz, ↓zb, ↓za, ↓zd, ↓ze, ↓zf, ↓zw, ↓zu, ↓zy, ↓zx, ↓qb, ↓qa, ↓qd, ↓qc, ↓qe, ↓qg, ↓qf, ↓zj, ↓zi, hI.factors, hI.editions, hI.mosts, hI.weights, hI.anyN, lt24_s4]
  refine y_word hP (S := srcV s) (by simp) (by simp) _ (PS.bind h (fun ts' e h => ?_) (fun a ts' ha h => ?_))
  · simp
    exact leave_s (h s) (by simp) (by simp [young])
  simp [↓ql, ↓qn, ↓qo, ↓qi, ↓qh, ↓qj, ↓qk, ↓qm, ↓zs, ↓zp, ↓zr, ↓zt, ↓zq, ↓zl, ↓zm, ↓zk, ↓zo, ↓zn, ↓qq, ↓qp, ↓qw, ↓qx, ↓zg, ↓qy, ↓qv, ↓qr, ↓zh, ↓qu, ↓qt, ↓qs, ↓qz, ↓zb, ↓za, ↓zd, ↓ze, ↓zf, ↓zw, ↓zu, ↓zy, ↓zx, ↓qb, ↓qa, ↓qd, ↓qc, ↓qe, ↓qg, ↓qf, ↓zj, ↓zi, hI.factors, hI.editions, hI.mosts, hI.weights, hI.anyN, lt24_s3]
  refine y_number hP (S := srcV s) (by simp) (by simp) _ _ (PS.bind h (fun ts' e h => ?_) (fun a ts' ha h => ?_))
  · simp
    exact leave_s (h s) (by simp) (by simp [young])
  simp [↓ql, ↓qn, ↓qo, ↓qi, ↓qh, ↓qj, ↓qk, ↓qm, ↓zs, ↓zp, ↓zr, ↓zt, ↓zq, ↓zl, ↓zm, ↓zk, ↓zo, ↓zn, ↓qq, ↓qp, ↓qw, ↓qx, ↓zg, ↓qy, ↓qv, ↓qr, ↓zh, ↓qu, ↓qt, ↓qs, ↓qz, ↓zb, ↓za, ↓zd, ↓ze, ↓zf, ↓zw, ↓zu, ↓zy, ↓zx, ↓qb, ↓qa, ↓qd, ↓qc, ↓qe, ↓qg, ↓qf, ↓zj, ↓zi, hI.factors, hI.editions, hI.mosts, hI.weights, hI.anyN, lt24_s2]
  refine y_sign hP (S := srcV s) (by simp) (by simp) _ (PS.bind h (fun ts' e h => ?_) (fun a ts' ha h => ?_))
  · simp
    exact leave_s (h s) (by simp) (by simp [young])
  simp [↓ql, ↓qn, ↓qo, ↓qi, ↓qh, ↓qj, ↓qk, ↓qm, ↓zs, ↓zp, ↓zr, ↓zt, ↓zq, ↓zl, ↓zm, ↓zk, ↓zo, ↓zn, ↓qq, ↓qp, ↓qw, ↓qx, ↓zg, ↓qy, ↓qv, ↓qr, ↓zh, ↓qu, ↓qt, ↓qs, ↓qz, ↓zb, ↓za, ↓zd, ↓ze, ↓zf, ↓zw, ↓zu, ↓zy, ↓zx, ↓qb, ↓qa, ↓qd, ↓qc, ↓qe, ↓qg, ↓qf, ↓zj, ↓zi, hI.factors, hI.editions, hI.mosts, hI.weights, hI.anyN, lt24_s1]
  refine y_sign hP (S := srcV s) (by simp) (by simp) _ (PS.bind h (fun ts' e h => ?_) (fun a ts' ha h => ?_))
  · simp
    exact leave_s (h s) (by simp) (by simp [young])
  simp [↓ql, ↓qn, ↓qo, ↓qi, ↓qh, ↓qj, ↓qk, ↓qm, ↓zs, ↓zp, ↓zr, ↓zt, ↓zq, ↓zl, ↓zm, ↓zk, ↓zo, ↓zn, ↓qq, ↓qp, ↓qw, ↓qx, ↓zg, ↓qy, ↓qv, ↓qr, ↓zh, ↓qu, ↓qt, ↓qs, ↓qz, ↓zb, ↓za, ↓zd, ↓ze, ↓zf, ↓zw, ↓zu, ↓zy, ↓zx, ↓qb, ↓qa, ↓qd, ↓qc, ↓qe, ↓qg, ↓qf, ↓zj, ↓zi, hI.factors, hI.editions, hI.mosts, hI.weights, hI.anyN, lt24_s0]
  refine ⟨by have := hs.purposes; omega, ?_⟩
  exact leave_s (s := { s with purposes := s.purposes ++ [⟨_, _, _⟩] }) h (by simp) (by simp [young]; rfl)
end
end Go.Proofs.YtanpgmgkmfckaaaGreatDoor
/- Contracts: the definitions. Condition: the program is the seat's, and its intervals are laid. -/
namespace Go.Proofs.YtanpgmgkmfckaaaGreatDoor
open Go Go.Ab Go.Lx Go.Sx
set_option maxRecDepth 100000
section
variable {P : Prg} (hP : P.p = Tryz.prog) (hI : Ivl P) {ts : List Tok} {en : Int} {s : Src} (hs : Few s) {K : Out → Objs → Prop}
include hP hI hs
theorem y_rule (h : PS K en (ruleM s ts)) : ACall P 22 [.ptr 4 []] (stO en ts s) K := by
  refine acall_lift hP mixed ok22 lf22 TOk.nil fun _ hm => ?_
  simp [lt22, hI.factors, hI.editions, hI.mosts, hI.weights, hI.anyN, ↓ql, ↓qn, ↓qo, ↓qi, ↓qh, ↓qj, ↓qk, ↓qm, ↓zs, ↓zp, ↓zr, ↓zt, ↓zq, ↓zl, ↓zm, ↓zk, ↓zo, ↓zn, ↓qq, ↓qp, ↓qw, ↓qx, ↓zg, ↓qy, ↓qv, ↓qr, ↓zh, ↓qu, ↓qt, ↓qs, ↓qz, ↓zb, ↓za, ↓zd, ↓ze, ↓zf, ↓zw, ↓zu, ↓zy, ↓zx, ↓qb, ↓qa, ↓qd, ↓qc, ↓qe, ↓qg, ↓qf, ↓zj, ↓zi]
  refine y_room hP (S := srcV s) (by simp) (by simp) _ 16 (PS.bind h (fun ts' e h => ?_) (fun a ts' ha h => ?_))
  · simp
    exact leave_s (h s) (by simp) (by simp [young])
  simp [↓ql, ↓qn, ↓qo, ↓qi, ↓qh, ↓qj, ↓qk, ↓qm, ↓zs, ↓zp, ↓zr, ↓zt, ↓zq, ↓zl, ↓zm, ↓zk, ↓zo, ↓zn, ↓qq, ↓qp, ↓qw, ↓qx, ↓zg, ↓qy, ↓qv, ↓qr, ↓zh, ↓qu, ↓qt, ↓qs, ↓qz, ↓zb, ↓za, ↓zd, ↓ze, ↓zf, ↓zw, ↓zu, ↓zy, ↓zx, ↓qb, ↓qa, ↓qd, ↓qc, ↓qe, ↓qg, ↓qf, ↓zj, ↓zi, hI.factors, hI.editions, hI.mosts, hI.weights, hI.anyN, lt22_s9]
  refine y_word hP (S := srcV s) (by simp) (by simp) _ (PS.bind h (fun ts' e h => ?_) (fun a ts' ha h => ?_))
  · simp
    exact leave_s (h s) (by simp) (by simp [young])
  simp [↓ql, ↓qn, ↓qo, ↓qi, ↓qh, ↓qj, ↓qk, ↓qm, ↓zs, ↓zp, ↓zr, ↓zt, ↓zq, ↓zl, ↓zm, ↓zk, ↓zo, ↓zn, ↓qq, ↓qp, ↓qw, ↓qx, ↓zg, ↓qy, ↓qv, ↓qr, ↓zh, ↓qu, ↓qt, ↓qs, ↓qz, ↓zb, ↓za, ↓zd, ↓ze, ↓zf, ↓zw, ↓zu, ↓zy, ↓zx, ↓qb, ↓qa, ↓qd, ↓qc, ↓qe, ↓qg, ↓qf, ↓zj, ↓zi, hI.factors, hI.editions, hI.mosts, hI.weights, hI.anyN, lt22_s8]
  refine y_name hP (S := srcV s) (by simp) (by simp) (PS.bind h (fun ts' e h => ?_) (fun a ts' ha h => ?_))
  · simp
    exact leave_s (h s) (by simp) (by simp [young])
  simp [↓ql, ↓qn, ↓qo, ↓qi, ↓qh, ↓qj, ↓qk, ↓qm, ↓zs, ↓zp, ↓zr, ↓zt, ↓zq, ↓zl, ↓zm, ↓zk, ↓zo, ↓zn, ↓qq, ↓qp, ↓qw, ↓qx, ↓zg, ↓qy, ↓qv, ↓qr, ↓zh, ↓qu, ↓qt, ↓qs, ↓qz, ↓zb, ↓za, ↓zd, ↓ze, ↓zf, ↓zw, ↓zu, ↓zy, ↓zx, ↓qb, ↓qa, ↓qd, ↓qc, ↓qe, ↓qg, ↓qf, ↓zj, ↓zi, hI.factors, hI.editions, hI.mosts, hI.weights, hI.anyN, lt22_s7]
  refine y_sign hP (S := srcV s) (by simp) (by simp) _ (PS.bind h (fun ts' e h => ?_) (fun a ts' ha h => ?_))
  · simp
    exact leave_s (h s) (by simp) (by simp [young])
  simp [↓ql, ↓qn, ↓qo, ↓qi, ↓qh, ↓qj, ↓qk, ↓qm, ↓zs, ↓zp, ↓zr, ↓zt, ↓zq, ↓zl, ↓zm, ↓zk, ↓zo, ↓zn, ↓qq, ↓qp, ↓qw, ↓qx, ↓zg, ↓qy, ↓qv, ↓qr, ↓zh, ↓qu, ↓qt, ↓qs, ↓qz, ↓zb, ↓za, ↓zd, ↓ze, ↓zf, ↓zw, ↓zu, ↓zy, ↓zx, ↓qb, ↓qa, ↓qd, ↓qc, ↓qe, ↓qg, ↓qf, ↓zj, ↓zi, hI.factors, hI.editions, hI.mosts, hI.weights, hI.anyN, lt22_s6]
  refine y_next hP (S := srcV s) (ts := ts') (en := en) (by simp) (by simp) _ _ ?_
  cases hn : nextB 1 [102, 114, 111, 109] ts' with
  | false =>
    simp only [ifM, hn, Bool.false_eq_true, if_false] at h
    simp [↓ql, ↓qn, ↓qo, ↓qi, ↓qh, ↓qj, ↓qk, ↓qm, ↓zs, ↓zp, ↓zr, ↓zt, ↓zq, ↓zl, ↓zm, ↓zk, ↓zo, ↓zn, ↓qq, ↓qp, ↓qw, ↓qx, ↓zg, ↓qy, ↓qv, ↓qr, ↓zh, ↓qu, ↓qt, ↓qs, ↓qz, ↓zb, ↓za, ↓zd, ↓ze, ↓zf, ↓zw, ↓zu, ↓zy, ↓zx, ↓qb, ↓qa, ↓qd, ↓qc, ↓qe, ↓qg, ↓qf, ↓zj, ↓zi, lt22_s5]
    refine y_fail hP (S := srcV s) (ts := ts') (en := en) (by simp) (by simp) _ ?_
    simp
    exact leave_s (h s) (by simp) (by simp [young])
  | true =>
    simp only [ifM, hn, if_true] at h
    simp [↓ql, ↓qn, ↓qo, ↓qi, ↓qh, ↓qj, ↓qk, ↓qm, ↓zs, ↓zp, ↓zr, ↓zt, ↓zq, ↓zl, ↓zm, ↓zk, ↓zo, ↓zn, ↓qq, ↓qp, ↓qw, ↓qx, ↓zg, ↓qy, ↓qv, ↓qr, ↓zh, ↓qu, ↓qt, ↓qs, ↓qz, ↓zb, ↓za, ↓zd, ↓ze, ↓zf, ↓zw, ↓zu, ↓zy, ↓zx, ↓qb, ↓qa, ↓qd, ↓qc, ↓qe, ↓qg, ↓qf, ↓zj, ↓zi, lt22_s5, lt22_s4]
    refine y_begins hP (ts := ts') (en := en) (S := srcV s) (by simp) _ 12 (by simp) ?_
    simp [↓ql, ↓qn, ↓qo, ↓qi, ↓qh, ↓qj, ↓qk, ↓qm, ↓zs, ↓zp, ↓zr, ↓zt, ↓zq, ↓zl, ↓zm, ↓zk, ↓zo, ↓zn, ↓qq, ↓qp, ↓qw, ↓qx, ↓zg, ↓qy, ↓qv, ↓qr, ↓zh, ↓qu, ↓qt, ↓qs, ↓qz, ↓zb, ↓za, ↓zd, ↓ze, ↓zf, ↓zw, ↓zu, ↓zy, ↓zx, ↓qb, ↓qa, ↓qd, ↓qc, ↓qe, ↓qg, ↓qf, ↓zj, ↓zi]
    refine y_listF hP (S := srcV s) (by simp) (by simp) (enc := From.enc) (by simp) (nextB 1 [102, 114, 111, 109]) fromM 3 (by decide) _ _ [] _ [.ptr 4 []] [] (call_y hP).2.2.1 (call_y hP).2.2.2.1 14 (by simp) (fun ts o K h => ?_) (fun ts o K h => ?_) (PS.bind h (fun ts' e h => ?_) (fun a ts' ha h => ?_))
    · exact y_begins1 hP (S := srcV s) (p := 4) (ts := ts) (en := en) (t := [102, 114, 111, 109]) (by simp) (by simp) (by simp) (by simp) (by simpa using h)
    · exact y_from hP (S := srcV s) (by simp) (p := 4) (ts := ts) (en := en) (by simp) h
    · simp
      exact leave_s (h s) (by simp) (by simp [young])
    simp [↓ql, ↓qn, ↓qo, ↓qi, ↓qh, ↓qj, ↓qk, ↓qm, ↓zs, ↓zp, ↓zr, ↓zt, ↓zq, ↓zl, ↓zm, ↓zk, ↓zo, ↓zn, ↓qq, ↓qp, ↓qw, ↓qx, ↓zg, ↓qy, ↓qv, ↓qr, ↓zh, ↓qu, ↓qt, ↓qs, ↓qz, ↓zb, ↓za, ↓zd, ↓ze, ↓zf, ↓zw, ↓zu, ↓zy, ↓zx, ↓qb, ↓qa, ↓qd, ↓qc, ↓qe, ↓qg, ↓qf, ↓zj, ↓zi, hI.factors, hI.editions, hI.mosts, hI.weights, hI.anyN, lt22_s3]
    refine y_begins hP (ts := ts') (en := en) (S := srcV s) (by simp) _ 14 (by simp) ?_
    simp [↓ql, ↓qn, ↓qo, ↓qi, ↓qh, ↓qj, ↓qk, ↓qm, ↓zs, ↓zp, ↓zr, ↓zt, ↓zq, ↓zl, ↓zm, ↓zk, ↓zo, ↓zn, ↓qq, ↓qp, ↓qw, ↓qx, ↓zg, ↓qy, ↓qv, ↓qr, ↓zh, ↓qu, ↓qt, ↓qs, ↓qz, ↓zb, ↓za, ↓zd, ↓ze, ↓zf, ↓zw, ↓zu, ↓zy, ↓zx, ↓qb, ↓qa, ↓qd, ↓qc, ↓qe, ↓qg, ↓qf, ↓zj, ↓zi]
    refine y_listA hP (S := srcV s) (by simp) (by simp) (enc := Atom.enc) (by simp) (nextB 1 [119, 104, 101, 114, 101]) whereM 8 (by decide) _ _ [] _ [.ptr 4 []] [] (call_y hP).2.2.1 (call_y hP).2.2.2.2.1 16 (by simp) (fun ts o K h => ?_) (fun ts o K h => ?_) (PS.bind h (fun ts' e h => ?_) (fun a ts' ha h => ?_))
    · exact y_begins1 hP (S := srcV s) (p := 4) (ts := ts) (en := en) (t := [119, 104, 101, 114, 101]) (by simp) (by simp) (by simp) (by simp) (by simpa using h)
    · exact y_where hP (S := srcV s) (by simp) (p := 4) (ts := ts) (en := en) (by simp) hI h
    · simp
      exact leave_s (h s) (by simp) (by simp [young])
    simp [↓ql, ↓qn, ↓qo, ↓qi, ↓qh, ↓qj, ↓qk, ↓qm, ↓zs, ↓zp, ↓zr, ↓zt, ↓zq, ↓zl, ↓zm, ↓zk, ↓zo, ↓zn, ↓qq, ↓qp, ↓qw, ↓qx, ↓zg, ↓qy, ↓qv, ↓qr, ↓zh, ↓qu, ↓qt, ↓qs, ↓qz, ↓zb, ↓za, ↓zd, ↓ze, ↓zf, ↓zw, ↓zu, ↓zy, ↓zx, ↓qb, ↓qa, ↓qd, ↓qc, ↓qe, ↓qg, ↓qf, ↓zj, ↓zi, hI.factors, hI.editions, hI.mosts, hI.weights, hI.anyN, lt22_s2]
    refine y_begins hP (ts := ts') (en := en) (S := srcV s) (by simp) _ 16 (by simp) ?_
    simp [↓ql, ↓qn, ↓qo, ↓qi, ↓qh, ↓qj, ↓qk, ↓qm, ↓zs, ↓zp, ↓zr, ↓zt, ↓zq, ↓zl, ↓zm, ↓zk, ↓zo, ↓zn, ↓qq, ↓qp, ↓qw, ↓qx, ↓zg, ↓qy, ↓qv, ↓qr, ↓zh, ↓qu, ↓qt, ↓qs, ↓qz, ↓zb, ↓za, ↓zd, ↓ze, ↓zf, ↓zw, ↓zu, ↓zy, ↓zx, ↓qb, ↓qa, ↓qd, ↓qc, ↓qe, ↓qg, ↓qf, ↓zj, ↓zi]
    refine y_listS hP (S := srcV s) (by simp) (by simp) (enc := SetT.enc) (by simp) (nextB 1 [115, 101, 116]) setM 11 (by decide) _ _ [] _ [.ptr 4 []] [] (call_y hP).2.2.1 (call_y hP).2.2.2.2.2.1 18 (by simp) (fun ts o K h => ?_) (fun ts o K h => ?_) (PS.bind h (fun ts' e h => ?_) (fun a ts' ha h => ?_))
    · exact y_begins1 hP (S := srcV s) (p := 4) (ts := ts) (en := en) (t := [115, 101, 116]) (by simp) (by simp) (by simp) (by simp) (by simpa using h)
    · exact y_set hP (S := srcV s) (by simp) (p := 4) (ts := ts) (en := en) (by simp) hI h
    · simp
      exact leave_s (h s) (by simp) (by simp [young])
    simp [↓ql, ↓qn, ↓qo, ↓qi, ↓qh, ↓qj, ↓qk, ↓qm, ↓zs, ↓zp, ↓zr, ↓zt, ↓zq, ↓zl, ↓zm, ↓zk, ↓zo, ↓zn, ↓qq, ↓qp, ↓qw, ↓qx, ↓zg, ↓qy, ↓qv, ↓qr, ↓zh, ↓qu, ↓qt, ↓qs, ↓qz, ↓zb, ↓za, ↓zd, ↓ze, ↓zf, ↓zw, ↓zu, ↓zy, ↓zx, ↓qb, ↓qa, ↓qd, ↓qc, ↓qe, ↓qg, ↓qf, ↓zj, ↓zi, hI.factors, hI.editions, hI.mosts, hI.weights, hI.anyN, lt22_s1]
    refine y_sign hP (S := srcV s) (by simp) (by simp) _ (PS.bind h (fun ts' e h => ?_) (fun a ts' ha h => ?_))
    · simp
      exact leave_s (h s) (by simp) (by simp [young])
    simp [↓ql, ↓qn, ↓qo, ↓qi, ↓qh, ↓qj, ↓qk, ↓qm, ↓zs, ↓zp, ↓zr, ↓zt, ↓zq, ↓zl, ↓zm, ↓zk, ↓zo, ↓zn, ↓qq, ↓qp, ↓qw, ↓qx, ↓zg, ↓qy, ↓qv, ↓qr, ↓zh, ↓qu, ↓qt, ↓qs, ↓qz, ↓zb, ↓za, ↓zd, ↓ze, ↓zf, ↓zw, ↓zu, ↓zy, ↓zx, ↓qb, ↓qa, ↓qd, ↓qc, ↓qe, ↓qg, ↓qf, ↓zj, ↓zi, hI.factors, hI.editions, hI.mosts, hI.weights, hI.anyN, lt22_s0]
    refine ⟨by have := hs.rules; omega, ?_⟩
    exact leave_s (s := { s with rules := s.rules ++ [⟨_, _, _, _⟩] }) h (by simp) (by simp [young]; rfl)
end
end Go.Proofs.YtanpgmgkmfckaaaGreatDoor
