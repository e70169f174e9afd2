/- Texts of this claim joined by a program, part 6 of 13; the last is: An evaluator of statements and functions, and that what it yields holds. Over any program; no condition. -/
import Derived.Test.YtmapdjjigmkbfaaGreatDoorT4
import Derived.Test.YtmapdjjigmkbfaaGreatDoorT5
import Derived.Test.YtmapdjjigmkbfaaGreatDoorProg
import Derived.KernelRfl
set_option linter.unusedSimpArgs false
set_option linter.unusedVariables false
set_option linter.unusedSectionVars false
set_option linter.defProp false
/- The abstract statements that stand for the code of these functions, written by a program from the translation; that they do is checked by the kernel. No condition. -/
namespace Go.Proofs.YtmapdjjigmkbfaaGreatDoor
open Go Go.Ab
set_option maxRecDepth 100000
def X76 : FSt := .pre (.rg [] [.op (some 2) (.box 32 (.t 0)),
   .op (some 4) (.alloc 44 (.agg [.str [], .int .i64 0, .nils, .agg [.int .i64 0, .int .i64 0, .nils, .agg [.int .i64 0, .agg [.str [], .str [], .int .i64 0, .int .i64 0, .int .i64 0], .agg [.str [], .str [], .int .i64 0, .int .i64 0, .int .i64 0]]]])),
   .op (some 5) (.alloc 3 (.int .i64 0)),
   .op (some 6) (.alloc 45 (.int .i64 0))] [1, 2, 4, 5, 6] [])
 (.pre (.rg [] [.op (some 12) (.c (.mv (.t 1))),
   .op (some 13) (.pcall 16 [(.t 12)]),
   .op (some 11) (.c (.mv (.t 13))),
   .op (some 14) (.c (.ext (.t 11) 0)),
   .op (some 15) (.c (.ext (.t 11) 1)),
   .op (some 16) (.c (.ext (.t 11) 2)),
   .op (some 7) (.c (.mv (.t 14))),
   .op none (.st 1 (.t 5) (.t 15)),
   .op none (.st 1 (.t 6) (.t 16))] [1, 2, 4, 5, 6, 7] [])
 (.pre (.seq (.rg [] [.op (some 17) (.c (.ld 1 false (.t 6))),
   .op (some 18) (.c (.bin .neq (.t 17) (.int .i64 0)))] [1, 2, 4, 5, 6, 7, 18] [])
 (.cond (.t 18) (.seq (.rgT 6 (.one 0 (.op (some 19) (.c (.ld 17 true (.t 4))))
  (.br (.cons 1 (.op (some 20) (.c (.ld 1 false (.t 5)))) (.br (.cons 2 (.op (some 21) (.c (.ld 1 false (.t 6)))) (.one 3 (.op none (.st 17 (.t 4) (.t 19)))
  (.one 4 (.op none (.st 1 (.t 5) (.t 20)))
  (.one 5 (.op none (.st 1 (.t 6) (.t 21)))
  (.done))))
  (.cons 3 (.op none (.st 17 (.t 4) (.t 19))) (.br (.cons 2 (.op (some 21) (.c (.ld 1 false (.t 6)))) (.one 4 (.op none (.st 1 (.t 5) (.t 20)))
  (.one 5 (.op none (.st 1 (.t 6) (.t 21)))
  (.done)))
  (.cons 4 (.op none (.st 1 (.t 5) (.t 20))) (.br (.cons 2 (.op (some 21) (.c (.ld 1 false (.t 6)))) (.one 5 (.op none (.st 1 (.t 6) (.t 21)))
  (.done))
  (.nil)))
  (.nil))))
  (.nil))))
  (.cons 2 (.op (some 21) (.c (.ld 1 false (.t 6)))) (.br (.cons 1 (.op (some 20) (.c (.ld 1 false (.t 5)))) (.one 3 (.op none (.st 17 (.t 4) (.t 19)))
  (.one 4 (.op none (.st 1 (.t 5) (.t 20)))
  (.one 5 (.op none (.st 1 (.t 6) (.t 21)))
  (.done))))
  (.cons 3 (.op none (.st 17 (.t 4) (.t 19))) (.br (.cons 1 (.op (some 20) (.c (.ld 1 false (.t 5)))) (.one 4 (.op none (.st 1 (.t 5) (.t 20)))
  (.one 5 (.op none (.st 1 (.t 6) (.t 21)))
  (.done)))
  (.nil)))
  (.nil))))
  (.cons 3 (.op none (.st 17 (.t 4) (.t 19))) (.br (.cons 1 (.op (some 20) (.c (.ld 1 false (.t 5)))) (.br (.cons 2 (.op (some 21) (.c (.ld 1 false (.t 6)))) (.one 4 (.op none (.st 1 (.t 5) (.t 20)))
  (.one 5 (.op none (.st 1 (.t 6) (.t 21)))
  (.done)))
  (.cons 4 (.op none (.st 1 (.t 5) (.t 20))) (.br (.cons 2 (.op (some 21) (.c (.ld 1 false (.t 6)))) (.one 5 (.op none (.st 1 (.t 6) (.t 21)))
  (.done))
  (.nil)))
  (.nil))))
  (.cons 2 (.op (some 21) (.c (.ld 1 false (.t 6)))) (.br (.cons 1 (.op (some 20) (.c (.ld 1 false (.t 5)))) (.one 4 (.op none (.st 1 (.t 5) (.t 20)))
  (.one 5 (.op none (.st 1 (.t 6) (.t 21)))
  (.done)))
  (.nil)))
  (.nil))))
  (.nil)))))) [4, 5, 6] [])
 (.ret)) (.skip)))
 (.dfr [.op (some 22) (.c (.mkf 25 [] [(.t 4), (.t 5), (.t 6)]))] [1, 2, 4, 5, 6, 7, 22] 22
 (.seq (.rg [] [.op (some 23) (.c (.mv (.t 7))),
   .op (some 24) (.c (.mv (.t 1))),
   .op (some 25) (.c (.lenS (.t 24))),
   .op (some 26) (.c (.bld [.nils, .int .i64 0, .nilm] [(0, (.t 23)), (1, (.t 25))])),
   .op (some 27) (.box 90 (.t 26)),
   .op (some 8) (.c (.mv (.t 27)))] [2, 4, 5, 6, 8] [4, 5, 6])
 (.seq (.rg [] [.op (some 28) (.c (.mv (.t 8))),
   .op (some 29) (.c (.mv (.t 8))),
   .op (some 30) (.call 26 [(.t 29)]),
   .op (some 31) (.c (.nilc (.t 28))),
   .op (some 32) (.c (.fldA 2 2 (.t 31))),
   .op none (.st 1 (.t 32) (.t 30))] [2, 4, 5, 6, 8] [4, 5, 6])
 (.seq (.rg [] [.op (some 33) (.c (.mv (.t 8))),
   .op (some 34) (.call 27 [(.t 33)]),
   .op (some 9) (.alloc 93 (.agg [.agg [.str [], .int .i64 0, .nils, .agg [.int .i64 0, .int .i64 0, .nils, .agg [.int .i64 0, .agg [.str [], .str [], .int .i64 0, .int .i64 0, .int .i64 0], .agg [.str [], .str [], .int .i64 0, .int .i64 0, .int .i64 0]]]], .str []])),
   .op none (.st 18 (.t 9) (.t 34))] [2, 4, 5, 6, 9] [4, 5, 6])
 (.seq (.rg [] [.op (some 35) (.c (.fldA 0 0 (.t 2))),
   .op (some 36) (.c (.ld 6 true (.t 35))),
   .op (some 37) (.c (.bld [.agg [.nils, .nils, .nils, .nils, .nils, .nils], .nils] [(0, (.t 36))])),
   .op (some 38) (.c (.ld 18 true (.t 9))),
   .op (some 39) (.call 28 [(.t 37), (.t 38)]),
   .op none (.st 17 (.t 4) (.t 39))] [2, 4, 5, 6] [4, 5, 6])
 (.seq (.seq (.rg [] [.op (some 40) (.c (.ld 7 true (.t 2))),
   .op (some 41) (.ldg 17 true (.t 4)),
   .op (some 42) (.pcall 15 [(.t 40), (.t 41)]),
   .op (some 10) (.c (.mv (.t 42)))] [4, 5, 6, 10] [4, 5, 6])
 (.seq (.rg [] [.op (some 43) (.c (.mv (.t 10))),
   .op (some 44) (.c (.bin .neq (.t 43) (.int .i64 0)))] [4, 5, 6, 10, 44] [4, 5, 6])
 (.cond (.t 44) (.seq (.rg [] [.op (some 45) (.c (.bld [.str [], .int .i64 0, .nils, .agg [.int .i64 0, .int .i64 0, .nils, .agg [.int .i64 0, .agg [.str [], .str [], .int .i64 0, .int .i64 0, .int .i64 0], .agg [.str [], .str [], .int .i64 0, .int .i64 0, .int .i64 0]]]] [])),
   .op (some 46) (.c (.mv (.t 10))),
   .op none (.st 17 (.t 4) (.t 45)),
   .op none (.st 1 (.t 5) (.int .i64 0)),
   .op none (.st 1 (.t 6) (.t 46))] [4, 5, 6] [4, 5, 6])
 (.ret)) (.skip))))
 (.seq (.rg [] [.op (some 47) (.c (.ld 17 true (.t 4))),
   .op none (.st 17 (.t 4) (.t 47)),
   .op none (.st 1 (.t 5) (.int .i64 0)),
   .op none (.st 1 (.t 6) (.int .i64 0))] [4, 5, 6] [4, 5, 6])
 (.ret))))))))))
theorem X94 : Xjl Tryz.prog 10 2 X76 [.c 4 17 true, .c 5 1 false, .c 6 1 false] = true := by kernel_rfl
def Xtq : S := .rg [] [.op (some 65) (.c (.bin .add (.t 41) (.int .i64 1))),
   .op (some 41) (.c (.mv (.t 65)))] [3, 7, 39, 40, 41] []
def Xvg : S := .rg [] [.op (some 61) (.c (.mv (.t 7))),
   .op (some 62) (.c (.mki 116 (.str [59]))),
   .op (some 63) (.bls 1 [.nili] [(0, (.t 62))]),
   .op (some 64) (.call 38 [(.t 61), (.t 63)])] [3, 7, 39, 40, 41] []
def Xst : S := .seq (.rg [] [.op (some 42) (.c (.bin .lss (.t 41) (.t 40)))] [3, 7, 39, 40, 41, 42] [])
 (.seq (.cond (.t 42) (.skip) (.exit 0))
 (.seq (.block 1 (.seq (.rg [] [.op (some 43) (.c (.idxA 4 (.t 39) (.t 41))),
   .op (some 44) (.c (.ld 4 true (.t 43))),
   .op (some 9) (.alloc 63 (.agg [.str [], .str [], .int .i64 0, .bool false])),
   .op none (.st 4 (.t 9) (.t 44))] [3, 7, 9, 39, 40, 41] [])
 (.seq (.rg [] [.op (some 45) (.c (.mv (.t 7))),
   .op (some 46) (.c (.mki 112 (.str [102, 114, 111, 109]))),
   .op (some 47) (.c (.fldA 0 0 (.t 9))),
   .op (some 48) (.c (.ld 1 false (.t 47))),
   .op (some 49) (.c (.mki 9 (.t 48))),
   .op (some 50) (.c (.fldA 1 1 (.t 9))),
   .op (some 51) (.c (.ld 1 false (.t 50))),
   .op (some 52) (.c (.mki 9 (.t 51))),
   .op (some 53) (.bls 1 [.nili, .nili, .nili] [(0, (.t 46)), (1, (.t 49)), (2, (.t 52))]),
   .op (some 54) (.call 38 [(.t 45), (.t 53)])] [3, 7, 9, 39, 40, 41] [])
 (.seq (.seq (.rg [] [.op (some 55) (.c (.fldA 3 3 (.t 9))),
   .op (some 56) (.c (.ld 1 false (.t 55)))] [3, 7, 39, 40, 41, 56] [])
 (.cond (.t 56) (.rg [] [.op (some 57) (.c (.mv (.t 7))),
   .op (some 58) (.c (.mki 112 (.str [111, 116, 104, 101, 114]))),
   .op (some 59) (.bls 1 [.nili] [(0, (.t 58))]),
   .op (some 60) (.call 38 [(.t 57), (.t 59)])] [3, 7, 39, 40, 41] []) (.skip)))
 (Xvg)))))
 (Xtq)))
def X51 : S := .seq (.rg [] [.op (some 2) (.box 32 (.t 0)),
   .op (some 3) (.box 44 (.t 1)),
   .op (some 4) (.c (.mv (.str []))),
   .op (some 5) (.c (.mv (.int .i64 0)))] [2, 3] [])
 (.seq (.seq (.rg [] [.op (some 10) (.c (.ld 7 true (.t 2))),
   .op (some 11) (.c (.ld 17 true (.t 3))),
   .op (some 12) (.pcall 15 [(.t 10), (.t 11)]),
   .op (some 6) (.c (.mv (.t 12)))] [2, 3, 6] [])
 (.seq (.rg [] [.op (some 13) (.c (.mv (.t 6))),
   .op (some 14) (.c (.bin .neq (.t 13) (.int .i64 0)))] [2, 3, 6, 14] [])
 (.cond (.t 14) (.seq (.rg [] [.op (some 15) (.c (.mv (.t 6))),
   .op (some 4) (.c (.mv (.str []))),
   .op (some 5) (.c (.mv (.t 15)))] [4, 5] [])
 (.ret)) (.skip))))
 (.seq (.rg [] [.op (some 16) (.c (.fldA 2 2 (.t 3))),
   .op (some 17) (.c (.ld 1 false (.t 16))),
   .op (some 18) (.c (.bld [.nils, .nils] [(1, (.t 17))])),
   .op (some 19) (.box 110 (.t 18)),
   .op (some 7) (.c (.mv (.t 19)))] [2, 3, 7] [])
 (.seq (.rg [0, 1, 2, 5, 6, 7, 9, 15, 3, 4, 8, 10, 11, 12, 13, 14, 16, 17] [.op (some 20) (.c (.mv (.t 7))),
   .op (some 21) (.c (.mki 112 (.str [97, 115, 107]))),
   .op (some 22) (.c (.fldA 0 0 (.t 3))),
   .op (some 25) (.c (.mki 112 (.str [102, 111, 114]))),
   .op (some 26) (.c (.fldA 0 0 (.t 2))),
   .op (some 27) (.c (.fldA 5 5 (.t 26))),
   .op (some 29) (.c (.fldA 1 1 (.t 3))),
   .op (some 35) (.c (.mki 116 (.str [123]))),
   .op (some 23) (.c (.ld 1 false (.t 22))),
   .op (some 24) (.c (.mki 9 (.t 23))),
   .op (some 28) (.c (.ld 1 false (.t 27))),
   .op (some 30) (.c (.ld 1 false (.t 29))),
   .op (some 31) (.c (.idxA 3 (.t 28) (.t 30))),
   .op (some 32) (.c (.fldA 0 0 (.t 31))),
   .op (some 33) (.c (.ld 1 false (.t 32))),
   .op (some 34) (.c (.mki 9 (.t 33))),
   .op (some 36) (.bls 1 [.nili, .nili, .nili, .nili, .nili] [(0, (.t 21)), (1, (.t 24)), (2, (.t 25)), (3, (.t 34)), (4, (.t 35))]),
   .op (some 37) (.call 38 [(.t 20), (.t 36)])] [3, 7] [])
 (.seq (.seq (.rg [] [.op (some 38) (.c (.fldA 2 2 (.t 3))),
   .op (some 39) (.c (.ld 1 false (.t 38))),
   .op (some 40) (.c (.lenL (.t 39))),
   .op (some 41) (.c (.mv (.int .i64 0)))] [3, 7, 39, 40, 41] [])
 (.block 0 (.loop [3, 7, 39, 40, 41] Xst)))
 (.seq (.rg [] [.op (some 66) (.c (.mv (.t 7))),
   .op (some 67) (.c (.fldA 3 3 (.t 3))),
   .op (some 68) (.c (.ld 14 true (.t 67))),
   .op (some 69) (.c (.mki 42 (.t 68))),
   .op (some 70) (.c (.mki 116 (.str [59]))),
   .op (some 71) (.c (.mki 116 (.str [125]))),
   .op (some 72) (.bls 1 [.nili, .nili, .nili] [(0, (.t 69)), (1, (.t 70)), (2, (.t 71))]),
   .op (some 73) (.call 38 [(.t 66), (.t 72)])] [7] [])
 (.seq (.rg [] [.op (some 74) (.c (.mv (.t 7))),
   .op (some 75) (.c (.nilc (.t 74))),
   .op (some 76) (.c (.fldA 0 0 (.t 75))),
   .op (some 77) (.c (.ld 1 false (.t 76))),
   .op (some 78) (.pcall 17 [(.t 77)]),
   .op (some 79) (.c (.ext (.t 78) 0)),
   .op (some 80) (.c (.ext (.t 78) 1)),
   .op (some 4) (.c (.mv (.t 79))),
   .op (some 5) (.c (.mv (.t 80)))] [4, 5] [])
 (.ret)))))))
theorem X91 : Xt Tryz.prog 14 2 X51 [.t 4, .t 5] = true := by kernel_rfl
def X5f : S := .seq (.rg [] [.op (some 0) (.alloc 32 (.agg [.agg [.nils, .nils, .nils, .nils, .nils, .nils], .nils]))] [0] [])
 (.seq (.rg [] [.op (some 6) (.c (.bld [.int .i64 0, .int .i64 0, .int .i64 0, .str [], .int .i64 0, .nils] [(0, (.int .i64 3)), (2, (.int .i64 4095)), (4, (.int .i64 (-1)))])),
   .op (some 7) (.c (.bld [.str [], .agg [.int .i64 0, .int .i64 0, .int .i64 0, .str [], .int .i64 0, .nils], .agg (List.replicate 4 (.int .i64 0))] [(0, (.str [115, 101, 108, 102])), (1, (.t 6))])),
   .op (some 1) (.alloc 148 (.agg [.str [], .agg [.int .i64 0, .int .i64 0, .int .i64 0, .str [], .int .i64 0, .nils], .agg (List.replicate 4 (.int .i64 0))])),
   .op none (.st 11 (.t 1) (.t 7))] [0, 1] [])
 (.seq (.rg [] [.op (some 8) (.c (.bld [.int .i64 0, .int .i64 0, .int .i64 0, .str [], .int .i64 0, .nils] [(0, (.int .i64 2)), (2, (.int .i64 1023)), (4, (.int .i64 (-1)))])),
   .op (some 9) (.c (.bld [.str [], .agg [.int .i64 0, .int .i64 0, .int .i64 0, .str [], .int .i64 0, .nils], .agg (List.replicate 4 (.int .i64 0))] [(0, (.str [100, 97, 121])), (1, (.t 8))])),
   .op (some 2) (.alloc 148 (.agg [.str [], .agg [.int .i64 0, .int .i64 0, .int .i64 0, .str [], .int .i64 0, .nils], .agg (List.replicate 4 (.int .i64 0))])),
   .op none (.st 11 (.t 2) (.t 9))] [0, 1, 2] [])
 (.seq (.rg [] [.op (some 10) (.c (.bld [.int .i64 0, .int .i64 0, .int .i64 0, .str [], .int .i64 0, .nils] [(0, (.int .i64 3)), (2, (.int .i64 4095)), (4, (.int .i64 (-1)))])),
   .op (some 11) (.c (.bld [.str [], .agg [.int .i64 0, .int .i64 0, .int .i64 0, .str [], .int .i64 0, .nils], .agg (List.replicate 4 (.int .i64 0))] [(0, (.str [109, 111, 116, 104, 101, 114])), (1, (.t 10))])),
   .op (some 3) (.alloc 148 (.agg [.str [], .agg [.int .i64 0, .int .i64 0, .int .i64 0, .str [], .int .i64 0, .nils], .agg (List.replicate 4 (.int .i64 0))])),
   .op none (.st 11 (.t 3) (.t 11))] [0, 1, 2, 3] [])
 (.seq (.rg [] [.op (some 12) (.c (.bld [.int .i64 0, .int .i64 0, .int .i64 0, .str [], .int .i64 0, .nils] [(0, (.int .i64 1)), (2, (.int .i64 250)), (4, (.int .i64 (-1)))])),
   .op (some 13) (.c (.bld [.str [], .agg [.int .i64 0, .int .i64 0, .int .i64 0, .str [], .int .i64 0, .nils], .agg (List.replicate 4 (.int .i64 0))] [(0, (.str [104, 105, 103, 104])), (1, (.t 12))])),
   .op (some 4) (.alloc 148 (.agg [.str [], .agg [.int .i64 0, .int .i64 0, .int .i64 0, .str [], .int .i64 0, .nils], .agg (List.replicate 4 (.int .i64 0))])),
   .op none (.st 11 (.t 4) (.t 13))] [0, 1, 2, 3, 4] [])
 (.seq (.rg [] [.op (some 14) (.c (.ld 11 true (.t 1))),
   .op (some 15) (.c (.ld 11 true (.t 2))),
   .op (some 16) (.c (.ld 11 true (.t 3))),
   .op (some 17) (.bls 11 [.agg [.str [], .agg [.int .i64 0, .int .i64 0, .int .i64 0, .str [], .int .i64 0, .nils], .agg (List.replicate 4 (.int .i64 0))], .agg [.str [], .agg [.int .i64 0, .int .i64 0, .int .i64 0, .str [], .int .i64 0, .nils], .agg (List.replicate 4 (.int .i64 0))], .agg [.str [], .agg [.int .i64 0, .int .i64 0, .int .i64 0, .str [], .int .i64 0, .nils], .agg (List.replicate 4 (.int .i64 0))]] [(0, (.t 14)), (1, (.t 15)), (2, (.t 16))]),
   .op (some 18) (.c (.bld [.str [], .str [], .int .i64 0, .int .i64 0, .nils, .nils] [(0, (.str [98, 105, 114, 116, 104])), (4, (.t 17))])),
   .op (some 19) (.c (.ld 11 true (.t 1))),
   .op (some 20) (.c (.ld 11 true (.t 4))),
   .op (some 21) (.bls 11 [.agg [.str [], .agg [.int .i64 0, .int .i64 0, .int .i64 0, .str [], .int .i64 0, .nils], .agg (List.replicate 4 (.int .i64 0))], .agg [.str [], .agg [.int .i64 0, .int .i64 0, .int .i64 0, .str [], .int .i64 0, .nils], .agg (List.replicate 4 (.int .i64 0))]] [(0, (.t 19)), (1, (.t 20))]),
   .op (some 22) (.c (.bld [.str [], .str [], .int .i64 0, .int .i64 0, .nils, .nils] [(0, (.str [115, 105, 122, 101])), (4, (.t 21))])),
   .op (some 23) (.bls 6 [.agg [.str [], .str [], .int .i64 0, .int .i64 0, .nils, .nils], .agg [.str [], .str [], .int .i64 0, .int .i64 0, .nils, .nils]] [(0, (.t 18)), (1, (.t 22))]),
   .op (some 24) (.c (.bld [.str [], .nils, .int .i64 0] [(0, (.str [98, 97, 114]))])),
   .op (some 25) (.c (.bld [.str [], .nils, .int .i64 0] [(0, (.str [99, 108, 117, 98]))])),
   .op (some 26) (.bls 3 [.agg [.str [], .nils, .int .i64 0], .agg [.str [], .nils, .int .i64 0]] [(0, (.t 24)), (1, (.t 25))]),
   .op (some 27) (.c (.bld [.nils, .nils, .nils, .nils, .nils, .nils] [(2, (.t 23)), (5, (.t 26))])),
   .op (some 5) (.alloc 29 (.agg [.nils, .nils, .nils, .nils, .nils, .nils])),
   .op none (.st 6 (.t 5) (.t 27))] [0, 5] [])
 (.seq (.rg [] [.op (some 28) (.c (.ld 6 true (.t 5))),
   .op (some 29) (.c (.bld [.agg [.nils, .nils, .nils, .nils, .nils, .nils], .nils] [(0, (.t 28))])),
   .op none (.st 7 (.t 0) (.t 29))] [0] [])
 (.ret)))))))
theorem X93 : Xt Tryz.prog 23 0 X5f [.c 0 7 true] = true := by kernel_rfl
def Xrx : List It := []
def Xym : List Nat := [0, 1, 2, 7]
def X8n : S := .block 0 (.seq (.rg [] [.op (some 9) (.c (.isnil true (.t 7)))] [0, 1, 2, 7, 9] [])
 (.cond (.t 9) (.rg [] [.op (some 3) (.c (.mv (.t 7)))] [] []) (.seq (.rg [] [.op (some 10) (.c (.tas 84 (.int .i64 0) (.t 7))),
   .op (some 11) (.c (.ext (.t 10) 1)),
   .op (some 12) (.c (.ext (.t 10) 0))] [0, 1, 2, 7, 11, 12] [])
 (.cond (.t 11) (.seq (.rg [] [.op (some 4) (.c (.mv (.t 12)))] [0, 1, 2, 4] [])
 (.rg [] [.op (some 13) (.c (.bld [.str [], .int .i64 0, .nils, .agg [.int .i64 0, .int .i64 0, .nils, .agg [.int .i64 0, .agg [.str [], .str [], .int .i64 0, .int .i64 0, .int .i64 0], .agg [.str [], .str [], .int .i64 0, .int .i64 0, .int .i64 0]]]] [])),
   .op (some 14) (.c (.mv (.t 4))),
   .op none (.st 17 (.t 0) (.t 13)),
   .op none (.st 1 (.t 1) (.t 14)),
   .op none (.st 1 (.t 2) (.int .i64 100))] [] [])) (.seq (.rg [] [.op (some 15) (.c (.tas 86 (.agg []) (.t 7))),
   .op (some 16) (.c (.ext (.t 15) 1)),
   .op (some 17) (.c (.ext (.t 15) 0))] [0, 1, 2, 7, 16, 17] [])
 (.cond (.t 16) (.seq (.rg [] [.op (some 5) (.alloc 86 (.agg [])),
   .op none (.st 0 (.t 5) (.t 17))] [0, 1, 2] [])
 (.rg [] [.op (some 18) (.c (.bld [.str [], .int .i64 0, .nils, .agg [.int .i64 0, .int .i64 0, .nils, .agg [.int .i64 0, .agg [.str [], .str [], .int .i64 0, .int .i64 0, .int .i64 0], .agg [.str [], .str [], .int .i64 0, .int .i64 0, .int .i64 0]]]] [])),
   .op none (.st 17 (.t 0) (.t 18)),
   .op none (.st 1 (.t 1) (.int .i64 0)),
   .op none (.st 1 (.t 2) (.int .i64 210))] [] [])) (.seq (.rg [] [.op (some 6) (.c (.mv (.t 7)))] [6] [])
 (.rg [] [.op (some 8) (.c (.mv (.t 6))),
   .op none (.panic (.t 8))] [] []))))))))
theorem Ya0 : Xjc Tryz.prog 25 3 7 Xrx X8n = true := by kernel_rfl
def X7v : S := .seq (.rg [] [.op (some 1) (.box 87 (.t 0)),
   .op (some 2) (.c (.mv .nilm))] [1] [])
 (.seq (.rg [] [.op (some 3) (.mkm none),
   .op (some 4) (.c (.mkf 59 [] [(.t 1)])),
   .op none (.mset (.str []) (.t 3) (.str [97, 108, 108]) (.t 4)),
   .op (some 5) (.c (.mkf 61 [] [(.t 1)])),
   .op none (.mset (.str []) (.t 3) (.str [97, 110, 121]) (.t 5)),
   .op (some 6) (.c (.mkf 62 [] [(.t 1)])),
   .op none (.mset (.str []) (.t 3) (.str [108, 101, 97, 115, 116]) (.t 6)),
   .op (some 7) (.c (.mkf 64 [] [(.t 1)])),
   .op none (.mset (.str []) (.t 3) (.str [104, 97, 115]) (.t 7)),
   .op (some 8) (.c (.mv (.t 3))),
   .op (some 2) (.c (.mv (.t 8)))] [2] [])
 (.ret))
theorem X9w : Xt Tryz.prog 26 1 X7v [.t 2] = true := by kernel_rfl
def Xvs : S := .seq (.rg [] [.op (some 61) (.c (.ld 18 true (.t 2))),
   .op none (.st 18 (.t 2) (.t 61))] [2] [])
 (.ret)
def Xt5 : S := .seq (.seq (.rg [] [.op (some 17) (.c (.mv (.t 0))),
   .op (some 18) (.call 66 [(.t 17), (.int .i64 0), (.int .i64 1), (.str [102, 114, 111, 109])]),
   .op (some 19) (.c (.mv (.t 18))),
   .gop 19 true (some 20) (.c (.mv (.t 0))),
   .gop 19 true (some 21) (.call 66 [(.t 20), (.int .i64 1), (.int .i64 3), (.str [46])]),
   .gop 19 true (some 22) (.c (.not (.t 21))),
   .op (some 23) (.c (.pick (.t 19) (.t 22) (.bool false)))] [0, 2, 23] [])
 (.cond (.t 23) (.skip) (.exit 0)))
 (.block 1 (.seq (.rg [] [.op (some 24) (.c (.mv (.t 0))),
   .op (some 25) (.call 63 [(.t 24), (.int .i64 1), (.str [102, 114, 111, 109])])] [0, 2] [])
 (.seq (.rg [] [.op (some 26) (.c (.mv (.t 0))),
   .op (some 27) (.call 65 [(.t 26)]),
   .op (some 28) (.c (.bld [.str [], .str [], .int .i64 0, .bool false] [(0, (.t 27))])),
   .op (some 3) (.alloc 63 (.agg [.str [], .str [], .int .i64 0, .bool false])),
   .op none (.st 4 (.t 3) (.t 28))] [0, 2, 3] [])
 (.seq (.rg [] [.op (some 29) (.c (.mv (.t 0))),
   .op (some 30) (.call 65 [(.t 29)]),
   .op (some 31) (.c (.fldA 1 1 (.t 3))),
   .op none (.st 1 (.t 31) (.t 30))] [0, 2, 3] [])
 (.seq (.rg [] [.op (some 32) (.c (.mv (.t 0))),
   .op (some 33) (.call 67 [(.t 32), (.int .i64 1), (.str [111, 116, 104, 101, 114])]),
   .op (some 34) (.c (.fldA 3 3 (.t 3))),
   .op none (.st 1 (.t 34) (.t 33))] [0, 2, 3] [])
 (.seq (.rg [] [.op (some 35) (.c (.mv (.t 0))),
   .op (some 36) (.call 63 [(.t 35), (.int .i64 3), (.str [59])])] [0, 2, 3] [])
 (.rg [] [.op (some 37) (.c (.fldA 0 0 (.t 2))),
   .op (some 38) (.c (.fldA 2 2 (.t 37))),
   .op (some 39) (.c (.ld 1 false (.t 38))),
   .op (some 40) (.c (.ld 4 true (.t 3))),
   .op (some 41) (.bls 4 [.agg [.str [], .str [], .int .i64 0, .bool false]] [(0, (.t 40))]),
   .op (some 42) (.app 63 4 48 (.t 39) (.t 41)),
   .op (some 43) (.c (.fldA 0 0 (.t 2))),
   .op (some 44) (.c (.fldA 2 2 (.t 43))),
   .op none (.st 1 (.t 44) (.t 42))] [0, 2] [])))))))
def X6u : S := .seq (.rg [] [.op (some 2) (.alloc 93 (.agg [.agg [.str [], .int .i64 0, .nils, .agg [.int .i64 0, .int .i64 0, .nils, .agg [.int .i64 0, .agg [.str [], .str [], .int .i64 0, .int .i64 0, .int .i64 0], .agg [.str [], .str [], .int .i64 0, .int .i64 0, .int .i64 0]]]], .str []]))] [0, 2] [])
 (.seq (.rg [] [.op (some 4) (.c (.mv (.t 0))),
   .op (some 5) (.call 63 [(.t 4), (.int .i64 1), (.str [97, 115, 107])])] [0, 2] [])
 (.seq (.rg [] [.op (some 6) (.c (.mv (.t 0))),
   .op (some 7) (.call 65 [(.t 6)]),
   .op (some 8) (.c (.fldA 0 0 (.t 2))),
   .op (some 9) (.c (.fldA 0 0 (.t 8))),
   .op none (.st 1 (.t 9) (.t 7))] [0, 2] [])
 (.seq (.rg [] [.op (some 10) (.c (.mv (.t 0))),
   .op (some 11) (.call 63 [(.t 10), (.int .i64 1), (.str [102, 111, 114])])] [0, 2] [])
 (.seq (.rg [] [.op (some 12) (.c (.mv (.t 0))),
   .op (some 13) (.call 65 [(.t 12)]),
   .op (some 14) (.c (.fldA 1 17 (.t 2))),
   .op none (.st 1 (.t 14) (.t 13))] [0, 2] [])
 (.seq (.rg [] [.op (some 15) (.c (.mv (.t 0))),
   .op (some 16) (.call 63 [(.t 15), (.int .i64 3), (.str [123])])] [0, 2] [])
 (.seq (.block 0 (.loop [0, 2] Xt5))
 (.seq (.rg [] [.op (some 45) (.c (.mv (.t 0))),
   .op (some 46) (.call 68 [(.t 45)]),
   .op (some 47) (.c (.fldA 0 0 (.t 2))),
   .op (some 48) (.c (.fldA 3 3 (.t 47))),
   .op none (.st 14 (.t 48) (.t 46))] [0, 2] [])
 (.seq (.rg [] [.op (some 49) (.c (.mv (.t 0))),
   .op (some 50) (.call 63 [(.t 49), (.int .i64 3), (.str [59])])] [0, 2] [])
 (.seq (.rg [] [.op (some 51) (.c (.mv (.t 0))),
   .op (some 52) (.call 63 [(.t 51), (.int .i64 3), (.str [125])])] [0, 2] [])
 (.seq (.seq (.rg [] [.op (some 53) (.c (.mv (.t 0))),
   .op (some 54) (.c (.nilc (.t 53))),
   .op (some 55) (.c (.fldA 0 0 (.t 54))),
   .op (some 56) (.c (.ld 1 false (.t 55))),
   .op (some 57) (.c (.lenL (.t 56))),
   .op (some 58) (.c (.bin .gtr (.t 57) (.int .i64 0)))] [0, 2, 58] [])
 (.cond (.t 58) (.rg [] [.op (some 59) (.c (.mv (.t 0))),
   .op (some 60) (.call 69 [(.t 59)])] [2] []) (.skip)))
 (Xvs)))))))))))
theorem X9r : Xt Tryz.prog 27 1 X6u [.c 2 18 true] = true := by kernel_rfl
def Xug : S := .seq (.rg [] [.op (some 22) (.c (.bin .lss (.t 21) (.t 20)))] [2, 4, 5, 20, 21, 22] [])
 (.seq (.cond (.t 22) (.skip) (.exit 0))
 (.seq (.block 1 (.seq (.rg [] [.op (some 23) (.c (.mv (.t 21))),
   .op (some 6) (.c (.mv (.t 23)))] [2, 4, 5, 6, 20, 21] [])
 (.rgT 18 (.one 0 (.op (some 24) (.c (.fldA 2 2 (.t 5))))
  (.one 2 (.op (some 26) (.c (.mv (.t 6))))
  (.one 3 (.op (some 27) (.c (.fldA 0 0 (.t 2))))
  (.one 5 (.op (some 29) (.c (.fldA 2 2 (.t 5))))
  (.one 7 (.op (some 31) (.c (.mv (.t 6))))
  (.one 4 (.op (some 28) (.c (.ld 6 true (.t 27))))
  (.one 6 (.op (some 30) (.c (.ld 1 false (.t 29))))
  (.one 8 (.op (some 32) (.c (.idxA 4 (.t 30) (.t 31))))
  (.one 9 (.op (some 33) (.c (.fldA 1 1 (.t 32))))
  (.one 10 (.op (some 34) (.c (.ld 1 false (.t 33))))
  (.br (.cons 1 (.op (some 25) (.c (.ld 1 false (.t 24)))) (.one 11 (.op (some 35) (.pcall 71 [(.t 28), (.t 34)]))
  (.one 12 (.op (some 36) (.c (.ext (.t 35) 0)))
  (.one 13 (.op (some 37) (.c (.ext (.t 35) 1)))
  (.one 14 (.op (some 38) (.call 70 [(.t 36), (.t 37)]))
  (.one 15 (.op (some 39) (.c (.idxA 4 (.t 25) (.t 26))))
  (.one 16 (.op (some 40) (.c (.fldA 2 2 (.t 39))))
  (.one 17 (.op none (.st 1 (.t 40) (.t 38)))
  (.done))))))))
  (.cons 11 (.op (some 35) (.pcall 71 [(.t 28), (.t 34)])) (.one 12 (.op (some 36) (.c (.ext (.t 35) 0)))
  (.one 13 (.op (some 37) (.c (.ext (.t 35) 1)))
  (.br (.cons 1 (.op (some 25) (.c (.ld 1 false (.t 24)))) (.one 14 (.op (some 38) (.call 70 [(.t 36), (.t 37)]))
  (.one 15 (.op (some 39) (.c (.idxA 4 (.t 25) (.t 26))))
  (.one 16 (.op (some 40) (.c (.fldA 2 2 (.t 39))))
  (.one 17 (.op none (.st 1 (.t 40) (.t 38)))
  (.done)))))
  (.cons 14 (.op (some 38) (.call 70 [(.t 36), (.t 37)])) (.br (.cons 1 (.op (some 25) (.c (.ld 1 false (.t 24)))) (.one 15 (.op (some 39) (.c (.idxA 4 (.t 25) (.t 26))))
  (.one 16 (.op (some 40) (.c (.fldA 2 2 (.t 39))))
  (.one 17 (.op none (.st 1 (.t 40) (.t 38)))
  (.done))))
  (.nil)))
  (.nil))))))
  (.nil)))))))))))))) [2, 4, 5, 20, 21] [])))
 (.rg [] [.op (some 41) (.c (.bin .add (.t 21) (.int .i64 1))),
   .op (some 21) (.c (.mv (.t 41)))] [2, 4, 5, 20, 21] [])))
def X5i : S := .seq (.rg [] [.op (some 2) (.box 96 (.t 0)),
   .op (some 3) (.box 93 (.t 1)),
   .op (some 4) (.alloc 44 (.agg [.str [], .int .i64 0, .nils, .agg [.int .i64 0, .int .i64 0, .nils, .agg [.int .i64 0, .agg [.str [], .str [], .int .i64 0, .int .i64 0, .int .i64 0], .agg [.str [], .str [], .int .i64 0, .int .i64 0, .int .i64 0]]]]))] [2, 3, 4] [])
 (.seq (.rg [] [.op (some 7) (.c (.fldA 0 0 (.t 3))),
   .op (some 8) (.c (.ld 17 true (.t 7))),
   .op (some 5) (.alloc 44 (.agg [.str [], .int .i64 0, .nils, .agg [.int .i64 0, .int .i64 0, .nils, .agg [.int .i64 0, .agg [.str [], .str [], .int .i64 0, .int .i64 0, .int .i64 0], .agg [.str [], .str [], .int .i64 0, .int .i64 0, .int .i64 0]]]])),
   .op none (.st 17 (.t 5) (.t 8))] [2, 3, 4, 5] [])
 (.seq (.rg [] [.op (some 9) (.c (.fldA 0 0 (.t 2))),
   .op (some 10) (.c (.ld 6 true (.t 9))),
   .op (some 11) (.c (.fldA 1 17 (.t 3))),
   .op (some 12) (.c (.ld 1 false (.t 11))),
   .op (some 13) (.pcall 40 [(.t 10), (.t 12)]),
   .op (some 14) (.c (.ext (.t 13) 0)),
   .op (some 15) (.c (.ext (.t 13) 1)),
   .op (some 16) (.call 70 [(.t 14), (.t 15)]),
   .op (some 17) (.c (.fldA 1 1 (.t 5))),
   .op none (.st 1 (.t 17) (.t 16))] [2, 4, 5] [])
 (.seq (.seq (.rg [] [.op (some 18) (.c (.fldA 2 2 (.t 5))),
   .op (some 19) (.c (.ld 1 false (.t 18))),
   .op (some 20) (.c (.lenL (.t 19))),
   .op (some 21) (.c (.mv (.int .i64 0)))] [2, 4, 5, 20, 21] [])
 (.block 0 (.loop [2, 4, 5, 20, 21] Xug)))
 (.seq (.rg [] [.op (some 42) (.c (.fldA 2 2 (.t 5))),
   .op (some 43) (.c (.ld 1 false (.t 42))),
   .op (some 44) (.c (.fldA 1 6 (.t 2))),
   .op none (.st 1 (.t 44) (.t 43))] [2, 4, 5] [])
 (.seq (.rg [] [.op (some 45) (.c (.ld 7 true (.t 2))),
   .op (some 46) (.c (.fldA 3 3 (.t 5))),
   .op (some 47) (.call 72 [(.t 45), (.t 46)])] [4, 5] [])
 (.seq (.rg [] [.op (some 48) (.c (.ld 17 true (.t 5))),
   .op none (.st 17 (.t 4) (.t 48))] [4] [])
 (.ret)))))))
theorem Ybe : Xt Tryz.prog 28 2 X5i [.c 4 17 true] = true := by kernel_rfl
def Xwb : S := .rg [] [.op (some 130) (.c (.bin .add (.t 17) (.int .i64 1))),
   .op (some 17) (.c (.mv (.t 130)))] [0, 15, 16, 17] []
def Xul : S := .seq (.rg [] [.op (some 110) (.c (.bin .lss (.t 109) (.t 108)))] [0, 15, 16, 17, 107, 108, 109, 110] [])
 (.seq (.cond (.t 110) (.skip) (.exit 3))
 (.seq (.block 4 (.seq (.rg [] [.op (some 111) (.c (.idxA 14 (.t 107) (.t 109))),
   .op (some 112) (.c (.ld 14 true (.t 111))),
   .op (some 13) (.alloc 42 (.agg [.int .i64 0, .int .i64 0, .nils, .agg [.int .i64 0, .agg [.str [], .str [], .int .i64 0, .int .i64 0, .int .i64 0], .agg [.str [], .str [], .int .i64 0, .int .i64 0, .int .i64 0]]])),
   .op none (.st 14 (.t 13) (.t 112))] [0, 13, 15, 16, 17, 107, 108, 109] [])
 (.rg [] [.op (some 113) (.c (.mv (.t 0))),
   .op (some 114) (.c (.ld 14 true (.t 13))),
   .op (some 115) (.c (.mki 42 (.t 114))),
   .op (some 116) (.c (.mki 116 (.str [59]))),
   .op (some 117) (.bls 1 [.nili, .nili] [(0, (.t 115)), (1, (.t 116))]),
   .op (some 118) (.call 38 [(.t 113), (.t 117)])] [0, 15, 16, 17, 107, 108, 109] [])))
 (.rg [] [.op (some 119) (.c (.bin .add (.t 109) (.int .i64 1))),
   .op (some 109) (.c (.mv (.t 119)))] [0, 15, 16, 17, 107, 108, 109] [])))
def Xv5 : S := .seq (.rg [] [.op (some 18) (.c (.bin .lss (.t 17) (.t 16)))] [0, 15, 16, 17, 18] [])
 (.seq (.cond (.t 18) (.skip) (.exit 0))
 (.seq (.block 1 (.seq (.rg [] [.op (some 19) (.c (.idxA 1 (.t 15) (.t 17))),
   .op (some 20) (.c (.ld 1 false (.t 19))),
   .op (some 5) (.c (.mv (.t 20)))] [0, 5, 15, 16, 17] [])
 (.seq (.rg [] [.op (some 21) (.c (.mv (.t 5)))] [0, 15, 16, 17, 21] [])
 (.block 2 (.seq (.rg [] [.op (some 22) (.c (.tas 112 (.str []) (.t 21))),
   .op (some 23) (.c (.ext (.t 22) 1)),
   .op (some 24) (.c (.ext (.t 22) 0))] [0, 15, 16, 17, 21, 23, 24] [])
 (.cond (.t 23) (.seq (.rg [] [.op (some 6) (.c (.mv (.t 24)))] [0, 6, 15, 16, 17] [])
 (.rg [] [.op (some 25) (.c (.mv (.t 0))),
   .op (some 26) (.c (.mv (.t 0))),
   .op (some 27) (.c (.nilc (.t 26))),
   .op (some 28) (.c (.fldA 0 0 (.t 27))),
   .op (some 29) (.c (.ld 1 false (.t 28))),
   .op (some 30) (.c (.mv (.t 6))),
   .op (some 31) (.c (.bld [.int .i64 0, .str [], .int .i64 0, .int .i64 0] [(0, (.int .i64 1)), (1, (.t 30))])),
   .op (some 32) (.bls 4 [.agg [.int .i64 0, .str [], .int .i64 0, .int .i64 0]] [(0, (.t 31))]),
   .op (some 33) (.app 59 4 40 (.t 29) (.t 32)),
   .op (some 34) (.c (.nilc (.t 25))),
   .op (some 35) (.c (.fldA 0 0 (.t 34))),
   .op none (.st 1 (.t 35) (.t 33))] [0, 15, 16, 17] [])) (.seq (.rg [] [.op (some 36) (.c (.tas 9 (.str []) (.t 21))),
   .op (some 37) (.c (.ext (.t 36) 1)),
   .op (some 38) (.c (.ext (.t 36) 0))] [0, 15, 16, 17, 21, 37, 38] [])
 (.cond (.t 37) (.seq (.rg [] [.op (some 7) (.c (.mv (.t 38)))] [0, 7, 15, 16, 17] [])
 (.rg [] [.op (some 39) (.c (.mv (.t 0))),
   .op (some 40) (.c (.mv (.t 0))),
   .op (some 41) (.c (.nilc (.t 40))),
   .op (some 42) (.c (.fldA 0 0 (.t 41))),
   .op (some 43) (.c (.ld 1 false (.t 42))),
   .op (some 44) (.c (.mv (.t 7))),
   .op (some 45) (.c (.bld [.int .i64 0, .str [], .int .i64 0, .int .i64 0] [(0, (.int .i64 1)), (1, (.t 44))])),
   .op (some 46) (.bls 4 [.agg [.int .i64 0, .str [], .int .i64 0, .int .i64 0]] [(0, (.t 45))]),
   .op (some 47) (.app 59 4 40 (.t 43) (.t 46)),
   .op (some 48) (.c (.nilc (.t 39))),
   .op (some 49) (.c (.fldA 0 0 (.t 48))),
   .op none (.st 1 (.t 49) (.t 47))] [0, 15, 16, 17] [])) (.seq (.rg [] [.op (some 50) (.c (.tas 116 (.str []) (.t 21))),
   .op (some 51) (.c (.ext (.t 50) 1)),
   .op (some 52) (.c (.ext (.t 50) 0))] [0, 15, 16, 17, 21, 51, 52] [])
 (.cond (.t 51) (.seq (.rg [] [.op (some 8) (.c (.mv (.t 52)))] [0, 8, 15, 16, 17] [])
 (.rg [] [.op (some 53) (.c (.mv (.t 0))),
   .op (some 54) (.c (.mv (.t 0))),
   .op (some 55) (.c (.nilc (.t 54))),
   .op (some 56) (.c (.fldA 0 0 (.t 55))),
   .op (some 57) (.c (.ld 1 false (.t 56))),
   .op (some 58) (.c (.mv (.t 8))),
   .op (some 59) (.c (.bld [.int .i64 0, .str [], .int .i64 0, .int .i64 0] [(0, (.int .i64 3)), (1, (.t 58))])),
   .op (some 60) (.bls 4 [.agg [.int .i64 0, .str [], .int .i64 0, .int .i64 0]] [(0, (.t 59))]),
   .op (some 61) (.app 59 4 40 (.t 57) (.t 60)),
   .op (some 62) (.c (.nilc (.t 53))),
   .op (some 63) (.c (.fldA 0 0 (.t 62))),
   .op none (.st 1 (.t 63) (.t 61))] [0, 15, 16, 17] [])) (.seq (.rg [] [.op (some 64) (.c (.tas 3 (.int .i64 0) (.t 21))),
   .op (some 65) (.c (.ext (.t 64) 1)),
   .op (some 66) (.c (.ext (.t 64) 0))] [0, 15, 16, 17, 21, 65, 66] [])
 (.cond (.t 65) (.seq (.rg [] [.op (some 9) (.c (.mv (.t 66)))] [0, 9, 15, 16, 17] [])
 (.rg [] [.op (some 67) (.c (.mv (.t 0))),
   .op (some 68) (.c (.mv (.t 0))),
   .op (some 69) (.c (.nilc (.t 68))),
   .op (some 70) (.c (.fldA 0 0 (.t 69))),
   .op (some 71) (.c (.ld 1 false (.t 70))),
   .op (some 72) (.c (.mv (.t 9))),
   .op (some 73) (.c (.bld [.int .i64 0, .str [], .int .i64 0, .int .i64 0] [(0, (.int .i64 2)), (2, (.t 72))])),
   .op (some 74) (.bls 4 [.agg [.int .i64 0, .str [], .int .i64 0, .int .i64 0]] [(0, (.t 73))]),
   .op (some 75) (.app 59 4 40 (.t 71) (.t 74)),
   .op (some 76) (.c (.nilc (.t 67))),
   .op (some 77) (.c (.fldA 0 0 (.t 76))),
   .op none (.st 1 (.t 77) (.t 75))] [0, 15, 16, 17] [])) (.seq (.rg [] [.op (some 78) (.c (.tas 38 (.agg [.str [], .str [], .int .i64 0, .int .i64 0, .int .i64 0]) (.t 21))),
   .op (some 79) (.c (.ext (.t 78) 1)),
   .op (some 80) (.c (.ext (.t 78) 0))] [0, 15, 16, 17, 21, 79, 80] [])
 (.cond (.t 79) (.seq (.rg [] [.op (some 10) (.alloc 38 (.agg [.str [], .str [], .int .i64 0, .int .i64 0, .int .i64 0])),
   .op none (.st 5 (.t 10) (.t 80))] [0, 10, 15, 16, 17] [])
 (.seq (.rg [] [.op (some 81) (.c (.fldA 0 0 (.t 10))),
   .op (some 82) (.c (.ld 1 false (.t 81))),
   .op (some 83) (.c (.bin .eql (.t 82) (.str [])))] [0, 10, 15, 16, 17, 83] [])
 (.cond (.t 83) (.rg [] [.op (some 84) (.c (.mv (.t 0))),
   .op (some 85) (.c (.fldA 4 4 (.t 10))),
   .op (some 86) (.c (.ld 1 false (.t 85))),
   .op (some 87) (.c (.mki 3 (.t 86))),
   .op (some 88) (.bls 1 [.nili] [(0, (.t 87))]),
   .op (some 89) (.call 38 [(.t 84), (.t 88)])] [0, 15, 16, 17] []) (.rg [] [.op (some 90) (.c (.mv (.t 0))),
   .op (some 91) (.c (.fldA 0 0 (.t 10))),
   .op (some 92) (.c (.ld 1 false (.t 91))),
   .op (some 93) (.c (.mki 9 (.t 92))),
   .op (some 94) (.c (.mki 116 (.str [46]))),
   .op (some 95) (.c (.fldA 1 1 (.t 10))),
   .op (some 96) (.c (.ld 1 false (.t 95))),
   .op (some 97) (.c (.mki 9 (.t 96))),
   .op (some 98) (.bls 1 [.nili, .nili, .nili] [(0, (.t 93)), (1, (.t 94)), (2, (.t 97))]),
   .op (some 99) (.call 38 [(.t 90), (.t 98)])] [0, 15, 16, 17] [])))) (.seq (.rg [] [.op (some 100) (.c (.tas 36 (.nils) (.t 21))),
   .op (some 101) (.c (.ext (.t 100) 1)),
   .op (some 102) (.c (.ext (.t 100) 0))] [0, 15, 16, 17, 21, 101, 102] [])
 (.cond (.t 101) (.seq (.rg [] [.op (some 11) (.c (.mv (.t 102)))] [0, 11, 15, 16, 17] [])
 (.seq (.rg [] [.op (some 103) (.c (.mv (.t 0))),
   .op (some 104) (.c (.mki 116 (.str [123]))),
   .op (some 105) (.bls 1 [.nili] [(0, (.t 104))]),
   .op (some 106) (.call 38 [(.t 103), (.t 105)])] [0, 11, 15, 16, 17] [])
 (.seq (.seq (.rg [] [.op (some 107) (.c (.mv (.t 11))),
   .op (some 108) (.c (.lenL (.t 107))),
   .op (some 109) (.c (.mv (.int .i64 0)))] [0, 15, 16, 17, 107, 108, 109] [])
 (.block 3 (.loop [0, 15, 16, 17, 107, 108, 109] Xul)))
 (.rg [] [.op (some 120) (.c (.mv (.t 0))),
   .op (some 121) (.c (.mki 116 (.str [125]))),
   .op (some 122) (.bls 1 [.nili] [(0, (.t 121))]),
   .op (some 123) (.call 38 [(.t 120), (.t 122)])] [0, 15, 16, 17] [])))) (.seq (.rg [] [.op (some 124) (.c (.tas 42 (.agg [.int .i64 0, .int .i64 0, .nils, .agg [.int .i64 0, .agg [.str [], .str [], .int .i64 0, .int .i64 0, .int .i64 0], .agg [.str [], .str [], .int .i64 0, .int .i64 0, .int .i64 0]]]) (.t 21))),
   .op (some 125) (.c (.ext (.t 124) 1)),
   .op (some 126) (.c (.ext (.t 124) 0))] [0, 15, 16, 17, 125, 126] [])
 (.cond (.t 125) (.seq (.rg [] [.op (some 14) (.alloc 42 (.agg [.int .i64 0, .int .i64 0, .nils, .agg [.int .i64 0, .agg [.str [], .str [], .int .i64 0, .int .i64 0, .int .i64 0], .agg [.str [], .str [], .int .i64 0, .int .i64 0, .int .i64 0]]])),
   .op none (.st 14 (.t 14) (.t 126))] [0, 14, 15, 16, 17] [])
 (.rg [] [.op (some 127) (.c (.mv (.t 0))),
   .op (some 128) (.c (.ld 14 true (.t 14))),
   .op (some 129) (.call 91 [(.t 127), (.t 128)])] [0, 15, 16, 17] [])) (.skip)))))))))))))))))))
 (Xwb)))
def X6i : S := .seq (.rg [] [.op (some 15) (.c (.mv (.t 1))),
   .op (some 16) (.c (.lenL (.t 15))),
   .op (some 17) (.c (.mv (.int .i64 0)))] [0, 15, 16, 17] [])
 (.block 0 (.loop [0, 15, 16, 17] Xv5))
theorem X9j : Xt Tryz.prog 38 2 X6i [] = true := by kernel_rfl
def X6v : S := .seq (.rg [] [.op (some 1) (.alloc 42 (.agg [.int .i64 0, .int .i64 0, .nils, .agg [.int .i64 0, .agg [.str [], .str [], .int .i64 0, .int .i64 0, .int .i64 0], .agg [.str [], .str [], .int .i64 0, .int .i64 0, .int .i64 0]]]))] [0, 1] [])
 (.seq (.rg [] [.op (some 2) (.c (.ld 1 false (.t 0))),
   .op (some 3) (.call 60 [(.t 2)]),
   .op (some 4) (.c (.bld [.int .i64 0, .int .i64 0, .nils, .agg [.int .i64 0, .agg [.str [], .str [], .int .i64 0, .int .i64 0, .int .i64 0], .agg [.str [], .str [], .int .i64 0, .int .i64 0, .int .i64 0]]] [(0, (.int .i64 1)), (2, (.t 3))])),
   .op none (.st 14 (.t 1) (.t 4))] [1] [])
 (.ret))
theorem Yae : Xt Tryz.prog 59 1 X6v [.c 1 14 true] = true := by kernel_rfl
def Xvf : S := .seq (.seq (.rg [] [.op (some 5) (.c (.mv (.t 0))),
   .op (some 6) (.call 67 [(.t 5), (.int .i64 3), (.str [125])]),
   .op (some 7) (.c (.not (.t 6)))] [0, 2, 7] [])
 (.cond (.t 7) (.skip) (.exit 0)))
 (.block 1 (.seq (.rg [] [.op (some 8) (.c (.mv (.t 2))),
   .op (some 9) (.c (.mv (.t 0))),
   .op (some 10) (.call 68 [(.t 9)]),
   .op (some 11) (.blv 42 14 [.agg [.int .i64 0, .int .i64 0, .nils, .agg [.int .i64 0, .agg [.str [], .str [], .int .i64 0, .int .i64 0, .int .i64 0], .agg [.str [], .str [], .int .i64 0, .int .i64 0, .int .i64 0]]]] [(0, (.t 10))]),
   .op (some 12) (.apv 42 14 160 (.t 8) (.t 11)),
   .op (some 2) (.c (.mv (.t 12)))] [0, 2] [])
 (.rg [] [.op (some 13) (.c (.mv (.t 0))),
   .op (some 14) (.call 63 [(.t 13), (.int .i64 3), (.str [59])])] [0, 2] [])))
def X77 : S := .seq (.rg [] [.op (some 2) (.nilo 42 14 .nils)] [0, 2] [])
 (.seq (.rg [] [.op (some 3) (.c (.mv (.t 0))),
   .op (some 4) (.call 63 [(.t 3), (.int .i64 3), (.str [123])])] [0, 2] [])
 (.seq (.block 0 (.loop [0, 2] Xvf))
 (.seq (.rg [] [.op (some 15) (.c (.mv (.t 2))),
   .op (some 2) (.c (.mv (.t 15)))] [2] [])
 (.ret))))
theorem X9i : Xt Tryz.prog 60 1 X77 [.t 2] = true := by kernel_rfl
def X8o : S := .seq (.rg [] [.op (some 1) (.alloc 42 (.agg [.int .i64 0, .int .i64 0, .nils, .agg [.int .i64 0, .agg [.str [], .str [], .int .i64 0, .int .i64 0, .int .i64 0], .agg [.str [], .str [], .int .i64 0, .int .i64 0, .int .i64 0]]]))] [0, 1] [])
 (.seq (.rg [] [.op (some 2) (.c (.ld 1 false (.t 0))),
   .op (some 3) (.call 60 [(.t 2)]),
   .op (some 4) (.c (.bld [.int .i64 0, .int .i64 0, .nils, .agg [.int .i64 0, .agg [.str [], .str [], .int .i64 0, .int .i64 0, .int .i64 0], .agg [.str [], .str [], .int .i64 0, .int .i64 0, .int .i64 0]]] [(0, (.int .i64 2)), (2, (.t 3))])),
   .op none (.st 14 (.t 1) (.t 4))] [1] [])
 (.ret))
theorem X9s : Xt Tryz.prog 61 1 X8o [.c 1 14 true] = true := by kernel_rfl
def X40 : S := .seq (.rg [] [.op (some 1) (.alloc 42 (.agg [.int .i64 0, .int .i64 0, .nils, .agg [.int .i64 0, .agg [.str [], .str [], .int .i64 0, .int .i64 0, .int .i64 0], .agg [.str [], .str [], .int .i64 0, .int .i64 0, .int .i64 0]]]))] [0, 1] [])
 (.seq (.rg [] [.op (some 3) (.c (.ld 1 false (.t 0))),
   .op (some 4) (.call 63 [(.t 3), (.int .i64 2), (.str [])]),
   .op (some 5) (.c (.fld 2 2 1 false (.t 4))),
   .op (some 2) (.c (.mv (.t 5)))] [0, 1, 2] [])
 (.seq (.rg [] [.op (some 6) (.c (.mv (.t 2))),
   .op (some 7) (.c (.ld 1 false (.t 0))),
   .op (some 8) (.call 60 [(.t 7)]),
   .op (some 9) (.c (.bld [.int .i64 0, .int .i64 0, .nils, .agg [.int .i64 0, .agg [.str [], .str [], .int .i64 0, .int .i64 0, .int .i64 0], .agg [.str [], .str [], .int .i64 0, .int .i64 0, .int .i64 0]]] [(0, (.int .i64 3)), (1, (.t 6)), (2, (.t 8))])),
   .op none (.st 14 (.t 1) (.t 9))] [1] [])
 (.ret)))
theorem Yax : Xt Tryz.prog 62 1 X40 [.c 1 14 true] = true := by kernel_rfl
def Xvt : S := .seq (.rg [] [.op (some 15) (.c (.mv (.t 0))),
   .op (some 16) (.c (.nilc (.t 15))),
   .op (some 17) (.c (.fldA 0 0 (.t 16))),
   .op (some 18) (.c (.ld 1 false (.t 17))),
   .op (some 19) (.c (.idxA 4 (.t 18) (.int .i64 0))),
   .op (some 20) (.c (.ld 4 true (.t 19))),
   .op (some 7) (.alloc 59 (.agg [.int .i64 0, .str [], .int .i64 0, .int .i64 0])),
   .op none (.st 4 (.t 7) (.t 20))] [0, 6, 7] [])
 (.seq (.rg [] [.op (some 21) (.c (.mv (.t 0))),
   .op (some 22) (.c (.mv (.t 0))),
   .op (some 23) (.c (.nilc (.t 22))),
   .op (some 24) (.c (.fldA 0 0 (.t 23))),
   .op (some 25) (.c (.ld 1 false (.t 24))),
   .op (some 26) (.c (.slcL 4 (.t 25) (some (.int .i64 1)) none)),
   .op (some 27) (.c (.nilc (.t 21))),
   .op (some 28) (.c (.fldA 0 0 (.t 27))),
   .op none (.st 1 (.t 28) (.t 26))] [6, 7] [])
 (.seq (.rg [] [.op (some 29) (.c (.ld 4 true (.t 7))),
   .op none (.st 4 (.t 6) (.t 29))] [6] [])
 (.ret)))
def X7n : S := .seq (.rg [] [.op (some 6) (.alloc 59 (.agg [.int .i64 0, .str [], .int .i64 0, .int .i64 0]))] [0, 1, 2, 6] [])
 (.seq (.seq (.rg [] [.op (some 8) (.c (.mv (.t 0))),
   .op (some 9) (.c (.mv (.t 1))),
   .op (some 10) (.c (.mv (.t 2))),
   .op (some 11) (.call 66 [(.t 8), (.int .i64 0), (.t 9), (.t 10)]),
   .op (some 12) (.c (.not (.t 11)))] [0, 6, 12] [])
 (.cond (.t 12) (.rg [] [.op (some 13) (.c (.mv (.t 0))),
   .op (some 14) (.call 69 [(.t 13)])] [0, 6] []) (.skip)))
 (Xvt))
theorem Ybo : Xt Tryz.prog 63 3 X7n [.c 6 4 true] = true := by kernel_rfl
def X54 : S := .seq (.rg [] [.op (some 1) (.alloc 42 (.agg [.int .i64 0, .int .i64 0, .nils, .agg [.int .i64 0, .agg [.str [], .str [], .int .i64 0, .int .i64 0, .int .i64 0], .agg [.str [], .str [], .int .i64 0, .int .i64 0, .int .i64 0]]]))] [0, 1] [])
 (.seq (.rg [] [.op (some 3) (.c (.bld [.int .i64 0, .int .i64 0, .nils, .agg [.int .i64 0, .agg [.str [], .str [], .int .i64 0, .int .i64 0, .int .i64 0], .agg [.str [], .str [], .int .i64 0, .int .i64 0, .int .i64 0]]] [(0, (.int .i64 4))])),
   .op (some 2) (.alloc 42 (.agg [.int .i64 0, .int .i64 0, .nils, .agg [.int .i64 0, .agg [.str [], .str [], .int .i64 0, .int .i64 0, .int .i64 0], .agg [.str [], .str [], .int .i64 0, .int .i64 0, .int .i64 0]]])),
   .op none (.st 14 (.t 2) (.t 3))] [0, 1, 2] [])
 (.seq (.rg [] [.op (some 4) (.c (.ld 1 false (.t 0))),
   .op (some 5) (.call 65 [(.t 4)]),
   .op (some 6) (.c (.fldA 3 3 (.t 2))),
   .op (some 7) (.c (.fldA 1 1 (.t 6))),
   .op (some 8) (.c (.fldA 0 0 (.t 7))),
   .op none (.st 1 (.t 8) (.t 5))] [1, 2] [])
 (.seq (.rg [] [.op (some 9) (.c (.ld 14 true (.t 2))),
   .op none (.st 14 (.t 1) (.t 9))] [1] [])
 (.ret))))
theorem X9m : Xt Tryz.prog 64 1 X54 [.c 1 14 true] = true := by kernel_rfl
def X7y : S := .seq (.rg [] [.op (some 2) (.c (.mv (.str [])))] [0] [])
 (.seq (.rg [] [.op (some 3) (.c (.mv (.t 0))),
   .op (some 4) (.call 63 [(.t 3), (.int .i64 1), (.str [])]),
   .op (some 5) (.c (.fld 1 1 1 false (.t 4))),
   .op (some 2) (.c (.mv (.t 5)))] [2] [])
 (.ret))
theorem Ybb : Xt Tryz.prog 65 1 X7y [.t 2] = true := by kernel_rfl
def X7d : S := .seq (.rg [] [.op (some 8) (.c (.mv (.bool false)))] [0, 1, 2, 3] [])
 (.seq (.rg [] [.op (some 9) (.c (.mv (.t 1))),
   .op (some 10) (.c (.mv (.t 0))),
   .op (some 11) (.c (.nilc (.t 10))),
   .op (some 12) (.c (.fldA 0 0 (.t 11))),
   .op (some 13) (.c (.ld 1 false (.t 12))),
   .op (some 14) (.c (.lenL (.t 13))),
   .op (some 15) (.c (.bin .lss (.t 9) (.t 14))),
   .op (some 16) (.c (.mv (.t 15))),
   .gop 16 true (some 17) (.c (.mv (.t 0))),
   .gop 16 true (some 18) (.c (.nilc (.t 17))),
   .gop 16 true (some 19) (.c (.fldA 0 0 (.t 18))),
   .gop 16 true (some 20) (.c (.ld 1 false (.t 19))),
   .gop 16 true (some 21) (.c (.mv (.t 1))),
   .gop 16 true (some 22) (.c (.idxA 4 (.t 20) (.t 21))),
   .gop 16 true (some 23) (.c (.fldA 0 0 (.t 22))),
   .gop 16 true (some 24) (.c (.ld 1 false (.t 23))),
   .gop 16 true (some 25) (.c (.mv (.t 2))),
   .gop 16 true (some 26) (.c (.bin .eql (.t 24) (.t 25))),
   .op (some 27) (.c (.pick (.t 16) (.t 26) (.bool false))),
   .op (some 28) (.c (.mv (.t 27))),
   .gop 28 true (some 29) (.c (.mv (.t 3))),
   .gop 28 true (some 30) (.c (.bin .eql (.t 29) (.str []))),
   .gop 28 true (some 31) (.c (.mv (.t 30))),
   .gop 31 false (some 32) (.c (.mv (.t 0))),
   .gop 31 false (some 33) (.c (.nilc (.t 32))),
   .gop 31 false (some 34) (.c (.fldA 0 0 (.t 33))),
   .gop 31 false (some 35) (.c (.ld 1 false (.t 34))),
   .gop 31 false (some 36) (.c (.mv (.t 1))),
   .gop 31 false (some 37) (.c (.idxA 4 (.t 35) (.t 36))),
   .gop 31 false (some 38) (.c (.fldA 1 1 (.t 37))),
   .gop 31 false (some 39) (.c (.ld 1 false (.t 38))),
   .gop 31 false (some 40) (.c (.mv (.t 3))),
   .gop 31 false (some 41) (.c (.bin .eql (.t 39) (.t 40))),
   .gop 28 true (some 42) (.c (.pick (.t 31) (.bool true) (.t 41))),
   .op (some 43) (.c (.pick (.t 28) (.t 42) (.bool false))),
   .op (some 8) (.c (.mv (.t 43)))] [8] [])
 (.ret))
theorem Ya7 : Xt Tryz.prog 66 4 X7d [.t 8] = true := by kernel_rfl
def X46 : S := .seq (.rg [] [.op (some 6) (.c (.mv (.bool false)))] [0, 1, 2] [])
 (.seq (.seq (.rg [] [.op (some 7) (.c (.mv (.t 0))),
   .op (some 8) (.c (.mv (.t 1))),
   .op (some 9) (.c (.mv (.t 2))),
   .op (some 10) (.call 66 [(.t 7), (.int .i64 0), (.t 8), (.t 9)]),
   .op (some 11) (.c (.not (.t 10)))] [0, 11] [])
 (.cond (.t 11) (.seq (.rg [] [.op (some 6) (.c (.mv (.bool false)))] [6] [])
 (.ret)) (.skip)))
 (.seq (.rg [] [.op (some 12) (.c (.mv (.t 0))),
   .op (some 13) (.c (.mv (.t 0))),
   .op (some 14) (.c (.nilc (.t 13))),
   .op (some 15) (.c (.fldA 0 0 (.t 14))),
   .op (some 16) (.c (.ld 1 false (.t 15))),
   .op (some 17) (.c (.slcL 4 (.t 16) (some (.int .i64 1)) none)),
   .op (some 18) (.c (.nilc (.t 12))),
   .op (some 19) (.c (.fldA 0 0 (.t 18))),
   .op none (.st 1 (.t 19) (.t 17))] [] [])
 (.seq (.rg [] [.op (some 6) (.c (.mv (.bool true)))] [6] [])
 (.ret))))
theorem Yam : Xt Tryz.prog 67 3 X46 [.t 6] = true := by kernel_rfl
def Xtt : S := .seq (.rg [] [.op (some 35) (.c (.fldA 0 0 (.t 2))),
   .op none (.st 1 (.t 35) (.int .i64 5))] [0, 2] [])
 (.seq (.rg [] [.op (some 36) (.c (.mv (.t 0))),
   .op (some 37) (.call 111 [(.t 36)]),
   .op (some 38) (.c (.fldA 3 3 (.t 2))),
   .op (some 39) (.c (.fldA 1 1 (.t 38))),
   .op none (.st 5 (.t 39) (.t 37))] [0, 2] [])
 (.seq (.rg [] [.op (some 40) (.c (.mv (.t 0))),
   .op (some 41) (.call 112 [(.t 40)]),
   .op (some 42) (.c (.fldA 3 3 (.t 2))),
   .op (some 43) (.c (.fldA 0 0 (.t 42))),
   .op none (.st 1 (.t 43) (.t 41))] [0, 2] [])
 (.seq (.rg [] [.op (some 44) (.c (.mv (.t 0))),
   .op (some 45) (.call 111 [(.t 44)]),
   .op (some 46) (.c (.fldA 3 3 (.t 2))),
   .op (some 47) (.c (.fldA 2 6 (.t 46))),
   .op none (.st 5 (.t 47) (.t 45))] [2] [])
 (.seq (.rg [] [.op (some 48) (.c (.ld 14 true (.t 2))),
   .op none (.st 14 (.t 2) (.t 48))] [2] [])
 (.ret)))))
def X6e : S := .seq (.rg [] [.op (some 2) (.alloc 42 (.agg [.int .i64 0, .int .i64 0, .nils, .agg [.int .i64 0, .agg [.str [], .str [], .int .i64 0, .int .i64 0, .int .i64 0], .agg [.str [], .str [], .int .i64 0, .int .i64 0, .int .i64 0]]]))] [0, 2] [])
 (.seq (.seq (.rg [] [.op (some 4) (.c (.mv (.t 0))),
   .op (some 5) (.call 66 [(.t 4), (.int .i64 0), (.int .i64 1), (.str [])]),
   .op (some 6) (.c (.mv (.t 5))),
   .gop 6 true (some 7) (.c (.mv (.t 0))),
   .gop 6 true (some 8) (.call 66 [(.t 7), (.int .i64 1), (.int .i64 3), (.str [46])]),
   .gop 6 true (some 9) (.c (.not (.t 8))),
   .op (some 10) (.c (.pick (.t 6) (.t 9) (.bool false)))] [0, 2, 10] [])
 (.cond (.t 10) (.seq (.rg [0, 1, 2, 4, 5, 6, 3, 7, 8, 9, 10, 11, 12] [.op (some 11) (.c (.mv (.t 0))),
   .op (some 12) (.c (.nilc (.t 11))),
   .op (some 13) (.c (.fldA 2 2 (.t 12))),
   .op (some 15) (.c (.mv (.t 0))),
   .op (some 16) (.c (.nilc (.t 15))),
   .op (some 17) (.c (.fldA 0 0 (.t 16))),
   .op (some 14) (.c (.ld 1 false (.t 13))),
   .op (some 18) (.c (.ld 1 false (.t 17))),
   .op (some 19) (.c (.idxA 4 (.t 18) (.int .i64 0))),
   .op (some 20) (.c (.fldA 1 1 (.t 19))),
   .op (some 21) (.c (.ld 1 false (.t 20))),
   .op (some 22) (.lkp (.str []) (.nilf) false (.t 14) (.t 21)),
   .op (some 3) (.c (.mv (.t 22)))] [0, 2, 3] [])
 (.seq (.rg [] [.op (some 23) (.c (.mv (.t 3))),
   .op (some 24) (.c (.fnil false (.t 23)))] [0, 2, 3, 24] [])
 (.cond (.t 24) (.seq (.rg [] [.op (some 25) (.c (.mv (.t 0))),
   .op (some 26) (.c (.mv (.t 0))),
   .op (some 27) (.c (.nilc (.t 26))),
   .op (some 28) (.c (.fldA 0 0 (.t 27))),
   .op (some 29) (.c (.ld 1 false (.t 28))),
   .op (some 30) (.c (.slcL 4 (.t 29) (some (.int .i64 1)) none)),
   .op (some 31) (.c (.nilc (.t 25))),
   .op (some 32) (.c (.fldA 0 0 (.t 31))),
   .op none (.st 1 (.t 32) (.t 30))] [2, 3] [])
 (.seq (.rg [] [.op (some 33) (.c (.mv (.t 3))),
   .op (some 34) (.callv (.t 33) []),
   .op none (.st 14 (.t 2) (.t 34))] [2] [])
 (.ret))) (.skip)))) (.skip)))
 (Xtt))
theorem X9f : Xt Tryz.prog 68 1 X6e [.c 2 14 true] = true := by kernel_rfl
def Xvr : S := .rg [] [.op (some 13) (.c (.mv (.t 0))),
   .op (some 14) (.c (.nilc (.t 13))),
   .op (some 15) (.c (.fldA 0 0 (.t 14))),
   .op (some 16) (.c (.ld 1 false (.t 15))),
   .op (some 17) (.c (.idxA 4 (.t 16) (.int .i64 0))),
   .op (some 18) (.c (.fldA 3 3 (.t 17))),
   .op (some 19) (.c (.ld 1 false (.t 18))),
   .op (some 20) (.c (.mki 84 (.t 19))),
   .op none (.panic (.t 20))] [] []
def X6p : S := .seq (.seq (.rg [] [.op (some 2) (.c (.mv (.t 0))),
   .op (some 3) (.c (.nilc (.t 2))),
   .op (some 4) (.c (.fldA 0 0 (.t 3))),
   .op (some 5) (.c (.ld 1 false (.t 4))),
   .op (some 6) (.c (.lenL (.t 5))),
   .op (some 7) (.c (.bin .eql (.t 6) (.int .i64 0)))] [0, 7] [])
 (.cond (.t 7) (.rg [] [.op (some 8) (.c (.mv (.t 0))),
   .op (some 9) (.c (.nilc (.t 8))),
   .op (some 10) (.c (.fldA 1 1 (.t 9))),
   .op (some 11) (.c (.ld 1 false (.t 10))),
   .op (some 12) (.c (.mki 84 (.t 11))),
   .op none (.panic (.t 12))] [0] []) (.skip)))
 (Xvr)
theorem Ybt : Xt Tryz.prog 69 1 X6p [] = true := by kernel_rfl
def Xvb : S := .seq (.rg [] [.op (some 9) (.c (.mv (.t 0))),
   .op (some 4) (.c (.mv (.t 9)))] [4] [])
 (.ret)
def X7s : S := .seq (.rg [] [.op (some 4) (.c (.mv (.int .i64 0)))] [0, 1] [])
 (.seq (.seq (.rg [] [.op (some 5) (.c (.mv (.t 1))),
   .op (some 6) (.c (.not (.t 5)))] [0, 6] [])
 (.cond (.t 6) (.rg [] [.op (some 7) (.c (.bld [] [])),
   .op (some 8) (.c (.mki 86 (.t 7))),
   .op none (.panic (.t 8))] [0] []) (.skip)))
 (Xvb))
theorem X92 : Xt Tryz.prog 70 2 X7s [.t 4] = true := by kernel_rfl
def Xv6 : S := .seq (.rg [] [.op (some 46) (.c (.bin .lss (.t 45) (.t 44)))] [1, 2, 44, 45, 46] [])
 (.seq (.cond (.t 46) (.skip) (.exit 1))
 (.seq (.block 2 (.seq (.rg [] [.op (some 47) (.c (.mv (.t 45))),
   .op (some 4) (.c (.mv (.t 47)))] [1, 2, 4, 44, 45] [])
 (.rg [1, 2, 3, 5, 0, 4, 6, 7] [.op (some 49) (.c (.mv (.t 1))),
   .op (some 50) (.c (.nilc (.t 49))),
   .op (some 51) (.c (.fldA 2 2 (.t 50))),
   .op (some 53) (.c (.mv (.t 4))),
   .op (some 48) (.c (.ld 7 true (.t 2))),
   .op (some 52) (.c (.ld 1 false (.t 51))),
   .op (some 54) (.c (.idxA 14 (.t 52) (.t 53))),
   .op (some 55) (.call 72 [(.t 48), (.t 54)])] [1, 2, 44, 45] [])))
 (.rg [] [.op (some 56) (.c (.bin .add (.t 45) (.int .i64 1))),
   .op (some 45) (.c (.mv (.t 56)))] [1, 2, 44, 45] [])))
def Xuf : S := .seq (.rg [] [.op (some 40) (.c (.mv (.t 1))),
   .op (some 41) (.c (.nilc (.t 40))),
   .op (some 42) (.c (.fldA 2 2 (.t 41))),
   .op (some 43) (.c (.ld 1 false (.t 42))),
   .op (some 44) (.c (.lenL (.t 43))),
   .op (some 45) (.c (.mv (.int .i64 0)))] [1, 2, 44, 45] [])
 (.block 1 (.loop [1, 2, 44, 45] Xv6))
def X71 : S := .seq (.rg [] [.op (some 2) (.box 96 (.t 0))] [1, 2] [])
 (.seq (.seq (.rg [] [.op (some 5) (.c (.mv (.t 1))),
   .op (some 6) (.c (.nilc (.t 5))),
   .op (some 7) (.c (.fldA 0 0 (.t 6))),
   .op (some 8) (.c (.ld 1 false (.t 7)))] [1, 2, 8] [])
 (.block 0 (.seq (.rg [] [.op (some 10) (.c (.bin .eql (.t 8) (.int .i64 4))),
   .op (some 9) (.c (.mv (.t 10)))] [1, 2, 8, 9] [])
 (.cond (.t 9) (.seq (.rg [0, 2, 3, 4, 5, 6, 1, 7, 8, 9, 10, 11] [.op (some 11) (.c (.mv (.t 1))),
   .op (some 13) (.c (.mv (.t 1))),
   .op (some 14) (.c (.nilc (.t 13))),
   .op (some 15) (.c (.fldA 3 3 (.t 14))),
   .op (some 16) (.c (.fldA 1 1 (.t 15))),
   .op (some 17) (.c (.fldA 0 0 (.t 16))),
   .op (some 12) (.c (.ld 7 true (.t 2))),
   .op (some 18) (.c (.ld 1 false (.t 17))),
   .op (some 19) (.call 115 [(.t 12), (.t 18)]),
   .op (some 20) (.c (.nilc (.t 11))),
   .op (some 21) (.c (.fldA 1 1 (.t 20))),
   .op none (.st 1 (.t 21) (.t 19))] [1, 2] [])
 (.rg [] [.op (some 22) (.c (.mv (.t 1))),
   .op (some 23) (.c (.bld [.int .i64 0, .agg [.str [], .str [], .int .i64 0, .int .i64 0, .int .i64 0], .agg [.str [], .str [], .int .i64 0, .int .i64 0, .int .i64 0]] [])),
   .op (some 24) (.c (.nilc (.t 22))),
   .op (some 25) (.c (.fldA 3 3 (.t 24))),
   .op none (.st 11 (.t 25) (.t 23))] [1, 2] [])) (.seq (.rg [] [.op (some 27) (.c (.bin .eql (.t 8) (.int .i64 5))),
   .op (some 26) (.c (.mv (.t 27)))] [1, 2, 26] [])
 (.cond (.t 26) (.seq (.rg [1, 2, 3, 4, 0, 5] [.op (some 29) (.c (.mv (.t 1))),
   .op (some 30) (.c (.nilc (.t 29))),
   .op (some 31) (.c (.fldA 3 3 (.t 30))),
   .op (some 32) (.c (.fldA 1 1 (.t 31))),
   .op (some 28) (.c (.ld 7 true (.t 2))),
   .op (some 33) (.call 116 [(.t 28), (.t 32)])] [1, 2] [])
 (.rg [1, 2, 3, 4, 0, 5] [.op (some 35) (.c (.mv (.t 1))),
   .op (some 36) (.c (.nilc (.t 35))),
   .op (some 37) (.c (.fldA 3 3 (.t 36))),
   .op (some 38) (.c (.fldA 2 6 (.t 37))),
   .op (some 34) (.c (.ld 7 true (.t 2))),
   .op (some 39) (.call 116 [(.t 34), (.t 38)])] [1, 2] [])) (.skip)))))))
 (Xuf))
theorem X9h : Xt Tryz.prog 72 2 X71 [] = true := by kernel_rfl
def Xu5 : S := .rg [] [.op (some 90) (.c (.mv (.t 0))),
   .op (some 91) (.c (.fldA 3 3 (.t 3))),
   .op (some 92) (.c (.fldA 2 6 (.t 91))),
   .op (some 93) (.c (.ld 5 true (.t 92))),
   .op (some 94) (.c (.mki 38 (.t 93))),
   .op (some 95) (.bls 1 [.nili] [(0, (.t 94))]),
   .op (some 96) (.call 38 [(.t 90), (.t 95)])] [] []
def X6y : S := .seq (.rg [] [.op (some 3) (.box 42 (.t 1))] [0, 3] [])
 (.seq (.rg [] [.op (some 4) (.c (.fldA 0 0 (.t 3))),
   .op (some 5) (.c (.ld 1 false (.t 4)))] [0, 3, 5] [])
 (.block 0 (.seq (.rg [] [.op (some 7) (.c (.bin .eql (.t 5) (.int .i64 1))),
   .op (some 6) (.c (.mv (.t 7)))] [0, 3, 5, 6] [])
 (.cond (.t 6) (.rg [] [.op (some 8) (.c (.mv (.t 0))),
   .op (some 9) (.c (.mki 112 (.str [97, 108, 108]))),
   .op (some 10) (.c (.fldA 2 2 (.t 3))),
   .op (some 11) (.c (.ld 1 false (.t 10))),
   .op (some 12) (.c (.mki 36 (.t 11))),
   .op (some 13) (.bls 1 [.nili, .nili] [(0, (.t 9)), (1, (.t 12))]),
   .op (some 14) (.call 38 [(.t 8), (.t 13)])] [] []) (.seq (.rg [] [.op (some 16) (.c (.bin .eql (.t 5) (.int .i64 2))),
   .op (some 15) (.c (.mv (.t 16)))] [0, 3, 5, 15] [])
 (.cond (.t 15) (.rg [] [.op (some 17) (.c (.mv (.t 0))),
   .op (some 18) (.c (.mki 112 (.str [97, 110, 121]))),
   .op (some 19) (.c (.fldA 2 2 (.t 3))),
   .op (some 20) (.c (.ld 1 false (.t 19))),
   .op (some 21) (.c (.mki 36 (.t 20))),
   .op (some 22) (.bls 1 [.nili, .nili] [(0, (.t 18)), (1, (.t 21))]),
   .op (some 23) (.call 38 [(.t 17), (.t 22)])] [] []) (.seq (.rg [] [.op (some 25) (.c (.bin .eql (.t 5) (.int .i64 3))),
   .op (some 24) (.c (.mv (.t 25)))] [0, 3, 5, 24] [])
 (.cond (.t 24) (.rg [] [.op (some 26) (.c (.mv (.t 0))),
   .op (some 27) (.c (.mki 112 (.str [108, 101, 97, 115, 116]))),
   .op (some 28) (.c (.fldA 1 1 (.t 3))),
   .op (some 29) (.c (.ld 1 false (.t 28))),
   .op (some 30) (.c (.mki 3 (.t 29))),
   .op (some 31) (.c (.fldA 2 2 (.t 3))),
   .op (some 32) (.c (.ld 1 false (.t 31))),
   .op (some 33) (.c (.mki 36 (.t 32))),
   .op (some 34) (.bls 1 [.nili, .nili, .nili] [(0, (.t 27)), (1, (.t 30)), (2, (.t 33))]),
   .op (some 35) (.call 38 [(.t 26), (.t 34)])] [] []) (.seq (.rg [] [.op (some 37) (.c (.bin .eql (.t 5) (.int .i64 4))),
   .op (some 36) (.c (.mv (.t 37)))] [0, 3, 5, 36] [])
 (.cond (.t 36) (.rg [0, 1, 2, 3, 4, 6, 5, 7, 8, 9, 10, 11, 12, 13] [.op (some 38) (.c (.mv (.t 0))),
   .op (some 39) (.c (.mki 112 (.str [104, 97, 115]))),
   .op (some 40) (.c (.mv (.t 0))),
   .op (some 41) (.c (.nilc (.t 40))),
   .op (some 42) (.c (.fldA 1 1 (.t 41))),
   .op (some 44) (.c (.fldA 1 1 (.t 3))),
   .op (some 43) (.c (.ld 1 false (.t 42))),
   .op (some 45) (.c (.ld 1 false (.t 44))),
   .op (some 46) (.c (.idxA 4 (.t 43) (.t 45))),
   .op (some 47) (.c (.fldA 0 0 (.t 46))),
   .op (some 48) (.c (.ld 1 false (.t 47))),
   .op (some 49) (.c (.mki 9 (.t 48))),
   .op (some 50) (.bls 1 [.nili, .nili] [(0, (.t 39)), (1, (.t 49))]),
   .op (some 51) (.call 38 [(.t 38), (.t 50)])] [] []) (.seq (.rg [] [.op (some 53) (.c (.bin .eql (.t 5) (.int .i64 5))),
   .op (some 52) (.c (.mv (.t 53)))] [0, 3, 52] [])
 (.cond (.t 52) (.seq (.rg [] [.op (some 54) (.c (.mv (.t 0))),
   .op (some 55) (.c (.fldA 3 3 (.t 3))),
   .op (some 56) (.c (.fldA 1 1 (.t 55))),
   .op (some 57) (.c (.ld 5 true (.t 56))),
   .op (some 58) (.c (.mki 38 (.t 57))),
   .op (some 59) (.bls 1 [.nili] [(0, (.t 58))]),
   .op (some 60) (.call 38 [(.t 54), (.t 59)])] [0, 3] [])
 (.seq (.seq (.rg [] [.op (some 61) (.c (.fldA 3 3 (.t 3))),
   .op (some 62) (.c (.fldA 0 0 (.t 61))),
   .op (some 63) (.c (.ld 1 false (.t 62)))] [0, 3, 63] [])
 (.block 1 (.seq (.rg [] [.op (some 65) (.c (.bin .eql (.t 63) (.int .i64 1))),
   .op (some 64) (.c (.mv (.t 65)))] [0, 3, 63, 64] [])
 (.cond (.t 64) (.rg [] [.op (some 66) (.c (.mv (.t 0))),
   .op (some 67) (.c (.mki 116 (.str [61]))),
   .op (some 68) (.bls 1 [.nili] [(0, (.t 67))]),
   .op (some 69) (.call 38 [(.t 66), (.t 68)])] [0, 3] []) (.seq (.rg [] [.op (some 71) (.c (.bin .eql (.t 63) (.int .i64 2))),
   .op (some 70) (.c (.mv (.t 71)))] [0, 3, 63, 70] [])
 (.cond (.t 70) (.rg [] [.op (some 72) (.c (.mv (.t 0))),
   .op (some 73) (.c (.mki 116 (.str [60]))),
   .op (some 74) (.bls 1 [.nili] [(0, (.t 73))]),
   .op (some 75) (.call 38 [(.t 72), (.t 74)])] [0, 3] []) (.seq (.rg [] [.op (some 77) (.c (.bin .eql (.t 63) (.int .i64 3))),
   .op (some 76) (.c (.mv (.t 77)))] [0, 3, 63, 76] [])
 (.cond (.t 76) (.rg [] [.op (some 78) (.c (.mv (.t 0))),
   .op (some 79) (.c (.mki 116 (.str [60]))),
   .op (some 80) (.c (.mki 116 (.str [61]))),
   .op (some 81) (.bls 1 [.nili, .nili] [(0, (.t 79)), (1, (.t 80))]),
   .op (some 82) (.call 38 [(.t 78), (.t 81)])] [0, 3] []) (.seq (.rg [] [.op (some 84) (.c (.bin .eql (.t 63) (.int .i64 4))),
   .op (some 83) (.c (.mv (.t 84)))] [0, 3, 83] [])
 (.cond (.t 83) (.rg [] [.op (some 85) (.c (.mv (.t 0))),
   .op (some 86) (.c (.mki 116 (.str [33]))),
   .op (some 87) (.c (.mki 116 (.str [61]))),
   .op (some 88) (.bls 1 [.nili, .nili] [(0, (.t 86)), (1, (.t 87))]),
   .op (some 89) (.call 38 [(.t 85), (.t 88)])] [0, 3] []) (.skip)))))))))))
 (Xu5))) (.skip)))))))))))))
theorem Ya1 : Xt Tryz.prog 91 2 X6y [] = true := by kernel_rfl
def Xy8 : S := .seq (.rg [] [.op (some 2) (.alloc 38 (.agg [.str [], .str [], .int .i64 0, .int .i64 0, .int .i64 0]))] [0, 2] [])
 (.seq (.seq (.rg [] [.op (some 3) (.c (.mv (.t 0))),
   .op (some 4) (.call 66 [(.t 3), (.int .i64 0), (.int .i64 2), (.str [])])] [0, 2, 4] [])
 (.cond (.t 4) (.seq (.rg [] [.op (some 5) (.c (.mv (.t 0))),
   .op (some 6) (.call 63 [(.t 5), (.int .i64 2), (.str [])]),
   .op (some 7) (.c (.fld 2 2 1 false (.t 6))),
   .op (some 8) (.c (.bld [.str [], .str [], .int .i64 0, .int .i64 0, .int .i64 0] [(4, (.t 7)), (2, (.int .i64 (-1)))])),
   .op none (.st 5 (.t 2) (.t 8))] [2] [])
 (.ret)) (.skip)))
 (.seq (.rg [] [.op (some 9) (.c (.mv (.t 0))),
   .op (some 10) (.call 65 [(.t 9)]),
   .op (some 11) (.c (.fldA 0 0 (.t 2))),
   .op none (.st 1 (.t 11) (.t 10))] [0, 2] [])
 (.seq (.rg [] [.op (some 12) (.c (.mv (.t 0))),
   .op (some 13) (.call 63 [(.t 12), (.int .i64 3), (.str [46])])] [0, 2] [])
 (.seq (.rg [] [.op (some 14) (.c (.mv (.t 0))),
   .op (some 15) (.call 65 [(.t 14)]),
   .op (some 16) (.c (.fldA 1 1 (.t 2))),
   .op none (.st 1 (.t 16) (.t 15))] [2] [])
 (.seq (.rg [] [.op (some 17) (.c (.ld 5 true (.t 2))),
   .op none (.st 5 (.t 2) (.t 17))] [2] [])
 (.ret))))))
theorem X2i : Xt Tryz.prog 111 1 Xy8 [.c 2 5 true] = true := by kernel_rfl
def Xyj : S := .seq (.rg [] [.op (some 2) (.c (.mv (.int .i64 0)))] [0] [])
 (.seq (.seq (.rg [] [.op (some 3) (.c (.mv (.t 0))),
   .op (some 4) (.call 67 [(.t 3), (.int .i64 3), (.str [61])])] [0, 4] [])
 (.cond (.t 4) (.seq (.rg [] [.op (some 2) (.c (.mv (.int .i64 1)))] [2] [])
 (.ret)) (.skip)))
 (.seq (.seq (.rg [] [.op (some 5) (.c (.mv (.t 0))),
   .op (some 6) (.call 67 [(.t 5), (.int .i64 3), (.str [60])])] [0, 6] [])
 (.cond (.t 6) (.seq (.seq (.rg [] [.op (some 7) (.c (.mv (.t 0))),
   .op (some 8) (.call 67 [(.t 7), (.int .i64 3), (.str [61])])] [8] [])
 (.cond (.t 8) (.seq (.rg [] [.op (some 2) (.c (.mv (.int .i64 3)))] [2] [])
 (.ret)) (.skip)))
 (.seq (.rg [] [.op (some 2) (.c (.mv (.int .i64 2)))] [2] [])
 (.ret))) (.skip)))
 (.seq (.rg [] [.op (some 9) (.c (.mv (.t 0))),
   .op (some 10) (.call 63 [(.t 9), (.int .i64 3), (.str [33])])] [0] [])
 (.seq (.rg [] [.op (some 11) (.c (.mv (.t 0))),
   .op (some 12) (.call 63 [(.t 11), (.int .i64 3), (.str [61])])] [] [])
 (.seq (.rg [] [.op (some 2) (.c (.mv (.int .i64 4)))] [2] [])
 (.ret))))))
theorem X25 : Xt Tryz.prog 112 1 Xyj [.t 2] = true := by kernel_rfl
def X0k : S := .seq (.rg [] [.op (some 2) (.box 96 (.t 0)),
   .op (some 4) (.c (.mv (.int .i64 0)))] [1, 2] [])
 (.seq (.rg [] [.op (some 6) (.c (.fldA 1 6 (.t 2))),
   .op (some 7) (.c (.ld 1 false (.t 6))),
   .op (some 8) (.c (.mv (.t 1))),
   .op (some 9) (.pcall 94 [(.t 7), (.t 8)]),
   .op (some 5) (.c (.mv (.t 9)))] [5] [])
 (.seq (.rg [] [.op (some 10) (.c (.mv (.t 5))),
   .op (some 11) (.c (.mv (.t 5))),
   .op (some 12) (.c (.bin .geq (.t 11) (.int .i64 0))),
   .op (some 13) (.call 70 [(.t 10), (.t 12)]),
   .op (some 4) (.c (.mv (.t 13)))] [4] [])
 (.ret)))
theorem X4g : Xt Tryz.prog 115 2 X0k [.t 4] = true := by kernel_rfl
def Xy7 : S := .seq (.rg [] [.op (some 2) (.box 96 (.t 0))] [1, 2] [])
 (.seq (.rg [] [.op (some 4) (.c (.mv (.t 1))),
   .op (some 5) (.c (.nilc (.t 4))),
   .op (some 6) (.c (.fldA 0 0 (.t 5))),
   .op (some 7) (.c (.ld 1 false (.t 6))),
   .op (some 8) (.c (.bin .neq (.t 7) (.str [])))] [1, 2, 8] [])
 (.cond (.t 8) (.seq (.rg [0, 2, 3, 4, 1, 5, 6, 7, 8, 9] [.op (some 9) (.c (.mv (.t 1))),
   .op (some 11) (.c (.mv (.t 1))),
   .op (some 12) (.c (.nilc (.t 11))),
   .op (some 13) (.c (.fldA 0 0 (.t 12))),
   .op (some 10) (.c (.ld 7 true (.t 2))),
   .op (some 14) (.c (.ld 1 false (.t 13))),
   .op (some 15) (.call 115 [(.t 10), (.t 14)]),
   .op (some 16) (.c (.nilc (.t 9))),
   .op (some 17) (.c (.fldA 2 2 (.t 16))),
   .op none (.st 1 (.t 17) (.t 15))] [1, 2] [])
 (.rg [0, 1, 3, 5, 6, 7, 12, 13, 14, 2, 4, 8, 9, 10, 11, 15, 16, 17, 18, 19, 20, 21, 22] [.op (some 18) (.c (.mv (.t 1))),
   .op (some 19) (.c (.fldA 0 0 (.t 2))),
   .op (some 21) (.c (.fldA 1 6 (.t 2))),
   .op (some 23) (.c (.mv (.t 1))),
   .op (some 24) (.c (.nilc (.t 23))),
   .op (some 25) (.c (.fldA 2 2 (.t 24))),
   .op (some 30) (.c (.mv (.t 1))),
   .op (some 31) (.c (.nilc (.t 30))),
   .op (some 32) (.c (.fldA 1 1 (.t 31))),
   .op (some 20) (.c (.ld 6 true (.t 19))),
   .op (some 22) (.c (.ld 1 false (.t 21))),
   .op (some 26) (.c (.ld 1 false (.t 25))),
   .op (some 27) (.c (.idxA 4 (.t 22) (.t 26))),
   .op (some 28) (.c (.fldA 2 2 (.t 27))),
   .op (some 29) (.c (.ld 1 false (.t 28))),
   .op (some 33) (.c (.ld 1 false (.t 32))),
   .op (some 34) (.pcall 137 [(.t 20), (.t 29), (.t 33)]),
   .op (some 35) (.c (.ext (.t 34) 0)),
   .op (some 36) (.c (.ext (.t 34) 1)),
   .op (some 37) (.call 70 [(.t 35), (.t 36)]),
   .op (some 38) (.c (.nilc (.t 18))),
   .op (some 39) (.c (.fldA 3 3 (.t 38))),
   .op none (.st 1 (.t 39) (.t 37))] [] [])) (.skip)))
theorem X1x : Xt Tryz.prog 116 2 Xy7 [] = true := by kernel_rfl
end Go.Proofs.YtmapdjjigmkbfaaGreatDoor
/- The abstract statements that stand for the code of these functions, written by a program from the translation; that they do is checked by the kernel. No condition. -/
namespace Go.Proofs.YtmapdjjigmkbfaaGreatDoor
open Go Go.Ab
set_option maxRecDepth 100000
def ir8 : S := .seq (.rg [] [.op (some 0) (.c (.mv (.bool false)))] [] [])
 (.seq (.rg [] [.op (some 31) (.pcall 23 []),
   .op (some 1) (.alloc 32 (.agg [.agg [.nils, .nils, .nils, .nils, .nils, .nils], .nils])),
   .op none (.st 7 (.t 1) (.t 31))] [1] [])
 (.seq (.rg [] [.op (some 33) (.c (.ld 7 true (.t 1))),
   .op (some 34) (.pcall 10 [(.t 33), (.str [97, 115, 107, 32, 111, 108, 100, 32, 102, 111, 114, 32, 99, 108, 117, 98, 32, 123, 32, 102, 114, 111, 109, 32, 112, 32, 98, 105, 114, 116, 104, 59, 32, 102, 114, 111, 109, 32, 99, 32, 115, 105, 122, 101, 32, 111, 116, 104, 101, 114, 59, 32, 97, 110, 121, 32, 123, 32, 112, 46, 100, 97, 121, 32, 60, 32, 52, 48, 48, 59, 32, 108, 101, 97, 115, 116, 32, 49, 32, 123, 32, 104, 97, 115, 32, 99, 59, 32, 53, 32, 60, 32, 61, 32, 99, 46, 104, 105, 103, 104, 59, 32, 125, 59, 32, 125, 59, 32, 125])]),
   .op (some 32) (.c (.mv (.t 34))),
   .op (some 35) (.c (.ext (.t 32) 0)),
   .op (some 36) (.c (.ext (.t 32) 1)),
   .op (some 37) (.c (.ext (.t 32) 2)),
   .op (some 2) (.alloc 44 (.agg [.str [], .int .i64 0, .nils, .agg [.int .i64 0, .int .i64 0, .nils, .agg [.int .i64 0, .agg [.str [], .str [], .int .i64 0, .int .i64 0, .int .i64 0], .agg [.str [], .str [], .int .i64 0, .int .i64 0, .int .i64 0]]]])),
   .op none (.st 17 (.t 2) (.t 35)),
   .op (some 3) (.c (.mv (.t 36))),
   .op (some 4) (.c (.mv (.t 37)))] [1, 2, 3, 4] [])
 (.seq (.rg [] [.op (some 39) (.c (.ld 7 true (.t 1))),
   .op (some 40) (.pcall 10 [(.t 39), (.str [])]),
   .op (some 38) (.c (.mv (.t 40))),
   .op (some 41) (.c (.ext (.t 38) 0)),
   .op (some 42) (.c (.ext (.t 38) 1)),
   .op (some 43) (.c (.ext (.t 38) 2)),
   .op (some 5) (.alloc 44 (.agg [.str [], .int .i64 0, .nils, .agg [.int .i64 0, .int .i64 0, .nils, .agg [.int .i64 0, .agg [.str [], .str [], .int .i64 0, .int .i64 0, .int .i64 0], .agg [.str [], .str [], .int .i64 0, .int .i64 0, .int .i64 0]]]])),
   .op none (.st 17 (.t 5) (.t 41)),
   .op (some 6) (.c (.mv (.t 42))),
   .op (some 7) (.c (.mv (.t 43)))] [1, 2, 3, 4, 6, 7] [])
 (.seq (.rg [] [.op (some 45) (.c (.ld 7 true (.t 1))),
   .op (some 46) (.pcall 10 [(.t 45), (.str [97, 115, 107, 32, 97])]),
   .op (some 44) (.c (.mv (.t 46))),
   .op (some 47) (.c (.ext (.t 44) 0)),
   .op (some 48) (.c (.ext (.t 44) 1)),
   .op (some 49) (.c (.ext (.t 44) 2)),
   .op (some 8) (.alloc 44 (.agg [.str [], .int .i64 0, .nils, .agg [.int .i64 0, .int .i64 0, .nils, .agg [.int .i64 0, .agg [.str [], .str [], .int .i64 0, .int .i64 0, .int .i64 0], .agg [.str [], .str [], .int .i64 0, .int .i64 0, .int .i64 0]]]])),
   .op none (.st 17 (.t 8) (.t 47)),
   .op (some 9) (.c (.mv (.t 48))),
   .op (some 10) (.c (.mv (.t 49)))] [1, 2, 3, 4, 6, 7, 9, 10] [])
 (.seq (.rg [] [.op (some 51) (.c (.bld [.agg [.nils, .nils, .nils, .nils, .nils, .nils], .nils] [])),
   .op (some 52) (.pcall 10 [(.t 51), (.str [97, 115, 107, 32, 97, 32, 102, 111, 114, 32, 98, 32, 123, 32, 102, 114, 111, 109, 32, 120, 32, 121, 59, 32, 104, 97, 115, 32, 120, 59, 32, 125])]),
   .op (some 50) (.c (.mv (.t 52))),
   .op (some 53) (.c (.ext (.t 50) 0)),
   .op (some 54) (.c (.ext (.t 50) 1)),
   .op (some 55) (.c (.ext (.t 50) 2)),
   .op (some 11) (.alloc 44 (.agg [.str [], .int .i64 0, .nils, .agg [.int .i64 0, .int .i64 0, .nils, .agg [.int .i64 0, .agg [.str [], .str [], .int .i64 0, .int .i64 0, .int .i64 0], .agg [.str [], .str [], .int .i64 0, .int .i64 0, .int .i64 0]]]])),
   .op none (.st 17 (.t 11) (.t 53)),
   .op (some 12) (.c (.mv (.t 54))),
   .op (some 13) (.c (.mv (.t 55)))] [1, 2, 3, 4, 6, 7, 9, 10, 12, 13] [])
 (.seq (.rg [] [.op (some 57) (.c (.ld 7 true (.t 1))),
   .op (some 58) (.pcall 10 [(.t 57), (.str [97, 115, 107, 32, 97, 32, 102, 111, 114, 32, 98, 97, 114, 32, 123, 32, 102, 114, 111, 109, 32, 120, 32, 115, 105, 122, 101, 59, 32, 120, 46, 104, 105, 103, 104, 32, 61, 32, 120, 46, 115, 101, 108, 102, 59, 32, 125])]),
   .op (some 56) (.c (.mv (.t 58))),
   .op (some 59) (.c (.ext (.t 56) 0)),
   .op (some 60) (.c (.ext (.t 56) 1)),
   .op (some 61) (.c (.ext (.t 56) 2)),
   .op (some 14) (.alloc 44 (.agg [.str [], .int .i64 0, .nils, .agg [.int .i64 0, .int .i64 0, .nils, .agg [.int .i64 0, .agg [.str [], .str [], .int .i64 0, .int .i64 0, .int .i64 0], .agg [.str [], .str [], .int .i64 0, .int .i64 0, .int .i64 0]]]])),
   .op none (.st 17 (.t 14) (.t 59)),
   .op (some 15) (.c (.mv (.t 60))),
   .op (some 16) (.c (.mv (.t 61)))] [1, 2, 3, 4, 6, 7, 9, 10, 12, 13, 16] [])
 (.seq (.rg [] [.op (some 63) (.c (.ld 7 true (.t 1))),
   .op (some 64) (.pcall 10 [(.t 63), (.str [97, 115, 107, 32, 97, 32, 102, 111, 114, 32, 98, 97, 114, 32, 123, 32, 102, 114, 111, 109, 32, 120, 32, 115, 105, 122, 101, 32, 111, 116, 104, 101, 114, 59, 32, 104, 97, 115, 32, 120, 59, 32, 125])]),
   .op (some 62) (.c (.mv (.t 64))),
   .op (some 65) (.c (.ext (.t 62) 0)),
   .op (some 66) (.c (.ext (.t 62) 1)),
   .op (some 67) (.c (.ext (.t 62) 2)),
   .op (some 17) (.alloc 44 (.agg [.str [], .int .i64 0, .nils, .agg [.int .i64 0, .int .i64 0, .nils, .agg [.int .i64 0, .agg [.str [], .str [], .int .i64 0, .int .i64 0, .int .i64 0], .agg [.str [], .str [], .int .i64 0, .int .i64 0, .int .i64 0]]]])),
   .op none (.st 17 (.t 17) (.t 65)),
   .op (some 18) (.c (.mv (.t 66))),
   .op (some 19) (.c (.mv (.t 67)))] [1, 2, 3, 4, 6, 7, 9, 10, 12, 13, 16, 19] [])
 (.seq (.rg [] [.op (some 69) (.c (.ld 7 true (.t 1))),
   .op (some 70) (.c (.ld 17 true (.t 2))),
   .op (some 71) (.pcall 14 [(.t 69), (.t 70)]),
   .op (some 68) (.c (.mv (.t 71))),
   .op (some 72) (.c (.ext (.t 68) 0)),
   .op (some 73) (.c (.ext (.t 68) 1)),
   .op (some 20) (.c (.mv (.t 72))),
   .op (some 21) (.c (.mv (.t 73)))] [1, 2, 3, 4, 6, 7, 9, 10, 12, 13, 16, 19, 20, 21] [])
 (.seq (.rg [] [.op (some 75) (.c (.ld 7 true (.t 1))),
   .op (some 76) (.c (.ld 17 true (.t 2))),
   .op (some 77) (.pcall 21 [(.t 75), (.t 76)]),
   .op (some 74) (.c (.mv (.t 77))),
   .op (some 78) (.c (.ext (.t 74) 0)),
   .op (some 79) (.c (.ext (.t 74) 1)),
   .op (some 22) (.alloc 76 (.agg (List.replicate 32 (.int .u8 0)))),
   .op none (.st 32 (.t 22) (.t 78)),
   .op (some 23) (.c (.mv (.t 79)))] [1, 2, 3, 4, 6, 7, 9, 10, 12, 13, 16, 19, 20, 21, 22, 23] [])
 (.seq (.rg [] [.op (some 80) (.c (.ld 17 true (.t 2))),
   .op (some 81) (.pcall 18 [(.t 80)]),
   .op (some 24) (.c (.mv (.t 81)))] [1, 2, 3, 4, 6, 7, 9, 10, 12, 13, 16, 19, 20, 21, 22, 23, 24] [])
 (.seq (.seq (.rg [] [.op (some 82) (.c (.mv (.t 4))),
   .op (some 83) (.c (.bin .neq (.t 82) (.int .i64 0))),
   .op (some 84) (.c (.mv (.t 83))),
   .gop 84 false (some 85) (.c (.mv (.t 7))),
   .gop 84 false (some 86) (.c (.bin .neq (.t 85) (.int .i64 100))),
   .op (some 87) (.c (.pick (.t 84) (.bool true) (.t 86))),
   .op (some 88) (.c (.mv (.t 87))),
   .gop 88 false (some 89) (.c (.mv (.t 10))),
   .gop 88 false (some 90) (.c (.bin .neq (.t 89) (.int .i64 100))),
   .op (some 91) (.c (.pick (.t 88) (.bool true) (.t 90))),
   .op (some 92) (.c (.mv (.t 91))),
   .gop 92 false (some 93) (.c (.mv (.t 13))),
   .gop 92 false (some 94) (.c (.bin .neq (.t 93) (.int .i64 210))),
   .op (some 95) (.c (.pick (.t 92) (.bool true) (.t 94))),
   .op (some 96) (.c (.mv (.t 95))),
   .gop 96 false (some 97) (.c (.mv (.t 16))),
   .gop 96 false (some 98) (.c (.bin .neq (.t 97) (.int .i64 210))),
   .op (some 99) (.c (.pick (.t 96) (.bool true) (.t 98))),
   .op (some 100) (.c (.mv (.t 99))),
   .gop 100 false (some 101) (.c (.mv (.t 19))),
   .gop 100 false (some 102) (.c (.bin .neq (.t 101) (.int .i64 210))),
   .op (some 103) (.c (.pick (.t 100) (.bool true) (.t 102))),
   .op (some 104) (.c (.mv (.t 103))),
   .gop 104 false (some 105) (.c (.mv (.t 21))),
   .gop 104 false (some 106) (.c (.bin .neq (.t 105) (.int .i64 0))),
   .op (some 107) (.c (.pick (.t 104) (.bool true) (.t 106))),
   .op (some 108) (.c (.mv (.t 107))),
   .gop 108 false (some 109) (.c (.mv (.t 23))),
   .gop 108 false (some 110) (.c (.bin .neq (.t 109) (.int .i64 0))),
   .op (some 111) (.c (.pick (.t 108) (.bool true) (.t 110))),
   .op (some 112) (.c (.mv (.t 111))),
   .gop 112 false (some 113) (.c (.fldA 2 2 (.t 2))),
   .gop 112 false (some 114) (.c (.ld 1 false (.t 113))),
   .gop 112 false (some 115) (.c (.lenL (.t 114))),
   .gop 112 false (some 116) (.c (.bin .neq (.t 115) (.int .i64 2))),
   .op (some 117) (.c (.pick (.t 112) (.bool true) (.t 116))),
   .op (some 118) (.c (.mv (.t 117))),
   .gop 118 false (some 119) (.c (.fldA 3 3 (.t 2))),
   .gop 118 false (some 120) (.c (.fldA 2 2 (.t 119))),
   .gop 118 false (some 121) (.c (.ld 1 false (.t 120))),
   .gop 118 false (some 122) (.c (.lenL (.t 121))),
   .gop 118 false (some 123) (.c (.bin .neq (.t 122) (.int .i64 2))),
   .op (some 124) (.c (.pick (.t 118) (.bool true) (.t 123))),
   .op (some 125) (.c (.mv (.t 124))),
   .gop 125 false (some 126) (.c (.mv (.t 24))),
   .gop 125 false (some 127) (.c (.lenL (.t 126))),
   .gop 125 false (some 128) (.c (.bin .neq (.t 127) (.int .i64 2))),
   .op (some 129) (.c (.pick (.t 125) (.bool true) (.t 128)))] [1, 2, 3, 6, 9, 12, 20, 22, 24, 129] [])
 (.cond (.t 129) (.seq (.rg [] [.op (some 0) (.c (.mv (.bool false)))] [0] [])
 (.ret)) (.skip)))
 (.seq (.rg [] [.op (some 130) (.c (.bld [.str [], .str [], .int .i64 0, .int .i64 0, .int .i64 0] [(0, (.str [112])), (1, (.str [100, 97, 121])), (3, (.int .i64 1))])),
   .op (some 25) (.alloc 38 (.agg [.str [], .str [], .int .i64 0, .int .i64 0, .int .i64 0])),
   .op none (.st 5 (.t 25) (.t 130))] [1, 2, 3, 6, 9, 12, 20, 22, 24, 25] [])
 (.seq (.rg [] [.op (some 131) (.c (.bld [.str [], .str [], .int .i64 0, .int .i64 0, .int .i64 0] [(0, (.str [99])), (1, (.str [104, 105, 103, 104])), (2, (.int .i64 1)), (3, (.int .i64 1))])),
   .op (some 26) (.alloc 38 (.agg [.str [], .str [], .int .i64 0, .int .i64 0, .int .i64 0])),
   .op none (.st 5 (.t 26) (.t 131))] [1, 2, 3, 6, 9, 12, 20, 22, 24, 25, 26] [])
 (.seq (.rg [] [.op (some 132) (.c (.fldA 3 3 (.t 2))),
   .op (some 133) (.c (.fldA 2 2 (.t 132))),
   .op (some 134) (.c (.ld 1 false (.t 133))),
   .op (some 135) (.c (.idxA 14 (.t 134) (.int .i64 1))),
   .op (some 136) (.c (.ld 14 true (.t 135))),
   .op (some 27) (.alloc 42 (.agg [.int .i64 0, .int .i64 0, .nils, .agg [.int .i64 0, .agg [.str [], .str [], .int .i64 0, .int .i64 0, .int .i64 0], .agg [.str [], .str [], .int .i64 0, .int .i64 0, .int .i64 0]]])),
   .op none (.st 14 (.t 27) (.t 136))] [1, 2, 3, 6, 9, 12, 20, 22, 24, 25, 26, 27] [])
 (.seq (.rg [] [.op (some 137) (.c (.mv (.t 3))),
   .op (some 138) (.c (.bin .eql (.t 137) (.int .i64 0))),
   .op (some 139) (.c (.mv (.t 138))),
   .gop 139 true (some 140) (.c (.mv (.t 6))),
   .gop 139 true (some 141) (.c (.bin .eql (.t 140) (.int .i64 0))),
   .op (some 142) (.c (.pick (.t 139) (.t 141) (.bool false))),
   .op (some 143) (.c (.mv (.t 142))),
   .gop 143 true (some 144) (.c (.mv (.t 9))),
   .gop 143 true (some 145) (.c (.bin .eql (.t 144) (.int .i64 5))),
   .op (some 146) (.c (.pick (.t 143) (.t 145) (.bool false))),
   .op (some 147) (.c (.mv (.t 146))),
   .gop 147 true (some 148) (.c (.mv (.t 12))),
   .gop 147 true (some 149) (.c (.bin .eql (.t 148) (.int .i64 0))),
   .op (some 150) (.c (.pick (.t 147) (.t 149) (.bool false))),
   .op (some 151) (.c (.mv (.t 150))),
   .gop 151 true (some 152) (.c (.fldA 0 0 (.t 2))),
   .gop 151 true (some 153) (.c (.ld 1 false (.t 152))),
   .gop 151 true (some 154) (.c (.bin .eql (.t 153) (.str [111, 108, 100]))),
   .op (some 155) (.c (.pick (.t 151) (.t 154) (.bool false))),
   .op (some 156) (.c (.mv (.t 155))),
   .gop 156 true (some 157) (.c (.fldA 1 1 (.t 2))),
   .gop 156 true (some 158) (.c (.ld 1 false (.t 157))),
   .gop 156 true (some 159) (.c (.bin .eql (.t 158) (.int .i64 1))),
   .op (some 160) (.c (.pick (.t 156) (.t 159) (.bool false))),
   .op (some 161) (.c (.mv (.t 160))),
   .gop 161 true (some 162) (.c (.fldA 2 2 (.t 2))),
   .gop 161 true (some 163) (.c (.ld 1 false (.t 162))),
   .gop 161 true (some 164) (.c (.idxA 4 (.t 163) (.int .i64 0))),
   .gop 161 true (some 165) (.c (.ld 4 true (.t 164))),
   .gop 161 true (some 166) (.c (.bld [.str [], .str [], .int .i64 0, .bool false] [(0, (.str [112])), (1, (.str [98, 105, 114, 116, 104]))])),
   .gop 161 true (some 167) (.c (.eqD (.st [.str, .str, .int .i64, .bool]) true (.t 165) (.t 166))),
   .op (some 168) (.c (.pick (.t 161) (.t 167) (.bool false))),
   .op (some 169) (.c (.mv (.t 168))),
   .gop 169 true (some 170) (.c (.fldA 2 2 (.t 2))),
   .gop 169 true (some 171) (.c (.ld 1 false (.t 170))),
   .gop 169 true (some 172) (.c (.idxA 4 (.t 171) (.int .i64 1))),
   .gop 169 true (some 173) (.c (.ld 4 true (.t 172))),
   .gop 169 true (some 174) (.c (.bld [.str [], .str [], .int .i64 0, .bool false] [(0, (.str [99])), (1, (.str [115, 105, 122, 101])), (2, (.int .i64 1)), (3, (.bool true))])),
   .gop 169 true (some 175) (.c (.eqD (.st [.str, .str, .int .i64, .bool]) true (.t 173) (.t 174))),
   .op (some 176) (.c (.pick (.t 169) (.t 175) (.bool false))),
   .op (some 28) (.c (.mv (.t 176)))] [1, 2, 20, 22, 24, 25, 26, 27, 28] [])
 (.seq (.rg [] [.op (some 177) (.c (.fldA 3 3 (.t 2))),
   .op (some 178) (.c (.fldA 0 0 (.t 177))),
   .op (some 179) (.c (.ld 1 false (.t 178))),
   .op (some 180) (.c (.bin .eql (.t 179) (.int .i64 2))),
   .op (some 181) (.c (.mv (.t 180))),
   .gop 181 true (some 182) (.c (.fldA 0 0 (.t 27))),
   .gop 181 true (some 183) (.c (.ld 1 false (.t 182))),
   .gop 181 true (some 184) (.c (.bin .eql (.t 183) (.int .i64 3))),
   .op (some 185) (.c (.pick (.t 181) (.t 184) (.bool false))),
   .op (some 186) (.c (.mv (.t 185))),
   .gop 186 true (some 187) (.c (.fldA 1 1 (.t 27))),
   .gop 186 true (some 188) (.c (.ld 1 false (.t 187))),
   .gop 186 true (some 189) (.c (.bin .eql (.t 188) (.int .i64 1))),
   .op (some 190) (.c (.pick (.t 186) (.t 189) (.bool false))),
   .op (some 191) (.c (.mv (.t 190))),
   .gop 191 true (some 192) (.c (.fldA 2 2 (.t 27))),
   .gop 191 true (some 193) (.c (.ld 1 false (.t 192))),
   .gop 191 true (some 194) (.c (.lenL (.t 193))),
   .gop 191 true (some 195) (.c (.bin .eql (.t 194) (.int .i64 2))),
   .op (some 196) (.c (.pick (.t 191) (.t 195) (.bool false))),
   .op (some 197) (.c (.mv (.t 196))),
   .gop 197 true (some 198) (.c (.fldA 2 2 (.t 27))),
   .gop 197 true (some 199) (.c (.ld 1 false (.t 198))),
   .gop 197 true (some 200) (.c (.idxA 14 (.t 199) (.int .i64 0))),
   .gop 197 true (some 201) (.c (.fldA 0 0 (.t 200))),
   .gop 197 true (some 202) (.c (.ld 1 false (.t 201))),
   .gop 197 true (some 203) (.c (.bin .eql (.t 202) (.int .i64 4))),
   .op (some 204) (.c (.pick (.t 197) (.t 203) (.bool false))),
   .op (some 205) (.c (.mv (.t 204))),
   .gop 205 true (some 206) (.c (.fldA 2 2 (.t 27))),
   .gop 205 true (some 207) (.c (.ld 1 false (.t 206))),
   .gop 205 true (some 208) (.c (.idxA 14 (.t 207) (.int .i64 0))),
   .gop 205 true (some 209) (.c (.fldA 1 1 (.t 208))),
   .gop 205 true (some 210) (.c (.ld 1 false (.t 209))),
   .gop 205 true (some 211) (.c (.bin .eql (.t 210) (.int .i64 1))),
   .op (some 212) (.c (.pick (.t 205) (.t 211) (.bool false))),
   .op (some 29) (.c (.mv (.t 212)))] [1, 2, 20, 22, 24, 25, 26, 28, 29] [])
 (.seq (.rg [0, 1, 4, 2, 3, 5, 6, 7, 8, 9, 11, 10, 12, 13, 14, 15, 16] [.op (some 213) (.c (.mv (.t 24))),
   .op (some 214) (.c (.idxA 11 (.t 213) (.int .i64 0))),
   .op (some 217) (.c (.bld [.str [], .str [], .int .i64 0, .int .i64 0, .int .i64 0] [(2, (.int .i64 (-1))), (4, (.int .i64 400))])),
   .op (some 215) (.c (.ld 11 true (.t 214))),
   .op (some 216) (.c (.ld 5 true (.t 25))),
   .op (some 218) (.c (.bld [.int .i64 0, .agg [.str [], .str [], .int .i64 0, .int .i64 0, .int .i64 0], .agg [.str [], .str [], .int .i64 0, .int .i64 0, .int .i64 0]] [(0, (.int .i64 2)), (1, (.t 216)), (2, (.t 217))])),
   .op (some 219) (.c (.eqD (.st [.int .i64, .st [.str, .str, .int .i64, .int .i64, .int .i64], .st [.str, .str, .int .i64, .int .i64, .int .i64]]) true (.t 215) (.t 218))),
   .op (some 220) (.c (.mv (.t 219))),
   .gop 220 true (some 221) (.c (.mv (.t 24))),
   .gop 220 true (some 222) (.c (.idxA 11 (.t 221) (.int .i64 1))),
   .gop 220 true (some 224) (.c (.bld [.str [], .str [], .int .i64 0, .int .i64 0, .int .i64 0] [(2, (.int .i64 (-1))), (4, (.int .i64 5))])),
   .gop 220 true (some 223) (.c (.ld 11 true (.t 222))),
   .gop 220 true (some 225) (.c (.ld 5 true (.t 26))),
   .gop 220 true (some 226) (.c (.bld [.int .i64 0, .agg [.str [], .str [], .int .i64 0, .int .i64 0, .int .i64 0], .agg [.str [], .str [], .int .i64 0, .int .i64 0, .int .i64 0]] [(0, (.int .i64 3)), (1, (.t 224)), (2, (.t 225))])),
   .gop 220 true (some 227) (.c (.eqD (.st [.int .i64, .st [.str, .str, .int .i64, .int .i64, .int .i64], .st [.str, .str, .int .i64, .int .i64, .int .i64]]) true (.t 223) (.t 226))),
   .op (some 228) (.c (.pick (.t 220) (.t 227) (.bool false))),
   .op (some 30) (.c (.mv (.t 228)))] [1, 2, 20, 22, 28, 29, 30] [])
 (.seq (.rg [0, 1, 2, 3, 4, 5, 6, 7, 8, 9, 10, 11, 13, 12, 14, 15, 16, 17, 18, 19, 20, 21, 22, 23, 24, 26, 25, 27, 28, 29, 30] [.op (some 229) (.c (.mv (.t 28))),
   .op (some 230) (.c (.mv (.t 229))),
   .gop 230 true (some 231) (.c (.mv (.t 29))),
   .op (some 232) (.c (.pick (.t 230) (.t 231) (.bool false))),
   .op (some 233) (.c (.mv (.t 232))),
   .gop 233 true (some 234) (.c (.mv (.t 30))),
   .op (some 235) (.c (.pick (.t 233) (.t 234) (.bool false))),
   .op (some 236) (.c (.mv (.t 235))),
   .gop 236 true (some 237) (.c (.mv (.t 20))),
   .gop 236 true (some 238) (.c (.bin .eql (.t 237) (.str [97, 115, 107, 32, 111, 108, 100, 32, 102, 111, 114, 32, 99, 108, 117, 98, 32, 123, 32, 102, 114, 111, 109, 32, 112, 32, 98, 105, 114, 116, 104, 32, 59, 32, 102, 114, 111, 109, 32, 99, 32, 115, 105, 122, 101, 32, 111, 116, 104, 101, 114, 32, 59, 32, 97, 110, 121, 32, 123, 32, 112, 32, 46, 32, 100, 97, 121, 32, 60, 32, 52, 48, 48, 32, 59, 32, 108, 101, 97, 115, 116, 32, 49, 32, 123, 32, 104, 97, 115, 32, 99, 32, 59, 32, 53, 32, 60, 32, 61, 32, 99, 32, 46, 32, 104, 105, 103, 104, 32, 59, 32, 125, 32, 59, 32, 125, 32, 59, 32, 125]))),
   .op (some 239) (.c (.pick (.t 236) (.t 238) (.bool false))),
   .op (some 240) (.c (.mv (.t 239))),
   .gop 240 true (some 242) (.c (.mv (.t 20))),
   .gop 240 true (some 241) (.c (.ld 32 true (.t 22))),
   .gop 240 true (some 243) (.s2b (.t 242)),
   .gop 240 true (some 244) (.pcall 22 [(.str [113, 117, 101, 115, 116, 105, 111, 110]), (.t 243)]),
   .gop 240 true (some 245) (.c (.eqD (.ar 32 (.int .u8)) true (.t 241) (.t 244))),
   .op (some 246) (.c (.pick (.t 240) (.t 245) (.bool false))),
   .op (some 247) (.c (.mv (.t 246))),
   .gop 247 true (some 248) (.c (.ld 7 true (.t 1))),
   .gop 247 true (some 249) (.c (.ld 17 true (.t 2))),
   .gop 247 true (some 250) (.pcall 15 [(.t 248), (.t 249)]),
   .gop 247 true (some 251) (.c (.bin .eql (.t 250) (.int .i64 0))),
   .op (some 252) (.c (.pick (.t 247) (.t 251) (.bool false))),
   .op (some 253) (.c (.mv (.t 252))),
   .gop 253 true (some 255) (.c (.bld [.str [], .int .i64 0, .nils, .agg [.int .i64 0, .int .i64 0, .nils, .agg [.int .i64 0, .agg [.str [], .str [], .int .i64 0, .int .i64 0, .int .i64 0], .agg [.str [], .str [], .int .i64 0, .int .i64 0, .int .i64 0]]]] [])),
   .gop 253 true (some 254) (.c (.ld 7 true (.t 1))),
   .gop 253 true (some 256) (.pcall 15 [(.t 254), (.t 255)]),
   .gop 253 true (some 257) (.c (.bin .eql (.t 256) (.int .i64 210))),
   .op (some 258) (.c (.pick (.t 253) (.t 257) (.bool false))),
   .op (some 0) (.c (.mv (.t 258)))] [0] [])
 (.ret)))))))))))))))))))
theorem ok8 : Xt Tryz.prog 8 0 ir8 [.t 0] = true := by kernel_rfl
def X8s : S := .seq (.rg [] [.op (some 2) (.box 32 (.t 0)),
   .op (some 3) (.box 44 (.t 1)),
   .op (some 4) (.alloc 76 (.agg (List.replicate 32 (.int .u8 0)))),
   .op (some 5) (.c (.mv (.int .i64 0)))] [2, 3, 4] [])
 (.seq (.rg [] [.op (some 8) (.c (.ld 7 true (.t 2))),
   .op (some 9) (.c (.ld 17 true (.t 3))),
   .op (some 10) (.pcall 14 [(.t 8), (.t 9)]),
   .op (some 7) (.c (.mv (.t 10))),
   .op (some 11) (.c (.ext (.t 7) 0)),
   .op (some 12) (.c (.ext (.t 7) 1)),
   .op (some 6) (.c (.mv (.t 11))),
   .op (some 5) (.c (.mv (.t 12)))] [4, 5, 6] [])
 (.seq (.seq (.rg [] [.op (some 13) (.c (.mv (.t 5))),
   .op (some 14) (.c (.bin .neq (.t 13) (.int .i64 0)))] [4, 5, 6, 14] [])
 (.cond (.t 14) (.seq (.rg [] [.op (some 15) (.c (.ld 32 true (.t 4))),
   .op (some 16) (.c (.mv (.t 5))),
   .op none (.st 32 (.t 4) (.t 15)),
   .op (some 5) (.c (.mv (.t 16)))] [4, 5] [])
 (.ret)) (.skip)))
 (.seq (.rg [] [.op (some 17) (.c (.mv (.t 6))),
   .op (some 18) (.s2b (.t 17)),
   .op (some 19) (.pcall 22 [(.str [113, 117, 101, 115, 116, 105, 111, 110]), (.t 18)]),
   .op none (.st 32 (.t 4) (.t 19)),
   .op (some 5) (.c (.mv (.int .i64 0)))] [4, 5] [])
 (.ret))))
theorem Ybc : Xt Tryz.prog 21 2 X8s [.c 4 32 true, .t 5] = true := by kernel_rfl
def X7w : S := .seq (.rg [] [.op (some 4) (.alloc 76 (.agg (List.replicate 32 (.int .u8 0))))] [0, 1, 4] [])
 (.seq (.rg [] [.op (some 6) (.c (.mv (.t 0))),
   .op (some 7) (.s2b (.t 6)),
   .op (some 8) (.bls 1 [.nils] [(0, (.t 7))]),
   .op (some 9) (.pcall 58 [(.t 8)]),
   .op (some 5) (.alloc 76 (.agg (List.replicate 32 (.int .u8 0)))),
   .op none (.st 32 (.t 5) (.t 9))] [1, 4, 5] [])
 (.seq (.rg [] [.op (some 10) (.slg 32 1 (.t 5)),
   .op (some 11) (.c (.mv (.t 1))),
   .op (some 12) (.bls 1 [.nils, .nils] [(0, (.t 10)), (1, (.t 11))]),
   .op (some 13) (.pcall 58 [(.t 12)]),
   .op none (.st 32 (.t 4) (.t 13))] [4] [])
 (.ret)))
theorem Yak : Xt Tryz.prog 22 2 X7w [.c 4 32 true] = true := by kernel_rfl
def Xve : S := .seq (.rg [] [.op (some 10) (.c (.bin .lss (.t 9) (.int .i64 32)))] [2, 3, 9, 10] [])
 (.seq (.cond (.t 10) (.skip) (.exit 0))
 (.seq (.block 1 (.seq (.rg [] [.op (some 11) (.c (.mv (.t 9))),
   .op (some 4) (.c (.mv (.t 11)))] [2, 3, 4, 9] [])
 (.rg [] [.op (some 12) (.c (.mv (.t 4))),
   .op (some 13) (.c (.mv (.t 4))),
   .op (some 14) (.c (.bin .quo (.t 13) (.int .i64 4))),
   .op (some 15) (.c (.idxP 8 1 (.t 3) (.t 14))),
   .op (some 16) (.c (.ld 1 false (.t 15))),
   .op (some 17) (.c (.mv (.t 4))),
   .op (some 18) (.c (.bin .rem (.t 17) (.int .i64 4))),
   .op (some 19) (.c (.bin .mul (.int .i64 8) (.t 18))),
   .op (some 20) (.c (.bin .sub (.int .i64 24) (.t 19))),
   .op (some 21) (.c (.bin .shr (.t 16) (.t 20))),
   .op (some 22) (.c (.cvi .u8 (.t 21))),
   .op (some 23) (.c (.idxP 32 1 (.t 2) (.t 12))),
   .op none (.st 1 (.t 23) (.t 22))] [2, 3, 9] [])))
 (.rg [] [.op (some 24) (.c (.bin .add (.t 9) (.int .i64 1))),
   .op (some 9) (.c (.mv (.t 24)))] [2, 3, 9] [])))
def Xwg : S := .seq (.seq (.rg [] [.op (some 9) (.c (.mv (.int .i64 0)))] [2, 3, 9] [])
 (.block 0 (.loop [2, 3, 9] Xve)))
 (.seq (.rg [] [.op (some 25) (.c (.ld 32 true (.t 2))),
   .op none (.st 32 (.t 2) (.t 25))] [2] [])
 (.ret))
def X5h : S := .seq (.rg [] [.op (some 2) (.alloc 76 (.agg (List.replicate 32 (.int .u8 0))))] [0, 2] [])
 (.seq (.rg [] [.op (some 5) (.c (.bld [.int .u32 0, .int .u32 0, .int .u32 0, .int .u32 0, .int .u32 0, .int .u32 0, .int .u32 0, .int .u32 0] [(0, (.int .u32 1779033703)), (1, (.int .u32 3144134277)), (2, (.int .u32 1013904242)), (3, (.int .u32 2773480762)), (4, (.int .u32 1359893119)), (5, (.int .u32 2600822924)), (6, (.int .u32 528734635)), (7, (.int .u32 1541459225))])),
   .op (some 3) (.alloc 202 (.agg (List.replicate 8 (.int .u32 0)))),
   .op none (.st 8 (.t 3) (.t 5))] [0, 2, 3] [])
 (.seq (.rg [] [.op (some 6) (.c (.mkf 110 [(.t 3)] [])),
   .op (some 7) (.c (.mv (.t 0))),
   .op (some 8) (.call 109 [(.t 6), (.t 7)])] [2, 3] [])
 (Xwg)))
theorem X9o : Xt Tryz.prog 58 1 X5h [.c 2 32 true] = true := by kernel_rfl
def Xpl : S := .seq (.rg [] [.op (some 54) (.c (.bin .lss (.t 53) (.int .i64 8)))] [0, 4, 6, 53, 54] [])
 (.seq (.cond (.t 54) (.skip) (.exit 4))
 (.seq (.block 5 (.seq (.rg [] [.op (some 55) (.c (.mv (.t 53))),
   .op (some 10) (.c (.mv (.t 55)))] [0, 4, 6, 10, 53] [])
 (.rg [] [.op (some 56) (.c (.mv (.t 10))),
   .op (some 57) (.c (.bin .sub (.int .i64 63) (.t 56))),
   .op (some 58) (.c (.mv (.t 6))),
   .op (some 59) (.c (.bin .mul (.t 58) (.int .u64 8))),
   .op (some 60) (.c (.mv (.t 10))),
   .op (some 61) (.c (.bin .mul (.int .i64 8) (.t 60))),
   .op (some 62) (.c (.bin .shr (.t 59) (.t 61))),
   .op (some 63) (.c (.cvi .u8 (.t 62))),
   .op (some 64) (.c (.idxP 64 1 (.t 4) (.t 57))),
   .op none (.st 1 (.t 64) (.t 63))] [0, 4, 6, 53] [])))
 (.rg [] [.op (some 65) (.c (.bin .add (.t 53) (.int .i64 1))),
   .op (some 53) (.c (.mv (.t 65)))] [0, 4, 6, 53] [])))
def Xpq : S := .seq (.seq (.rg [] [.op (some 53) (.c (.mv (.int .i64 0)))] [0, 4, 6, 53] [])
 (.block 4 (.loop [0, 4, 6, 53] Xpl)))
 (.rg [] [.op (some 66) (.c (.mv (.t 0))),
   .op (some 67) (.slb 64 1 (.t 4) none none),
   .op (some 68) (.callv (.t 66) [(.t 67)])] [] [])
def Xpj : S := .rg [] [.op (some 52) (.slb 64 1 (.t 4) none none),
   .op none (.clr (.int .u8 0) 1 (.t 52))] [0, 4, 6] []
def Xqe : S := .rg [] [.op (some 5) (.c (.mv (.int .i64 0)))] [0, 4, 5, 6, 8, 11, 12, 13] []
def Xqp : S := .seq (.seq (.rg [] [.op (some 22) (.c (.mv (.t 8))),
   .op (some 23) (.c (.lenL (.t 22))),
   .op (some 24) (.c (.bin .gtr (.t 23) (.int .i64 0)))] [0, 4, 5, 6, 8, 11, 12, 13, 24] [])
 (.cond (.t 24) (.skip) (.exit 2)))
 (.block 3 (.seq (.rg [] [.op (some 25) (.c (.mv (.t 5))),
   .op (some 26) (.slb 64 1 (.t 4) (some (.t 25)) none),
   .op (some 27) (.c (.mv (.t 8))),
   .op (some 28) (.cpy 1 (.t 26) (.t 27)),
   .op (some 9) (.c (.mv (.t 28)))] [0, 4, 5, 6, 8, 9, 11, 12, 13] [])
 (.seq (.rg [0, 1, 2, 3, 4, 5, 6, 7] [.op (some 29) (.c (.mv (.t 5))),
   .op (some 30) (.c (.mv (.t 9))),
   .op (some 31) (.c (.bin .add (.t 29) (.t 30))),
   .op (some 32) (.c (.mv (.t 8))),
   .op (some 33) (.c (.mv (.t 9))),
   .op (some 34) (.c (.slcL 1 (.t 32) (some (.t 33)) none)),
   .op (some 5) (.c (.mv (.t 31))),
   .op (some 8) (.c (.mv (.t 34)))] [0, 4, 5, 6, 8, 11, 12, 13] [])
 (.seq (.rg [] [.op (some 35) (.c (.mv (.t 5))),
   .op (some 36) (.c (.bin .eql (.t 35) (.int .i64 64)))] [0, 4, 5, 6, 8, 11, 12, 13, 36] [])
 (.cond (.t 36) (.seq (.rg [] [.op (some 37) (.c (.mv (.t 0))),
   .op (some 38) (.slb 64 1 (.t 4) none none),
   .op (some 39) (.callv (.t 37) [(.t 38)])] [0, 4, 6, 8, 11, 12, 13] [])
 (Xqe)) (.skip))))))
def Xoy : S := .seq (.rg [] [.op (some 14) (.c (.bin .lss (.t 13) (.t 12)))] [0, 4, 5, 6, 11, 12, 13, 14] [])
 (.seq (.cond (.t 14) (.skip) (.exit 0))
 (.seq (.block 1 (.seq (.rg [] [.op (some 15) (.c (.idxA 1 (.t 11) (.t 13))),
   .op (some 16) (.c (.ld 1 false (.t 15))),
   .op (some 8) (.c (.mv (.t 16)))] [0, 4, 5, 6, 8, 11, 12, 13] [])
 (.seq (.rg [] [.op (some 17) (.c (.mv (.t 6))),
   .op (some 18) (.c (.mv (.t 8))),
   .op (some 19) (.c (.lenL (.t 18))),
   .op (some 20) (.c (.cvi .u64 (.t 19))),
   .op (some 21) (.c (.bin .add (.t 17) (.t 20))),
   .op (some 6) (.c (.mv (.t 21)))] [0, 4, 5, 6, 8, 11, 12, 13] [])
 (.block 2 (.loop [0, 4, 5, 6, 8, 11, 12, 13] Xqp)))))
 (.rg [] [.op (some 40) (.c (.bin .add (.t 13) (.int .i64 1))),
   .op (some 13) (.c (.mv (.t 40)))] [0, 4, 5, 6, 11, 12, 13] [])))
def Xz9 : S := .seq (.rg [] [.op (some 4) (.alloc 235 (.agg (List.replicate 64 (.int .u8 0))))] [0, 1, 4] [])
 (.seq (.rg [] [.op (some 5) (.c (.mv (.int .i64 0))),
   .op (some 6) (.c (.mv (.int .u64 0)))] [0, 1, 4, 5, 6] [])
 (.seq (.seq (.rg [] [.op (some 11) (.c (.mv (.t 1))),
   .op (some 12) (.c (.lenL (.t 11))),
   .op (some 13) (.c (.mv (.int .i64 0)))] [0, 4, 5, 6, 11, 12, 13] [])
 (.block 0 (.loop [0, 4, 5, 6, 11, 12, 13] Xoy)))
 (.seq (.rg [] [.op (some 41) (.c (.mv (.t 5))),
   .op (some 42) (.c (.idxP 64 1 (.t 4) (.t 41))),
   .op none (.st 1 (.t 42) (.int .u8 128))] [0, 4, 5, 6] [])
 (.seq (.rg [] [.op (some 43) (.c (.mv (.t 5))),
   .op (some 44) (.c (.bin .add (.t 43) (.int .i64 1))),
   .op (some 45) (.slb 64 1 (.t 4) (some (.t 44)) none),
   .op none (.clr (.int .u8 0) 1 (.t 45))] [0, 4, 5, 6] [])
 (.seq (.seq (.rg [] [.op (some 46) (.c (.mv (.t 5))),
   .op (some 47) (.c (.bin .add (.t 46) (.int .i64 1))),
   .op (some 48) (.c (.bin .gtr (.t 47) (.int .i64 56)))] [0, 4, 6, 48] [])
 (.cond (.t 48) (.seq (.rg [] [.op (some 49) (.c (.mv (.t 0))),
   .op (some 50) (.slb 64 1 (.t 4) none none),
   .op (some 51) (.callv (.t 49) [(.t 50)])] [0, 4, 6] [])
 (Xpj)) (.skip)))
 (Xpq))))))
theorem X4b : Xt Tryz.prog 109 2 Xz9 [] = true := by kernel_rfl
def Xpk : S := .seq (.rg [] [.op (some 173) (.c (.bin .lss (.t 172) (.int .i64 8)))] [0, 12, 172, 173] [])
 (.seq (.cond (.t 173) (.skip) (.exit 8))
 (.seq (.block 9 (.seq (.rg [] [.op (some 174) (.c (.mv (.t 172))),
   .op (some 22) (.c (.mv (.t 174)))] [0, 12, 22, 172] [])
 (.rg [0, 1, 2, 3, 5, 6, 9, 4, 7, 8, 10, 11] [.op (some 175) (.c (.mv (.t 0))),
   .op (some 176) (.c (.mv (.t 22))),
   .op (some 177) (.c (.nilc (.t 175))),
   .op (some 178) (.c (.idxP 8 1 (.t 177) (.t 176))),
   .op (some 180) (.c (.mv (.t 22))),
   .op (some 181) (.c (.idxP 8 1 (.t 12) (.t 180))),
   .op (some 184) (.c (.nilc (.t 175))),
   .op (some 179) (.c (.ld 1 false (.t 178))),
   .op (some 182) (.c (.ld 1 false (.t 181))),
   .op (some 183) (.c (.bin .add (.t 179) (.t 182))),
   .op (some 185) (.c (.idxP 8 1 (.t 184) (.t 176))),
   .op none (.st 1 (.t 185) (.t 183))] [0, 12, 172] [])))
 (.rg [] [.op (some 186) (.c (.bin .add (.t 172) (.int .i64 1))),
   .op (some 172) (.c (.mv (.t 186)))] [0, 12, 172] [])))
def Xpa : S := .seq (.rg [] [.op (some 93) (.c (.bin .lss (.t 92) (.int .i64 64)))] [0, 4, 12, 92, 93] [])
 (.seq (.cond (.t 93) (.skip) (.exit 6))
 (.seq (.block 7 (.seq (.rg [] [.op (some 94) (.c (.mv (.t 92))),
   .op (some 13) (.c (.mv (.t 94)))] [0, 4, 12, 13, 92] [])
 (.seq (.rg [0, 2, 4, 6, 1, 8, 3, 9, 5, 10, 7, 11] [.op (some 95) (.c (.idxP 8 1 (.t 12) (.int .i64 0))),
   .op (some 97) (.c (.idxP 8 1 (.t 12) (.int .i64 1))),
   .op (some 99) (.c (.idxP 8 1 (.t 12) (.int .i64 2))),
   .op (some 101) (.c (.idxP 8 1 (.t 12) (.int .i64 4))),
   .op (some 96) (.c (.ld 1 false (.t 95))),
   .op (some 14) (.c (.mv (.t 96))),
   .op (some 98) (.c (.ld 1 false (.t 97))),
   .op (some 15) (.c (.mv (.t 98))),
   .op (some 100) (.c (.ld 1 false (.t 99))),
   .op (some 16) (.c (.mv (.t 100))),
   .op (some 102) (.c (.ld 1 false (.t 101))),
   .op (some 17) (.c (.mv (.t 102)))] [0, 4, 12, 13, 14, 15, 16, 17, 92] [])
 (.seq (.rg [] [.op (some 103) (.c (.mv (.t 17))),
   .op (some 104) (.pcall 134 [(.t 103), (.int .i64 (-6))]),
   .op (some 105) (.c (.mv (.t 17))),
   .op (some 106) (.pcall 134 [(.t 105), (.int .i64 (-11))]),
   .op (some 107) (.c (.bin .xor (.t 104) (.t 106))),
   .op (some 108) (.c (.mv (.t 17))),
   .op (some 109) (.pcall 134 [(.t 108), (.int .i64 (-25))]),
   .op (some 110) (.c (.bin .xor (.t 107) (.t 109))),
   .op (some 18) (.c (.mv (.t 110)))] [0, 4, 12, 13, 14, 15, 16, 17, 18, 92] [])
 (.seq (.rg [0, 2, 4, 5, 8, 9, 10, 15, 19, 20, 1, 3, 6, 7, 11, 12, 13, 14, 21, 16, 17, 18, 22, 23] [.op (some 111) (.c (.idxP 8 1 (.t 12) (.int .i64 7))),
   .op (some 113) (.c (.mv (.t 18))),
   .op (some 115) (.c (.mv (.t 17))),
   .op (some 116) (.c (.idxP 8 1 (.t 12) (.int .i64 5))),
   .op (some 119) (.c (.mv (.t 17))),
   .op (some 120) (.c (.cpl (.t 119))),
   .op (some 121) (.c (.idxP 8 1 (.t 12) (.int .i64 6))),
   .op (some 126) (.c (.mv (.t 13))),
   .op (some 130) (.c (.mv (.t 13))),
   .op (some 131) (.c (.idxP 64 1 (.t 4) (.t 130))),
   .op (some 112) (.c (.ld 1 false (.t 111))),
   .op (some 114) (.c (.bin .add (.t 112) (.t 113))),
   .op (some 117) (.c (.ld 1 false (.t 116))),
   .op (some 118) (.c (.bin .and (.t 115) (.t 117))),
   .op (some 122) (.c (.ld 1 false (.t 121))),
   .op (some 123) (.c (.bin .and (.t 120) (.t 122))),
   .op (some 124) (.c (.bin .xor (.t 118) (.t 123))),
   .op (some 125) (.c (.bin .add (.t 114) (.t 124))),
   .op (some 132) (.c (.ld 1 false (.t 131))),
   .op (some 127) (.gix 0 64 1 (.agg [.int .u32 1116352408, .int .u32 1899447441, .int .u32 3049323471, .int .u32 3921009573, .int .u32 961987163, .int .u32 1508970993, .int .u32 2453635748, .int .u32 2870763221, .int .u32 3624381080, .int .u32 310598401, .int .u32 607225278, .int .u32 1426881987, .int .u32 1925078388, .int .u32 2162078206, .int .u32 2614888103, .int .u32 3248222580, .int .u32 3835390401, .int .u32 4022224774, .int .u32 264347078, .int .u32 604807628, .int .u32 770255983, .int .u32 1249150122, .int .u32 1555081692, .int .u32 1996064986, .int .u32 2554220882, .int .u32 2821834349, .int .u32 2952996808, .int .u32 3210313671, .int .u32 3336571891, .int .u32 3584528711, .int .u32 113926993, .int .u32 338241895, .int .u32 666307205, .int .u32 773529912, .int .u32 1294757372, .int .u32 1396182291, .int .u32 1695183700, .int .u32 1986661051, .int .u32 2177026350, .int .u32 2456956037, .int .u32 2730485921, .int .u32 2820302411, .int .u32 3259730800, .int .u32 3345764771, .int .u32 3516065817, .int .u32 3600352804, .int .u32 4094571909, .int .u32 275423344, .int .u32 430227734, .int .u32 506948616, .int .u32 659060556, .int .u32 883997877, .int .u32 958139571, .int .u32 1322822218, .int .u32 1537002063, .int .u32 1747873779, .int .u32 1955562222, .int .u32 2024104815, .int .u32 2227730452, .int .u32 2361852424, .int .u32 2428436474, .int .u32 2756734187, .int .u32 3204031479, .int .u32 3329325298]) (.t 126)),
   .op (some 128) (.c (.ld 1 false (.t 127))),
   .op (some 129) (.c (.bin .add (.t 125) (.t 128))),
   .op (some 133) (.c (.bin .add (.t 129) (.t 132))),
   .op (some 19) (.c (.mv (.t 133)))] [0, 4, 12, 14, 15, 16, 17, 19, 92] [])
 (.seq (.rg [] [.op (some 134) (.c (.mv (.t 14))),
   .op (some 135) (.pcall 134 [(.t 134), (.int .i64 (-2))]),
   .op (some 136) (.c (.mv (.t 14))),
   .op (some 137) (.pcall 134 [(.t 136), (.int .i64 (-13))]),
   .op (some 138) (.c (.bin .xor (.t 135) (.t 137))),
   .op (some 139) (.c (.mv (.t 14))),
   .op (some 140) (.pcall 134 [(.t 139), (.int .i64 (-22))]),
   .op (some 141) (.c (.bin .xor (.t 138) (.t 140))),
   .op (some 20) (.c (.mv (.t 141)))] [0, 4, 12, 14, 15, 16, 17, 19, 20, 92] [])
 (.seq (.rg [] [.op (some 142) (.c (.mv (.t 20))),
   .op (some 143) (.c (.mv (.t 14))),
   .op (some 144) (.c (.mv (.t 15))),
   .op (some 145) (.c (.bin .and (.t 143) (.t 144))),
   .op (some 146) (.c (.mv (.t 14))),
   .op (some 147) (.c (.mv (.t 16))),
   .op (some 148) (.c (.bin .and (.t 146) (.t 147))),
   .op (some 149) (.c (.bin .xor (.t 145) (.t 148))),
   .op (some 150) (.c (.mv (.t 15))),
   .op (some 151) (.c (.mv (.t 16))),
   .op (some 152) (.c (.bin .and (.t 150) (.t 151))),
   .op (some 153) (.c (.bin .xor (.t 149) (.t 152))),
   .op (some 154) (.c (.bin .add (.t 142) (.t 153))),
   .op (some 21) (.c (.mv (.t 154)))] [0, 4, 12, 14, 15, 16, 17, 19, 21, 92] [])
 (.rg [] [.op (some 155) (.c (.mv (.t 19))),
   .op (some 156) (.c (.mv (.t 21))),
   .op (some 157) (.c (.bin .add (.t 155) (.t 156))),
   .op (some 158) (.c (.mv (.t 14))),
   .op (some 159) (.c (.mv (.t 15))),
   .op (some 160) (.c (.mv (.t 16))),
   .op (some 161) (.c (.idxP 8 1 (.t 12) (.int .i64 3))),
   .op (some 162) (.c (.ld 1 false (.t 161))),
   .op (some 163) (.c (.mv (.t 19))),
   .op (some 164) (.c (.bin .add (.t 162) (.t 163))),
   .op (some 165) (.c (.mv (.t 17))),
   .op (some 166) (.c (.idxP 8 1 (.t 12) (.int .i64 5))),
   .op (some 167) (.c (.ld 1 false (.t 166))),
   .op (some 168) (.c (.idxP 8 1 (.t 12) (.int .i64 6))),
   .op (some 169) (.c (.ld 1 false (.t 168))),
   .op (some 170) (.c (.bld [.int .u32 0, .int .u32 0, .int .u32 0, .int .u32 0, .int .u32 0, .int .u32 0, .int .u32 0, .int .u32 0] [(0, (.t 157)), (1, (.t 158)), (2, (.t 159)), (3, (.t 160)), (4, (.t 164)), (5, (.t 165)), (6, (.t 167)), (7, (.t 169))])),
   .op none (.st 8 (.t 12) (.t 170))] [0, 4, 12, 92] []))))))))
 (.rg [] [.op (some 171) (.c (.bin .add (.t 92) (.int .i64 1))),
   .op (some 92) (.c (.mv (.t 171)))] [0, 4, 12, 92] [])))
def Xqj : S := .seq (.seq (.rg [] [.op (some 46) (.c (.mv (.t 7))),
   .op (some 47) (.c (.bin .lss (.t 46) (.int .i64 64)))] [0, 4, 7, 47] [])
 (.cond (.t 47) (.skip) (.exit 4)))
 (.seq (.block 5 (.seq (.rg [0, 1, 2, 4, 5, 6, 3, 8, 7, 9] [.op (some 50) (.c (.mv (.t 7))),
   .op (some 51) (.c (.bin .sub (.t 50) (.int .i64 15))),
   .op (some 52) (.c (.idxP 64 1 (.t 4) (.t 51))),
   .op (some 54) (.c (.mv (.t 7))),
   .op (some 55) (.c (.bin .sub (.t 54) (.int .i64 2))),
   .op (some 56) (.c (.idxP 64 1 (.t 4) (.t 55))),
   .op (some 53) (.c (.ld 1 false (.t 52))),
   .op (some 8) (.c (.mv (.t 53))),
   .op (some 57) (.c (.ld 1 false (.t 56))),
   .op (some 9) (.c (.mv (.t 57)))] [0, 4, 7, 8, 9] [])
 (.seq (.rg [] [.op (some 58) (.c (.mv (.t 8))),
   .op (some 59) (.pcall 134 [(.t 58), (.int .i64 (-7))]),
   .op (some 60) (.c (.mv (.t 8))),
   .op (some 61) (.pcall 134 [(.t 60), (.int .i64 (-18))]),
   .op (some 62) (.c (.bin .xor (.t 59) (.t 61))),
   .op (some 63) (.c (.mv (.t 8))),
   .op (some 64) (.c (.bin .shr (.t 63) (.int .u64 3))),
   .op (some 65) (.c (.bin .xor (.t 62) (.t 64))),
   .op (some 10) (.c (.mv (.t 65)))] [0, 4, 7, 9, 10] [])
 (.seq (.rg [] [.op (some 66) (.c (.mv (.t 9))),
   .op (some 67) (.pcall 134 [(.t 66), (.int .i64 (-17))]),
   .op (some 68) (.c (.mv (.t 9))),
   .op (some 69) (.pcall 134 [(.t 68), (.int .i64 (-19))]),
   .op (some 70) (.c (.bin .xor (.t 67) (.t 69))),
   .op (some 71) (.c (.mv (.t 9))),
   .op (some 72) (.c (.bin .shr (.t 71) (.int .u64 10))),
   .op (some 73) (.c (.bin .xor (.t 70) (.t 72))),
   .op (some 11) (.c (.mv (.t 73)))] [0, 4, 7, 10, 11] [])
 (.rg [0, 1, 2, 3, 5, 7, 8, 9, 12, 4, 6, 10, 11, 13, 14, 15] [.op (some 74) (.c (.mv (.t 7))),
   .op (some 75) (.c (.mv (.t 7))),
   .op (some 76) (.c (.bin .sub (.t 75) (.int .i64 16))),
   .op (some 77) (.c (.idxP 64 1 (.t 4) (.t 76))),
   .op (some 79) (.c (.mv (.t 10))),
   .op (some 81) (.c (.mv (.t 7))),
   .op (some 82) (.c (.bin .sub (.t 81) (.int .i64 7))),
   .op (some 83) (.c (.idxP 64 1 (.t 4) (.t 82))),
   .op (some 86) (.c (.mv (.t 11))),
   .op (some 78) (.c (.ld 1 false (.t 77))),
   .op (some 80) (.c (.bin .add (.t 78) (.t 79))),
   .op (some 84) (.c (.ld 1 false (.t 83))),
   .op (some 85) (.c (.bin .add (.t 80) (.t 84))),
   .op (some 87) (.c (.bin .add (.t 85) (.t 86))),
   .op (some 88) (.c (.idxP 64 1 (.t 4) (.t 74))),
   .op none (.st 1 (.t 88) (.t 87))] [0, 4, 7] [])))))
 (.rg [] [.op (some 48) (.c (.mv (.t 7))),
   .op (some 49) (.c (.bin .add (.t 48) (.int .i64 1))),
   .op (some 7) (.c (.mv (.t 49)))] [0, 4, 7] []))
def Xog : S := .seq (.rg [] [.op (some 27) (.c (.bin .lss (.t 26) (.int .i64 4)))] [0, 1, 4, 5, 23, 26, 27] [])
 (.seq (.cond (.t 27) (.skip) (.exit 2))
 (.seq (.block 3 (.seq (.rg [] [.op (some 28) (.c (.mv (.t 26))),
   .op (some 6) (.c (.mv (.t 28)))] [0, 1, 4, 5, 6, 23, 26] [])
 (.rg [0, 1, 2, 5, 6, 7, 8, 9, 10, 3, 4, 11, 12, 13, 14, 15] [.op (some 29) (.c (.mv (.t 5))),
   .op (some 30) (.c (.mv (.t 5))),
   .op (some 31) (.c (.idxP 64 1 (.t 4) (.t 30))),
   .op (some 34) (.c (.mv (.t 1))),
   .op (some 35) (.c (.mv (.t 5))),
   .op (some 36) (.c (.bin .mul (.int .i64 4) (.t 35))),
   .op (some 37) (.c (.mv (.t 6))),
   .op (some 38) (.c (.bin .add (.t 36) (.t 37))),
   .op (some 39) (.c (.idxA 1 (.t 34) (.t 38))),
   .op (some 32) (.c (.ld 1 false (.t 31))),
   .op (some 33) (.c (.bin .shl (.t 32) (.int .u64 8))),
   .op (some 40) (.c (.ld 1 false (.t 39))),
   .op (some 41) (.c (.cvi .u32 (.t 40))),
   .op (some 42) (.c (.bin .or (.t 33) (.t 41))),
   .op (some 43) (.c (.idxP 64 1 (.t 4) (.t 29))),
   .op none (.st 1 (.t 43) (.t 42))] [0, 1, 4, 5, 23, 26] [])))
 (.rg [] [.op (some 44) (.c (.bin .add (.t 26) (.int .i64 1))),
   .op (some 26) (.c (.mv (.t 44)))] [0, 1, 4, 5, 23, 26] [])))
def Xp6 : S := .seq (.rg [] [.op (some 24) (.c (.bin .lss (.t 23) (.int .i64 16)))] [0, 1, 4, 23, 24] [])
 (.seq (.cond (.t 24) (.skip) (.exit 0))
 (.seq (.block 1 (.seq (.rg [] [.op (some 25) (.c (.mv (.t 23))),
   .op (some 5) (.c (.mv (.t 25)))] [0, 1, 4, 5, 23] [])
 (.seq (.rg [] [.op (some 26) (.c (.mv (.int .i64 0)))] [0, 1, 4, 5, 23, 26] [])
 (.block 2 (.loop [0, 1, 4, 5, 23, 26] Xog)))))
 (.rg [] [.op (some 45) (.c (.bin .add (.t 23) (.int .i64 1))),
   .op (some 23) (.c (.mv (.t 45)))] [0, 1, 4, 23] [])))
def X0s : S := .seq (.rg [] [.op (some 4) (.alloc 238 (.agg (List.replicate 64 (.int .u32 0))))] [0, 1, 4] [])
 (.seq (.seq (.rg [] [.op (some 23) (.c (.mv (.int .i64 0)))] [0, 1, 4, 23] [])
 (.block 0 (.loop [0, 1, 4, 23] Xp6)))
 (.seq (.seq (.rg [] [.op (some 7) (.c (.mv (.int .i64 16)))] [0, 4, 7] [])
 (.block 4 (.loop [0, 4, 7] Xqj)))
 (.seq (.rg [] [.op (some 89) (.c (.mv (.t 0))),
   .op (some 90) (.c (.nilc (.t 89))),
   .op (some 91) (.c (.ld 8 true (.t 90))),
   .op (some 12) (.alloc 202 (.agg (List.replicate 8 (.int .u32 0)))),
   .op none (.st 8 (.t 12) (.t 91))] [0, 4, 12] [])
 (.seq (.seq (.rg [] [.op (some 92) (.c (.mv (.int .i64 0)))] [0, 4, 12, 92] [])
 (.block 6 (.loop [0, 4, 12, 92] Xpa)))
 (.seq (.rg [] [.op (some 172) (.c (.mv (.int .i64 0)))] [0, 12, 172] [])
 (.block 8 (.loop [0, 12, 172] Xpk)))))))
theorem X2a : Xt Tryz.prog 110 2 X0s [] = true := by kernel_rfl
def X0j : S := .seq (.rg [] [.op (some 4) (.c (.mv (.int .u32 0)))] [0, 1] [])
 (.seq (.rg [] [.op (some 6) (.c (.mv (.t 1))),
   .op (some 7) (.c (.cvi .u64 (.t 6))),
   .op (some 8) (.c (.bin .and (.t 7) (.int .u64 31))),
   .op (some 5) (.c (.mv (.t 8)))] [0, 5] [])
 (.seq (.rg [] [.op (some 9) (.c (.mv (.t 0))),
   .op (some 10) (.c (.mv (.t 5))),
   .op (some 11) (.c (.bin .shl (.t 9) (.t 10))),
   .op (some 12) (.c (.mv (.t 0))),
   .op (some 13) (.c (.mv (.t 5))),
   .op (some 14) (.c (.bin .sub (.int .u64 32) (.t 13))),
   .op (some 15) (.c (.bin .shr (.t 12) (.t 14))),
   .op (some 16) (.c (.bin .or (.t 11) (.t 15))),
   .op (some 4) (.c (.mv (.t 16)))] [4] [])
 (.ret)))
theorem X3n : Xt Tryz.prog 134 2 X0j [.t 4] = true := by kernel_rfl
end Go.Proofs.YtmapdjjigmkbfaaGreatDoor
/- An evaluator of operations on abstract values, and that what it yields holds. Over any program; no condition. -/
namespace Go.Ab
open Go

mutual
def Sh.beq : Sh → Sh → Bool
 | .leaf, .leaf => true
 | .node xs, .node ys => Sh.beqs xs ys
 | _, _ => false
def Sh.beqs : List Sh → List Sh → Bool
 | [], [] => true
 | x :: r, y :: s => Sh.beq x y && Sh.beqs r s
 | _, _ => false
end
mutual
theorem Sh.beq_eq : ∀ (a b : Sh), Sh.beq a b = true → a = b
 | .leaf, .leaf, _ => rfl
 | .node xs, .node ys, h => by simp only [Sh.beq] at h; rw [Sh.beqs_eq xs ys h]
 | .leaf, .node _, h => by simp [Sh.beq] at h
 | .node _, .leaf, h => by simp [Sh.beq] at h
theorem Sh.beqs_eq : ∀ (a b : List Sh), Sh.beqs a b = true → a = b
 | [], [], _ => rfl
 | x :: r, y :: s, h => by
  simp only [Sh.beqs, Bool.and_eq_true] at h
  rw [Sh.beq_eq x y h.1, Sh.beqs_eq r s h.2]
 | [], _ :: _, h => by simp [Sh.beqs] at h
 | _ :: _, [], h => by simp [Sh.beqs] at h
end
def V.isAny : V → Bool
 | .any => true
 | _ => false
def nz (v : V) : Option V := bif v.isAny then none else some v
def gdR (b : Bool) (v : V) : Option V := bif b then some v else none
def X0h : V → V → V → Option V
 | .d (.bool t), .d (.bool x), .d (.bool y) => some (.d (.bool (bif t then x else y)))
 | .d (.bool t), x, y => some (bif t then x else y)
 | _, _, _ => none
def X8k (op : BinOp) (k k' : IntKind) (a b : Int) : Option V :=
 match op with
 | .shl => gdR (decide (0 ≤ b)) (U5 op k a b)
 | .shr => gdR (decide (0 ≤ b)) (U5 op k a b)
 | .quo => gdR (decide (k = k') && decide (b ≠ 0)) (U5 op k a b)
 | .rem => gdR (decide (k = k') && decide (b ≠ 0)) (U5 op k a b)
 | _ => gdR (decide (k = k')) (U5 op k a b)
def X7f (op : BinOp) (x y : List UInt8) : Option V :=
 match op with
 | .add => gdR (decide (x.length + y.length ≤ 9223372036854775807)) (Xrc op x y)
 | .eql | .neq | .lss | .leq | .gtr | .geq => some (Xrc op x y)
 | _ => none
def X53 (op : BinOp) : V → V → Option V
 | .d (.int k a), .d (.int k' b) => X8k op k k' a b
 | .d (.str x), .d (.str y) => X7f op x y
 | _, _ => none
def X58 (ob : Objs) (e : Bool) : V → V → Option V
 | .ptr i p, .ptr j q => gdR (decide (i = j) && decide (p = q) && (atO ob i p).isSome) (.d (.bool e))
 | _, _ => none
def Xxn (id n : Nat) : Option Ob → Option V
 | some (.arr _ sz xs) => gdR (decide (sz ≠ 0) && decide (n = xs.length) && !xs.isEmpty) (.sd id n)
 | _ => none
def X85 (ob : Objs) : V → Option V
 | .sl id n => Xxn id n (lookO ob id)
 | .d .nils => some (.d .nilp)
 | _ => none
def X62 : V → V → Option V
 | .d (.str s), .d (.int _ n) => gdR (decide (0 ≤ n) && decide (n < s.length)) (.d (.int .u8 (s.getD n.toNat 0).toNat))
 | _, _ => none
def Xui (z : Nat) : Option V → Bool
 | some v => decide (v.size = z)
 | none => false
def Xt1 (z lo n : Nat) : Option (List V) → Bool
 | some ks => decide (lo + n ≤ ks.length) && ks.all (fun k => decide (k.size = z))
 | none => false
def X0t (ob : Objs) (z : Nat) : V → V → Option V
 | .d (.list sz xs), .d (.int _ n) => gdR (decide (z = sz) && decide (0 ≤ n) && decide (n < xs.length)) (.d (.ref (xs.getD n.toNat default)))
 | .sl id n, .d (.int _ m) => gdR (decide (0 ≤ m) && decide (m < n) && Xui z (Z2 n m.toNat (lookO ob id))) (.ep id n z m.toNat 0 [])
 | .bs id p lo n, .d (.int _ m) => gdR (decide (0 ≤ m) && decide (m < n) && Xt1 z lo n (Yc (atO ob id p))) (.ptr id (p ++ [lo + m.toNat]))
 | _, _ => none
def Xd6 (len z : Nat) (v : V) : Option (List V) → Option V
 | some ks => gdR (decide (ks.length = len) && ks.all (fun k => decide (k.size = z))) v
 | none => none
def Xoi (ob : Objs) (len z : Nat) : V → V → Option V
 | .ptr id p, .d (.int _ n) => bif decide (0 ≤ n) && decide (n < len) then Xd6 len z (.ptr id (p ++ [n.toNat])) (Yc (atO ob id p)) else none
 | .d (.ref (.agg xs)), .d (.int _ n) => gdR (decide (0 ≤ n) && decide (n < len) && decide (xs.length = len) && xs.all (fun x => decide (x.sz = z))) (.d (.ref (xs.getD n.toNat default)))
 | _, _ => none
def Xr5 (id : Nat) (p : List Nat) (f fo : Nat) : Option (List V) → Option V
 | some ks => gdR (decide (f < ks.length) && decide (Sh.sizes ((ks.take f).map V.shape) = fo)) (.ptr id (p ++ [f]))
 | none => none
def Xye (ob : Objs) (f fo : Nat) : V → Option V
 | .ptr id p => Xr5 id p f fo (Yc (atO ob id p))
 | .d (.ref (.agg xs)) => gdR (decide (f < xs.length) && decide (D.szs (xs.take f) = fo)) (.d (.ref (xs.getD f default)))
 | .ep id n z i g p => some (.ep id n z i (g + fo) (p ++ [f]))
 | _ => none
def X50 (f fo n : Nat) (ag : Bool) : Option (List V) → Option V
 | some ks => gdR (decide (f < ks.length) && decide (Sh.sizes ((ks.take f).map V.shape) = fo) && decide ((ks.getD f .any).size = n) && ((ks.getD f .any).isAgg == ag)) (ks.getD f .any)
 | none => none
def Xzg (n : Nat) (ag : Bool) : Option V → Option V
 | some v => gdR (decide (v.size = n) && (v.isAgg == ag)) v
 | none => none
def ldR (ob : Objs) (n : Nat) (ag : Bool) : V → Option V
 | .ptr id p => Xzg n ag (atO ob id p)
 | .d (.ref x) => gdR (decide (x.sz = n) && ((V.d x).isAgg == ag)) (.d x)
 | .ep id m z i f p => Xzg n ag (atE ob id m z i f p)
 | _ => none
def Xyq : V → Option V
 | .ptr id p => some (.ptr id p)
 | .ep id n z i f p => some (.ep id n z i f p)
 | .d (.ref x) => some (.d (.ref x))
 | .fn f a b => some (.fn f a b)
 | .d (.fn f a b) => some (.d (.fn f a b))
 | _ => none
def Xrl (n : Nat) : Option Ob → Option V
 | some (.arr _ _ xs) => gdR (decide (n = xs.length)) (.d (.int .i64 n))
 | some (.vec _ _ xs) => gdR (decide (n = xs.length)) (.d (.int .i64 n))
 | _ => none
def Xrj (n : Nat) : Option Ob → Option V
 | some (.box _ _) => some (.d (.int .i64 n))
 | _ => none
def Xza (ob : Objs) : V → Option V
 | .d (.list _ xs) => some (.d (.int .i64 xs.length))
 | .d .nils => some (.d (.int .i64 0))
 | .sl id n => Xrl n (lookO ob id)
 | .bs id _ _ n => Xrj n (lookO ob id)
 | _ => none
def Xxc (len : Nat) : Option V → Option V → Option (Nat × Nat)
 | none, none => some (0, len)
 | some (.d (.int _ l)), none => bif decide (0 ≤ l) && decide (l ≤ len) then some (l.toNat, len) else none
 | none, some (.d (.int _ h)) => bif decide (0 ≤ h) && decide (h ≤ len) then some (0, h.toNat) else none
 | some (.d (.int _ l)), some (.d (.int _ h)) => bif decide (0 ≤ h) && decide (h ≤ len) && decide (0 ≤ l) && decide (l ≤ h) then some (l.toNat, h.toNat) else none
 | _, _ => none
def Xzh (lo hi : Option V) : V → Option V
 | .d (.str s) => (Xxc s.length lo hi).map fun p => .d (.str ((s.take p.2).drop p.1))
 | _ => none
def X0q (z : Nat) (lo hi : Option V) : V → Option V
 | .d (.list sz xs) => bif decide (z = sz) then (Xxc xs.length lo hi).map fun p => .d (.list sz ((xs.take p.2).drop p.1)) else none
 | _ => none
def X7b (i : Nat) : V → Option V
 | .tup xs => gdR (decide (i < xs.length)) (xs.getD i .any)
 | _ => none
def Xsf : List V → List (Nat × V) → Option (List V)
 | ks, [] => some ks
 | ks, (i, v) :: r => bif decide (i < ks.length) && Sh.beq v.shape (ks.getD i .any).shape && !v.isAny then Xsf (ks.set i v) r else none
def X7r (t : Nat) (z : D) : V → Option V
 | .iface t' v => some (bif decide (t' = t) then .tup [v, .d (.bool true)] else .tup [.d z, .d (.bool false)])
 | .d (.iface t' x) => some (bif decide (t' = t) then .tup [.d x, .d (.bool true)] else .tup [.d z, .d (.bool false)])
 | .d .nili => some (.tup [.d z, .d (.bool false)])
 | _ => none

def X6r (ty : KT) (e : Bool) : V → V → Option V
 | .d x, .d y => gdR (ty.fits x && ty.fits y) (.d (.bool (D.eqb x y == e)))
 | _, _ => none
def Xz3 (len z : Nat) (ag : Bool) : V → V → Option V
 | .d (.agg xs), .d (.int _ n) => gdR (decide (0 ≤ n) && decide (n < len) && decide (xs.length = len) && xs.all (fun x => decide (x.sz = z) && (x.isAgg == ag))) (.d (xs.getD n.toNat default))
 | _, _ => none

def D.szIs (x : D) (z : Nat) : Bool := bif x.isAgg then decide (x.sz = z) else Nat.beq 1 z
theorem D.szIs_eq (x : D) (z : Nat) : x.szIs z = decide (x.sz = z) := by
 unfold D.szIs
 cases hx : x.isAgg with
 | true => rfl
 | false =>
  have h1 : x.sz = 1 := by cases x <;> first | rfl | simp [D.isAgg] at hx
  rw [h1]
  simp only [cond_false]
  by_cases e : 1 = z
  ·subst e; rfl
  ·rw [decide_eq_false e]
   cases hb : Nat.beq 1 z with
   | false => rfl
   | true => exact (e (Nat.eq_of_beq_eq_true hb)).elim
def V.szIs (v : V) (z : Nat) : Bool := bif v.isAgg then decide (v.size = z) else Nat.beq 1 z
theorem V.szIs_eq (v : V) (z : Nat) : v.szIs z = decide (v.size = z) := by
 unfold V.szIs
 cases hx : v.isAgg with
 | true => rfl
 | false =>
  have h1 : v.size = 1 := by
   cases v with
   | d x => cases x <;> first | rfl | simp [V.isAgg] at hx
   | agg xs => simp [V.isAgg] at hx
   | _ => rfl
  rw [h1]
  simp only [cond_false]
  by_cases e : 1 = z
  ·subst e; rfl
  ·rw [decide_eq_false e]
   cases hb : Nat.beq 1 z with
   | false => rfl
   | true => exact (e (Nat.eq_of_beq_eq_true hb)).elim
def V.atF : V → List Nat → Option V
 | v, [] => some v
 | .d (.agg xs), i :: p => match xs[i]? with
  | some x => V.atF (.d x) p
  | none => none
 | v, i :: p => match v.kids with
  | some ks => match ks[i]? with
   | some k => V.atF k p
   | none => none
  | none => none
theorem V.atF_eq : ∀ (p : List Nat) (v : V), v.atF p = v.at p
 | [], v => by cases v <;> first | rfl | (rename_i x; cases x <;> rfl)
 | i :: p, v => by
  cases v with
  | d x =>
   cases x with
   | agg xs =>
    simp only [V.atF, V.at, V.kids, List.getElem?_map]
    cases xs[i]? with
    | none => rfl
    | some y => simp only [Option.map_some]; exact V.atF_eq p (.d y)
   | _ => simp [V.atF, V.at, V.kids]
  | agg xs =>
   simp only [V.atF, V.at, V.kids]
   cases xs[i]? with
   | none => rfl
   | some y => exact V.atF_eq p y
  | _ => simp [V.atF, V.at, V.kids]
def X01 (objs : Objs) (id : Nat) (p : List Nat) : Option V := match lookO objs id with
 | some (.box _ t) => t.atF p
 | _ => none
theorem Xnn (objs : Objs) (id : Nat) (p : List Nat) : X01 objs id p = atO objs id p := by
 unfold X01 atO
 cases lookO objs id with
 | none => rfl
 | some o => cases o <;> simp [V.atF_eq]
def Xgr (len z : Nat) (w : V) : Option V → Option V
 | some (.d (.agg xs)) => gdR (Nat.beq xs.length len && xs.all (fun x => x.szIs z)) w
 | o => Xd6 len z w (Yc o)
theorem Xwc (a b : Nat) : Nat.beq a b = decide (a = b) := by
 by_cases e : a = b
 ·subst e; simp
 ·rw [decide_eq_false e]
  cases hb : Nat.beq a b with
  | false => rfl
  | true => exact (e (Nat.eq_of_beq_eq_true hb)).elim
theorem Xi5 (len z : Nat) (w : V) (o : Option V) : Xgr len z w o = Xd6 len z w (Yc o) := by
 unfold Xgr
 split
 ·rename_i xs
  simp only [Yc, V.kids, Xd6, List.length_map, List.all_map, Xwc, D.szIs_eq]
  congr 2
  congr 1
  funext x
  simp [V.size, V.shape, D.size_shape]
 ·rfl
def Xm8 (ob : Objs) (len z : Nat) : V → V → Option V
 | .ptr id p, .d (.int _ n) => bif decide (0 ≤ n) && decide (n < len) then Xgr len z (.ptr id (p ++ [n.toNat])) (X01 ob id p) else none
 | u, v => Xoi ob len z u v
theorem Xlz (ob : Objs) (len z : Nat) (u v : V) : Xm8 ob len z u v = Xoi ob len z u v := by
 unfold Xm8; split
 ·simp only [Xoi, Xi5, Xnn]
 ·rfl
def Xzr (n : Nat) (ag : Bool) : Option V → Option V
 | some v => gdR (v.szIs n && (v.isAgg == ag)) v
 | none => none
def X3g (ob : Objs) (n : Nat) (ag : Bool) : V → Option V
 | .ptr id p => Xzr n ag (X01 ob id p)
 | .d (.ref x) => gdR (x.szIs n && ((V.d x).isAgg == ag)) (.d x)
 | v => ldR ob n ag v
theorem Xko (ob : Objs) (n : Nat) (ag : Bool) (v : V) : X3g ob n ag v = ldR ob n ag v := by
 unfold X3g; split
 ·simp only [ldR, Xnn]
  cases atO ob _ _ <;> simp [Xzr, Xzg, V.szIs_eq]
 ·simp only [ldR, D.szIs_eq]
 ·rfl
def Xnb {α : Type} (n : Int) (f : Int → α) : α := match n with
 | .ofNat 0 => f (.ofNat 0)
 | .ofNat (m + 1) => f (.ofNat (m + 1))
 | .negSucc 0 => f (.negSucc 0)
 | .negSucc (m + 1) => f (.negSucc (m + 1))
theorem Xnm {α : Type} (n : Int) (f : Int → α) : Xnb n f = f n := by
 unfold Xnb; split <;> rfl
def Xwx : Option V → Option V
 | some (.d (.int k n)) => Xnb n fun n => some (.d (.int k n))
 | o => o
theorem Xls (o : Option V) : Xwx o = o := by
 unfold Xwx; split
 ·rw [Xnm]
 ·rfl
def C.run (sl : Xb) (ob : Objs) : C → Option V
 | .mv x => some (x.ev sl)
 | .pick c a b => X0h (c.ev sl) (a.ev sl) (b.ev sl)
 | .not x => nz (Xu1 (x.ev sl))
 | .neg x => Xwx (nz (X24 (x.ev sl)))
 | .cpl x => Xwx (nz (X2f (x.ev sl)))
 | .mx x y => nz (mxV (x.ev sl) (y.ev sl))
 | .bin op x y => Xwx (X53 op (x.ev sl) (y.ev sl))
 | .beq e x y => nz (X2u e (x.ev sl) (y.ev sl))
 | .isnil e x => nz (V6 e (x.ev sl))
 | .pnil e x => nz (Xu2 e (x.ev sl))
 | .fnil e x => nz (Xvh e (x.ev sl))
 | .peq e x y => X58 ob e (x.ev sl) (y.ev sl)
 | .usd x => X85 ob (x.ev sl)
 | .cvi k x => Xwx (nz (Xud k (x.ev sl)))
 | .cvs x => nz (X14 (x.ev sl))
 | .idx x i => X62 (x.ev sl) (i.ev sl)
 | .idxA z x i => X0t ob z (x.ev sl) (i.ev sl)
 | .idxP n z x i => Xm8 ob n z (x.ev sl) (i.ev sl)
 | .fldA f fo x => Xye ob f fo (x.ev sl)
 | .fld f fo n ag x => X50 f fo n ag (x.ev sl).kids
 | .ld n ag x => X3g ob n ag (x.ev sl)
 | .nilc x => Xyq (x.ev sl)
 | .lenS x => nz (Xgg (x.ev sl))
 | .lenL x => Xza ob (x.ev sl)
 | .lenA n => some (.d (.int .i64 n))
 | .slcS x lo hi => Xzh (lo.map (A.ev sl)) (hi.map (A.ev sl)) (x.ev sl)
 | .slcL z x lo hi => X0q z (lo.map (A.ev sl)) (hi.map (A.ev sl)) (x.ev sl)
 | .ext x i => X7b i (x.ev sl)
 | .bld z parts => (Xsf (z.map .d) (parts.map fun (i, x) => (i, x.ev sl))).map V.mk
 | .mkf f first cap => some (Xsg f (first.map (A.ev sl)) (cap.map (A.ev sl)))
 | .mki t x => some (Xoc t (x.ev sl))
 | .tas t z x => X7r t z (x.ev sl)
 | .eqD ty e x y => X6r ty e (x.ev sl) (y.ev sl)
 | .aix n z ag x i => Xz3 n z ag (x.ev sl) (i.ev sl)

theorem Xp {b : Bool} {v u : V} (h : gdR b v = some u) : b = true ∧ v = u := by
 cases b <;> simp [gdR] at h ⊢; exact h
theorem Za {v u : V} (h : nz v = some u) : v = u ∧ v ≠ .any := by
 cases v <;> simp [nz, V.isAny] at h <;> exact ⟨h, by simp⟩
theorem Ub {len : Nat} {lo hi : Option V} {p : Nat × Nat} {K : Nat → Nat → Prop} (h : Xxc len lo hi = some p) (hK : K p.1 p.2) : Vq len K lo hi := by
 unfold Xxc at h
 split at h <;> simp only [Vq]
 ·cases h; exact hK
 ·rw [Bool.cond_eq_ite] at h; split at h
  ·rename_i hc; cases h; simp at hc; exact ⟨hc, hK⟩
  ·cases h
 ·rw [Bool.cond_eq_ite] at h; split at h
  ·rename_i hc; cases h; simp at hc; exact ⟨hc, hK⟩
  ·cases h
 ·rw [Bool.cond_eq_ite] at h; split at h
  ·rename_i hc; cases h; simp at hc; exact ⟨⟨hc.1.1.1, hc.1.1.2⟩, ⟨hc.1.2, hc.2⟩, hK⟩
  ·cases h
 ·cases h
theorem Zw {K : List V → Prop} : ∀ (ps : List (Nat × V)) (ks : List V) {l : List V}, Xsf ks ps = some l → K l → Vt ks ps K
 | [], ks, l, h, hK => by simp only [Xsf, Option.some.injEq] at h; subst h; exact hK
 | (i, v) :: r, ks, l, h, hK => by
  simp only [Xsf] at h
  rw [Bool.cond_eq_ite] at h
  split at h
  ·rename_i hc
   simp only [Bool.and_eq_true, decide_eq_true_eq, Bool.not_eq_true'] at hc
   refine ⟨hc.1.1, Sh.beq_eq _ _ hc.1.2, fun e => ?_, Zw r _ h hK⟩
   subst e; simp [V.isAny] at hc
  ·cases h
theorem C.run_sound {sl : Xb} {ob : Objs} {c : C} {v : V} {K : V → Prop} (h : c.run sl ob = some v) (hK : K v) : c.wp sl ob K := by
 cases c <;> simp only [C.run, Xko, Xlz, Xls] at h <;> simp only [C.wp]
 case mv => cases h; exact hK
 case lenA => cases h; exact hK
 case mkf => cases h; exact hK
 case mki => cases h; exact hK
 case bld z parts =>
  rw [Option.map_eq_some_iff] at h
  obtain ⟨l, h1, rfl⟩ := h
  exact Zw _ _ h1 hK
 case pick x y z =>
  generalize A.ev sl x = a at h ⊢; generalize A.ev sl y = b at h ⊢; generalize A.ev sl z = c at h ⊢
  unfold X0h at h
  split at h
  ·cases h; rename_i t _ _; cases t <;> exact hK
  ·cases h; rename_i t hn
   cases t
   ·simp only [cond_false] at hK
    unfold Vv
    split <;> simp_all
   ·simp only [cond_true] at hK
    unfold Vv
    split <;> simp_all
  ·cases h
 case bin op x y =>
  generalize A.ev sl x = a at h ⊢; generalize A.ev sl y = b at h ⊢
  unfold X53 at h; split at h
  ·simp only [Xh7]
   cases op <;> simp only [X8k] at h <;> obtain ⟨h1, rfl⟩ := Xp h <;> simp only [Bool.and_eq_true, decide_eq_true_eq] at h1 <;> simp only [Xhb] <;> first | exact ⟨h1, hK⟩ | exact ⟨h1.1, h1.2, hK⟩
  ·simp only [Xh7]
   cases op <;> simp only [X7f] at h <;> first | (obtain ⟨h1, rfl⟩ := Xp h; exact ⟨of_decide_eq_true h1, hK⟩) | (cases h; exact hK) | cases h
  ·cases h
 case not x => obtain ⟨rfl, h1⟩ := Za h; generalize A.ev sl x = a at h1 hK ⊢; unfold Xu1 at h1 hK; unfold Xlq; split <;> simp_all
 case cpl x => obtain ⟨rfl, h1⟩ := Za h; generalize A.ev sl x = a at h1 hK ⊢; unfold X2f at h1 hK; unfold Xu0; split <;> simp_all
 case mx x y => obtain ⟨rfl, h1⟩ := Za h; generalize A.ev sl x = a at h1 hK ⊢; generalize A.ev sl y = b at h1 hK ⊢; unfold mxV at h1 hK; unfold mxK; split <;> simp_all
 case neg x => obtain ⟨rfl, h1⟩ := Za h; generalize A.ev sl x = a at h1 hK ⊢; unfold X24 at h1 hK; unfold Xwd; split <;> simp_all
 case isnil x => obtain ⟨rfl, h1⟩ := Za h; generalize A.ev sl x = a at h1 hK ⊢; unfold V6 at h1 hK; unfold Zz; split <;> simp_all
 case pnil x => obtain ⟨rfl, h1⟩ := Za h; generalize A.ev sl x = a at h1 hK ⊢; unfold Xu2 at h1 hK; unfold Xfn; split <;> simp_all
 case fnil x => obtain ⟨rfl, h1⟩ := Za h; generalize A.ev sl x = a at h1 hK ⊢; unfold Xvh at h1 hK; unfold Xfh; split <;> simp_all
 case cvi x => obtain ⟨rfl, h1⟩ := Za h; generalize A.ev sl x = a at h1 hK ⊢; unfold Xud at h1 hK; unfold Xnk; split <;> simp_all
 case cvs x => obtain ⟨rfl, h1⟩ := Za h; generalize A.ev sl x = a at h1 hK ⊢; unfold X14 at h1 hK; unfold Xuv; split <;> simp_all
 case lenS x => obtain ⟨rfl, h1⟩ := Za h; generalize A.ev sl x = a at h1 hK ⊢; unfold Xgg at h1 hK; unfold Jo; split <;> simp_all
 case beq x y => obtain ⟨rfl, h1⟩ := Za h; generalize A.ev sl x = a at h1 hK ⊢; generalize A.ev sl y = b at h1 hK ⊢; unfold X2u at h1 hK; unfold Xtl; split <;> simp_all
 case peq x y =>
  generalize A.ev sl x = a at h ⊢; generalize A.ev sl y = b at h ⊢
  unfold X58 at h; split at h
  ·obtain ⟨h1, rfl⟩ := Xp h
   simp only [Bool.and_eq_true, decide_eq_true_eq, Option.isSome_iff_exists] at h1
   exact ⟨h1.1.1, h1.1.2, h1.2, hK⟩
  ·cases h
 case usd x =>
  generalize A.ev sl x = a at h ⊢
  unfold X85 at h; split at h
  ·unfold Xxn at h
   simp only [Xjg]
   split at h
   ·rename_i E sz xs hl
    obtain ⟨h1, rfl⟩ := Xp h
    simp at h1
    exact ⟨⟨_, _, _, hl, h1.1.1, h1.1.2, h1.2⟩, hK⟩
   ·cases h
  ·cases h; exact hK
  ·cases h
 case idx x y =>
  generalize A.ev sl x = a at h ⊢; generalize A.ev sl y = b at h ⊢
  unfold X62 at h; split at h
  ·obtain ⟨h1, rfl⟩ := Xp h
   simp only [Bool.and_eq_true, decide_eq_true_eq] at h1
   exact ⟨h1, hK⟩
  ·cases h
 case idxA x y =>
  generalize A.ev sl x = a at h ⊢; generalize A.ev sl y = b at h ⊢
  unfold X0t at h; split at h
  ·obtain ⟨h1, rfl⟩ := Xp h
   simp only [Bool.and_eq_true, decide_eq_true_eq] at h1
   exact ⟨h1.1.1, ⟨h1.1.2, h1.2⟩, hK⟩
  ·obtain ⟨h1, rfl⟩ := Xp h
   simp only [Bool.and_eq_true, decide_eq_true_eq] at h1
   refine ⟨h1.1, ?_, hK⟩
   have h2 := h1.2
   generalize Z2 _ _ _ = o at h2 ⊢
   cases o with
   | none => simp [Xui] at h2
   | some v =>
    simp only [Xui] at h2
    simp only [Xgi]
    exact of_decide_eq_true h2
  ·obtain ⟨h1, rfl⟩ := Xp h
   simp only [Bool.and_eq_true, decide_eq_true_eq] at h1
   refine ⟨h1.1, ?_, hK⟩
   have h2 := h1.2
   generalize Yc _ = o at h2 ⊢
   cases o with
   | none => simp [Xt1] at h2
   | some ks =>
    simp only [Xt1, Bool.and_eq_true, decide_eq_true_eq, List.all_eq_true] at h2
    exact ⟨ks, rfl, h2⟩
  ·cases h
 case eqD x y =>
  generalize A.ev sl x = a at h ⊢; generalize A.ev sl y = b at h ⊢
  unfold X6r at h; split at h
  ·obtain ⟨h1, rfl⟩ := Xp h
   simp only [Bool.and_eq_true] at h1
   exact ⟨h1.1, h1.2, hK⟩
  ·cases h
 case aix x y =>
  generalize A.ev sl x = a at h ⊢; generalize A.ev sl y = b at h ⊢
  unfold Xz3 at h; split at h
  ·obtain ⟨h1, rfl⟩ := Xp h
   simp only [Bool.and_eq_true, decide_eq_true_eq, List.all_eq_true, beq_iff_eq] at h1
   exact ⟨⟨h1.1.1.1, h1.1.1.2⟩, h1.1.2, h1.2, hK⟩
  ·cases h
 case idxP x y =>
  generalize A.ev sl x = a at h ⊢; generalize A.ev sl y = b at h ⊢
  unfold Xoi at h; split at h
  ·rw [Bool.cond_eq_ite] at h; split at h
   ·rename_i hc
    unfold Xd6 at h; split at h
    ·rename_i ks hk
     obtain ⟨h1, rfl⟩ := Xp h
     simp only [Bool.and_eq_true, decide_eq_true_eq, List.all_eq_true] at h1 hc
     exact ⟨hc, ⟨ks, hk, h1.1, h1.2⟩, hK⟩
    ·cases h
   ·cases h
  ·obtain ⟨h1, rfl⟩ := Xp h
   simp only [Bool.and_eq_true, decide_eq_true_eq, List.all_eq_true] at h1
   exact ⟨⟨h1.1.1.1, h1.1.1.2⟩, h1.1.2, h1.2, hK⟩
  ·cases h
 case fldA x =>
  generalize A.ev sl x = a at h ⊢
  unfold Xye at h; split at h
  ·unfold Xr5 at h; split at h
   ·rename_i ks hk
    obtain ⟨h1, rfl⟩ := Xp h
    simp only [Bool.and_eq_true, decide_eq_true_eq] at h1
    simp only [Vf, hk]
    exact ⟨h1.1, h1.2, hK⟩
   ·cases h
  ·obtain ⟨h1, rfl⟩ := Xp h
   simp only [Bool.and_eq_true, decide_eq_true_eq] at h1
   exact ⟨h1.1, h1.2, hK⟩
  ·cases h; exact hK
  ·cases h
 case fld x =>
  generalize (A.ev sl x).kids = a at h ⊢
  unfold X50 at h; split at h
  ·obtain ⟨h1, rfl⟩ := Xp h
   simp only [Bool.and_eq_true, decide_eq_true_eq, beq_iff_eq] at h1
   exact ⟨h1.1.1.1, h1.1.1.2, h1.1.2, h1.2, hK⟩
  ·cases h
 case ld x =>
  generalize A.ev sl x = a at h ⊢
  unfold ldR at h; split at h
  ·unfold Xzg at h; split at h
   ·rename_i v hk
    obtain ⟨h1, rfl⟩ := Xp h
    simp only [Bool.and_eq_true, decide_eq_true_eq, beq_iff_eq] at h1
    simp only [ldK, hk]
    exact ⟨h1.1, h1.2, hK⟩
   ·cases h
  ·obtain ⟨h1, rfl⟩ := Xp h
   simp only [Bool.and_eq_true, decide_eq_true_eq, beq_iff_eq] at h1
   exact ⟨h1.1, h1.2, hK⟩
  ·unfold Xzg at h; split at h
   ·rename_i v hk
    obtain ⟨h1, rfl⟩ := Xp h
    simp only [Bool.and_eq_true, decide_eq_true_eq, beq_iff_eq] at h1
    simp only [ldK, hk]
    exact ⟨h1.1, h1.2, hK⟩
   ·cases h
  ·cases h
 case nilc x =>
  generalize A.ev sl x = a at h ⊢
  unfold Xyq at h; split at h <;> cases h <;> exact hK
 case lenL x =>
  generalize A.ev sl x = a at h ⊢
  unfold Xza at h; split at h
  ·cases h; exact hK
  ·cases h; exact hK
  ·unfold Xrl at h; split at h
   ·rename_i E z xs hl
    obtain ⟨h1, rfl⟩ := Xp h
    exact ⟨.inl ⟨_, _, _, hl, of_decide_eq_true h1⟩, hK⟩
   ·rename_i E z xs hl
    obtain ⟨h1, rfl⟩ := Xp h
    exact ⟨.inr ⟨_, _, _, hl, of_decide_eq_true h1⟩, hK⟩
   ·cases h
  ·unfold Xrj at h; split at h
   ·rename_i E t hl
    cases h
    exact ⟨⟨_, _, hl⟩, hK⟩
   ·cases h
  ·cases h
 case slcS x lo hi =>
  generalize A.ev sl x = a at h ⊢
  unfold Xzh at h; split at h
  ·rw [Option.map_eq_some_iff] at h
   obtain ⟨p, h1, rfl⟩ := h
   exact Ub (K := fun l h => K (.d (.str ((List.take h _).drop l)))) h1 hK
  ·cases h
 case slcL x lo hi =>
  generalize A.ev sl x = a at h ⊢
  unfold X0q at h; split at h
  ·rw [Bool.cond_eq_ite] at h; split at h
   ·rename_i hc
    rw [Option.map_eq_some_iff] at h
    obtain ⟨p, h1, rfl⟩ := h
    exact ⟨of_decide_eq_true hc, Ub (K := fun l h => K (.d (.list _ ((List.take h _).drop l)))) h1 hK⟩
   ·cases h
  ·cases h
 case ext x i =>
  generalize A.ev sl x = a at h ⊢
  unfold X7b at h; split at h
  ·obtain ⟨h1, rfl⟩ := Xp h
   exact ⟨of_decide_eq_true h1, hK⟩
  ·cases h
 case tas t z x =>
  generalize A.ev sl x = a at h ⊢
  unfold X7r at h; split at h
  ·cases h
   refine ⟨fun e => ?_, fun e => ?_⟩ <;> simp [e] at hK <;> exact hK
  ·cases h
   refine ⟨fun e => ?_, fun e => ?_⟩ <;> simp [e] at hK <;> exact hK
  ·cases h; exact hK
  ·cases h
end Go.Ab
/- An evaluator of statements and functions, and that what it yields holds. Over any program; no condition. -/
namespace Go.Ab
open Go

inductive Rr where
 | ok (v : V) (ob : Objs)
 | pn (v : V) (ob : Objs)
 | no

def Ut : List D → Option (List UInt8)
 | [] => some []
 | .int .u8 n :: r => bif decide (0 ≤ n) && decide (n < 256) then (Ut r).map fun s => UInt8.ofNat n.toNat :: s else none
 | _ => none
theorem Ug : ∀ {l : List D} {s : List UInt8}, Ut l = some s → l = bytesD s
 | [], s, h => by simp only [Ut, Option.some.injEq] at h; subst h; rfl
 | x :: r, s, h => by
  unfold Ut at h
  split at h
  ·rename_i e; cases e
  ·rename_i n r' e
   cases e
   rw [Bool.cond_eq_ite] at h
   split at h
   ·rename_i hc
    simp only [Bool.and_eq_true, decide_eq_true_eq] at hc
    rw [Option.map_eq_some_iff] at h
    obtain ⟨t, h1, rfl⟩ := h
    rw [Ug h1]
    have : ((UInt8.ofNat n.toNat).toNat : Int) = n := by rw [UInt8.toNat_ofNat']; omega
    simp only [bytesD, this]
   ·cases h
  ·cases h

def X7h (ob : Objs) (id : Nat) (p : List Nat) (n E : Nat) (v t : V) : Option V → Rr
 | some old => bif Sh.beq v.shape old.shape && decide (old.size = n) && v.sto then (match t.set p v with | some t' => .ok .undef (setO ob id (.box E t')) | none => .no) else .no
 | none => .no
def X55 (ob : Objs) (id : Nat) (p : List Nat) (n : Nat) (v : V) : Option Ob → Rr
 | some (.box E t) => X7h ob id p n E v t (t.at p)
 | _ => .no
def Xy9 (ob : Objs) (id i n : Nat) (o : Ob) (v v0 : V) (p : List Nat) : Option V → Rr
 | some old => bif Sh.beq v.shape old.shape && decide (old.size = n) && v.sto then (match v0.set p v with | some t' => .ok .undef (setO ob id (Xg2 o i t')) | none => .no) else .no
 | none => .no
def Xxo (ob : Objs) (id i n : Nat) (o : Ob) (v : V) (z f : Nat) (p : List Nat) : Option V → Rr
 | some v0 => bif decide (z = v0.size) && decide (f = v0.shape.off p) then Xy9 ob id i n o v v0 p (v0.at p) else .no
 | none => .no
def X0m (ob : Objs) (id m z i f : Nat) (p : List Nat) (n : Nat) (v : V) : Option Ob → Rr
 | some o => Xxo ob id i n o v z f p (Z2 m i (some o))
 | none => .no
def stR (ob : Objs) (n : Nat) (v : V) : V → Rr
 | .ptr id p => X55 ob id p n v (lookO ob id)
 | .ep id m z i f p => X0m ob id m z i f p n v (lookO ob id)
 | _ => .no
def V.isLf (v : V) : Bool := !v.isAgg
theorem V.lf_shape {v : V} (h : v.isLf = true) : v.shape = .leaf := by
 cases v with
 | d x => cases x <;> first | rfl | simp [V.isLf, V.isAgg] at h
 | agg xs => simp [V.isLf, V.isAgg] at h
 | _ => rfl
def Xms (a b : V) : Bool := bif a.isLf && b.isLf then true else Sh.beq a.shape b.shape
theorem Xmy {a b : V} (h : Xms a b = true) : a.shape = b.shape := by
 unfold Xms at h
 cases hc : (a.isLf && b.isLf) with
 | true =>
  simp only [Bool.and_eq_true] at hc
  rw [V.lf_shape hc.1, V.lf_shape hc.2]
 | false => rw [hc] at h; exact Sh.beq_eq _ _ h
def V.setF : V → List Nat → V → Option V
 | _, [], x => some x
 | .d (.agg xs), i :: p, x => match xs[i]? with
  | some y => match V.setF (.d y) p x with
   | some (.d z) => some (.d (.agg (xs.set i z)))
   | some k => some (V.mk ((xs.map .d).set i k))
   | none => none
  | none => none
 | v, i :: p, x => match v.kids with
  | some ks => match ks[i]? with
   | some k => match V.setF k p x with
    | some k' => some (V.mk (ks.set i k'))
    | none => none
   | none => none
  | none => none
theorem Xmw : ∀ (l : List D), V.allD (l.map .d) = some l
 | [] => rfl
 | x :: r => by simp only [List.map_cons, V.allD, Xmw r]
theorem V.setF_eq : ∀ (p : List Nat) (v x : V), v.setF p x = v.set p x
 | [], v, x => by cases v <;> first | rfl | (rename_i y; cases y <;> rfl)
 | i :: p, v, x => by
  cases v with
  | d y =>
   cases y with
   | agg xs =>
    simp only [V.setF, V.set, V.kids, List.getElem?_map]
    cases xs[i]? with
    | none => rfl
    | some y =>
     simp only [Option.map_some, V.setF_eq p (.d y) x]
     cases V.set (.d y) p x with
     | none => rfl
     | some k =>
      cases k with
      | d z => simp only [← List.map_set, V.mk, Xmw]
      | _ => rfl
   | _ => simp [V.setF, V.set, V.kids]
  | agg xs =>
   simp only [V.setF, V.set, V.kids]
   cases xs[i]? with
   | none => rfl
   | some y => simp only [V.setF_eq p y x]; cases V.set y p x <;> rfl
  | _ => simp [V.setF, V.set, V.kids]
def Xxz (ob : Objs) (id : Nat) (p : List Nat) (n E : Nat) (v t : V) : Option V → Rr
 | some old => bif Xms v old && old.szIs n && v.sto then (match t.setF p v with | some t' => .ok .undef (setO ob id (.box E t')) | none => .no) else .no
 | none => .no
def X0o (ob : Objs) (id : Nat) (p : List Nat) (n : Nat) (v : V) : Option Ob → Rr
 | some (.box E t) => Xxz ob id p n E v t (t.atF p)
 | _ => .no
def X8v (ob : Objs) (n : Nat) (v : V) : V → Rr
 | .ptr id p => X0o ob id p n v (lookO ob id)
 | u => stR ob n v u
def X5m (sz : Nat) : V → Option (List D)
 | .d (.list z ys) => bif decide (z = sz) then some ys else none
 | .d .nils => some []
 | _ => none
def Xt0 (id E sz B n : Nat) (ob : Objs) (ys : List D) : Option Ob → Rr
 | some (.arr E' sz' xs) => bif decide (E' = E) && decide (sz' = sz) && decide (n = xs.length) && decide ((2 * (xs.length + ys.length) + 192) * B ≤ 281474976710656) then .ok (.sl id (xs.length + ys.length)) (setO ob id (.arr E sz (xs ++ ys))) else .no
 | _ => .no
def X08 (E sz B : Nat) (ob : Objs) (ys : List D) : V → Rr
 | .sl id n => Xt0 id E sz B n ob ys (lookO ob id)
 | .d .nils => bif decide ((2 * ys.length + 192) * B ≤ 281474976710656) then .ok (.sl (fresh ob) ys.length) ((fresh ob, .arr E sz ys) :: ob) else .no
 | _ => .no
def Xrq (sz n : Nat) : Option Ob → Option (List V)
 | some (.vec _ z ys) => bif decide (z = sz) && decide (n = ys.length) && V.stos ys then some ys else none
 | some (.arr _ z ys) => bif decide (z = sz) && decide (n = ys.length) then some (ys.map .d) else none
 | _ => none
def Xzc (sz : Nat) (ob : Objs) : V → Option (List V)
 | .d (.list z ys) => bif decide (z = sz) then some (ys.map .d) else none
 | .d .nils => some []
 | .sl id n => Xrq sz n (lookO ob id)
 | _ => none
def Xzb (id E sz B n : Nat) (ob : Objs) (ys : List V) : Option Ob → Rr
 | some (.vec E' sz' xs) => bif decide (E' = E) && decide (sz' = sz) && decide (n = xs.length) && decide ((2 * (xs.length + ys.length) + 192) * B ≤ 281474976710656) then .ok (.sl id (xs.length + ys.length)) (setO ob id (.vec E sz (xs ++ ys))) else .no
 | some (.arr E' sz' xs) => bif decide (E' = E) && decide (sz' = sz) && decide (n = xs.length) && decide ((2 * (xs.length + ys.length) + 192) * B ≤ 281474976710656) then .ok (.sl id (xs.length + ys.length)) (setO ob id (.vec E sz (xs.map .d ++ ys))) else .no
 | _ => .no
def X88 (E sz B : Nat) (ob : Objs) (ys : List V) : V → Rr
 | .sl id n => Xzb id E sz B n ob ys (lookO ob id)
 | .d .nils => bif decide ((2 * ys.length + 192) * B ≤ 281474976710656) then .ok (.sl (fresh ob) ys.length) ((fresh ob, .vec E sz ys) :: ob) else .no
 | _ => .no
def Xqc (o : Option V) (ob : Objs) : Rr := match o with
 | some v => .ok v ob
 | none => .no
def X5j : V → Option V
 | .d (.list sz xs) => bif decide (sz = 1) then (Ut xs).map fun s => .d (.str s) else none
 | .d .nils => some (.d (.str []))
 | _ => none
def X47 : V → Option V
 | .d (.str s) => some (.d (.list 1 (bytesD s)))
 | _ => none
def Xyi : V → Option (List D)
 | .d (.str s) => some (bytesD s)
 | _ => none
def Xyz : Option (D × Objs) → Rr
 | some (d, ob) => .ok (.d d) ob
 | none => .no
def Xxi (n : Nat) (ag : Bool) (ob : Objs) : Option V → Rr
 | some v => bif decide (v.size = n) && (v.isAgg == ag) then Xyz (V.giv ob v) else .no
 | none => .no
def X8m (n : Nat) (ag : Bool) (ob : Objs) : V → Rr
 | .ptr id p => Xxi n ag ob (atO ob id p)
 | _ => .no
def Xxl (ob : Objs) (id : Nat) (p : List Nat) (x : D) : Option Ob → Rr
 | some (.box E t) => match t.set p (.d x) with
  | some t' => .ok (.d x) (setO ob id (.box E t'))
  | none => .no
 | _ => .no
def Xy0 (v : V) (id : Nat) (p : List Nat) : Option (D × Objs) → Rr
 | some (x, ob) => bif Sh.beq x.shape v.shape then Xxl ob id p x (lookO ob id) else .no
 | none => .no
def X0v (n : Nat) (ag : Bool) (ob : Objs) (id : Nat) (p : List Nat) : Option V → Rr
 | some v => bif decide (v.size = n) && (v.isAgg == ag) then Xy0 v id p (V.gvF 64 ob v) else .no
 | none => .no
def X5d (n : Nat) (ag : Bool) (ob : Objs) : V → Rr
 | .ptr id p => X0v n ag ob id p (atO ob id p)
 | _ => .no
def Xxj (id : Nat) (p : List Nat) (n z : Nat) (lo hi : Option V) : Option (List V) → Option V
 | some ks => bif decide (ks.length = n) && ks.all (fun k => decide (k.size = z)) then (Xxc n lo hi).map fun q => .bs id p q.1 (q.2 - q.1) else none
 | none => none
def X5a (ob : Objs) (n z : Nat) (lo hi : Option V) : V → Option V
 | .ptr id p => Xxj id p n z lo hi (Yc (atO ob id p))
 | _ => none
def X45 (ob : Objs) (id E : Nat) (t : V) (p : List Nat) (lo n z : Nat) (ys : List D) (r : V) : Option V → Rr
 | some (.d (.agg xs)) => bif decide (lo + n ≤ xs.length) && xs.all (fun x => decide (x.sz = z)) && Sh.beq (D.agg (Xr7 lo xs ys)).shape (D.agg xs).shape then (match t.set p (.d (.agg (Xr7 lo xs ys))) with | some t' => .ok r (setO ob id (.box E t')) | none => .no) else .no
 | _ => .no
def X1a (ob : Objs) (id : Nat) (p : List Nat) (lo n z : Nat) (ys : List D) (r : V) : Option Ob → Rr
 | some (.box E t) => X45 ob id E t p lo n z ys r (t.at p)
 | _ => .no
def X89 (z : Nat) (ob : Objs) : V → V → Rr
 | .bs id p lo n, .d (.list z' ys) => bif decide (z' = z) then X1a ob id p lo n z (ys.take n) (.d (.int .i64 (min ys.length n : Nat))) (lookO ob id) else .no
 | _, _ => .no
def Xyt : Option Ob → Bool
 | some (.box _ _) => true
 | _ => false
def X8b (z0 : D) (z : Nat) (ob : Objs) : V → Rr
 | .bs id p lo n => bif Nat.beq n 0 then (bif Xyt (lookO ob id) then .ok (.tup []) ob else .no) else bif decide (z0.sz = z) && decide (z = 1) then X1a ob id p lo n z (List.replicate n z0) (.tup []) (lookO ob id) else .no
 | _ => .no
def X8g (n z : Nat) : D → V → Option V
 | .agg xs, .d (.int _ m) => gdR (decide (0 ≤ m) && decide (m < n) && decide (xs.length = n) && xs.all (fun x => decide (x.sz = z))) (.d (.ref (xs.getD m.toNat default)))
 | _, _ => none
def V.isNils : V → Bool
 | .d .nils => true
 | _ => false
def Xxd : Option V → Bool
 | some v => v.isNils
 | none => false
def Xw3 (ob : Objs) (id : Nat) (p : List Nat) (E sz : Nat) (y : V) : Option Ob → Rr
 | some (.box E0 t) => bif Xxd (t.at p) then (match t.set p (.sl (fresh ob) 0) with | some t' => .ok y ((fresh ob, .arr E sz []) :: setO ob id (.box E0 t')) | none => .no) else .no
 | _ => .no
def X1d (ob : Objs) (E sz : Nat) (p : List Nat) (y : V) : V → Rr
 | .ptr id q => Xw3 ob id (q ++ p) E sz y (lookO ob id)
 | _ => .no
def X1b (y x : V) : List (Nat × Nat × List Nat) → Objs → Rr
 | [], ob => .ok y ob
 | e :: l, ob => match X1d ob e.1 e.2.1 e.2.2 y x with
  | .ok _ ob' => X1b y x l ob'
  | _ => .no
def Xyk (id n : Nat) (ob : Objs) : Option Ob → Rr
 | some (.arr _ sz xs) => bif decide (sz ≠ 0) && decide (n = xs.length) && !xs.isEmpty then .ok (.d (.list sz xs)) (setO ob id .gone) else .no
 | _ => .no
def X7c (ob : Objs) : V → Rr
 | .sl id n => Xyk id n ob (lookO ob id)
 | _ => .no
def Xr2 (id n : Nat) (m : Int) (E : Nat) (ob : Objs) : Option Ob → Rr
 | some (.arr E' sz xs) => bif decide (E' = E) && decide (sz = 1) && decide (n = xs.length) && decide (m = n) && decide (n ≤ 9223372036854775807) && !xs.isEmpty then (match Ut xs with | some s => .ok (.d (.str s)) (setO ob id .gone) | none => .no) else .no
 | _ => .no
def Xxk (E : Nat) (ob : Objs) : V → V → Rr
 | .sd id n, .d (.int .i64 m) => Xr2 id n m E ob (lookO ob id)
 | .d .nilp, .d (.int .i64 m) => bif decide (m = 0) then .ok (.d (.str [])) ob else .no
 | _, _ => .no
def Xrz (ob : Objs) : V → Rr
 | .iface t v => .pn (.iface t v) ob
 | .d (.iface t v) => .pn (.d (.iface t v)) ob
 | _ => .no

structure Fns where
 call : Nat → List V → Objs → Option (Out × Objs)
 pc : Nat → List V → Objs → Option V
 ca : Nat → Bool
 gl : Nat → Option D
structure Fns.ok (P : Prg) (R : Fns) : Prop where
 call : ∀ f vs ob o b, R.call f vs ob = some (o, b) → ACall P f vs ob fun o' b' => o' = o ∧ b' = b
 pc : ∀ f vs ob v, R.pc f vs ob = some v → PCall P f vs ob fun v' => v' = v
 ca : ∀ f, R.ca f = true → Xg P.p f = true
 gl : ∀ g x, R.gl g = some x → Uz P g x

def Xxp : Option (Out × Objs) → Rr
 | some (.ret v, ob) => .ok v ob
 | some (.panic v, ob) => .pn v ob
 | none => .no
def Xsi (R : Fns) (args : List V) (ob : Objs) : V → Rr
 | .fn f fi ca => bif R.ca f then Xxp (R.call f (fi ++ args ++ ca) ob) else .no
 | .d (.fn f fi ca) => bif R.ca f then Xxp (R.call f (fi.map .d ++ args ++ ca.map .d) ob) else .no
 | _ => .no
def Xpd (l : Option (List V)) : Option (List D) := match l with
 | some ks => V.allD ks
 | none => none

def Xpf (kd k : D) (es : List (D × V)) : Bool := D.alike kd k && es.all fun e => D.alike k e.1
theorem Xib {kd k : D} {es : List (D × V)} (h : Xpf kd k es = true) : Xar kd k es := by
 simp only [Xpf, Bool.and_eq_true, List.all_eq_true] at h
 exact h
def Xz1 (kd z : D) (ok : Bool) (k : D) : Option Ob → Option V
 | some (.map es) => gdR (Xpf kd k es) (Xpt z ok (Qk k es))
 | _ => none
def X6m (ob : Objs) (kd z : D) (ok : Bool) : V → V → Option V
 | .mp id, .d k => Xz1 kd z ok k (lookO ob id)
 | .d .nilm, .d k => gdR (D.alike kd k) (Xpt z ok none)
 | _, _ => none
def Xrh (ob : Objs) (id : Nat) (kd k : D) (v : V) : Option Ob → Rr
 | some (.map es) => bif Xpf kd k es && v.sto then .ok .undef (setO ob id (.map (Xj1 k v es))) else .no
 | _ => .no
def Xx6 (ob : Objs) (kd : D) (v : V) : V → V → Rr
 | .mp id, .d k => Xrh ob id kd k v (lookO ob id)
 | _, _ => .no
def Xx3 (ob : Objs) (id n z : Nat) : Option V → Rr
 | some (.d (.agg xs)) => bif decide (xs.length = n) && xs.all (fun x => decide (x.sz = z)) then .ok (.d (.list z xs)) (setO ob id .gone) else .no
 | _ => .no
def X4r (ob : Objs) (n z : Nat) : V → Rr
 | .ptr id p => Xx3 ob id n z (atO ob id p)
 | _ => .no
def Xr8 : V → Bool
 | .d (.int _ _) => true
 | _ => false
def X87 (sl : Xb) : Option A → Bool
 | none => true
 | some x => Xr8 (x.ev sl)

def I.run (R : Fns) (sl : Xb) (ob : Objs) : I → Rr
 | .c x => Xqc (x.run sl ob) ob
 | .box E x => bif (x.ev sl).sto then .ok (.ptr (fresh ob) []) ((fresh ob, .box E (x.ev sl)) :: ob) else .no
 | .alloc E z => bif (V.d z).sto then .ok (.ptr (fresh ob) []) ((fresh ob, .box E (.d z)) :: ob) else .no
 | .bls sz z parts => match Xpd (Xsf (z.map .d) (parts.map fun (i, x) => (i, x.ev sl))) with
  | some l => .ok (.d (.list sz l)) ob
  | none => .no
 | .blo E sz z parts => match Xpd (Xsf (z.map .d) (parts.map fun (i, x) => (i, x.ev sl))) with
  | some l => .ok (.sl (fresh ob) l.length) ((fresh ob, .arr E sz l) :: ob)
  | none => .no
 | .st n x v => X8v ob n (v.ev sl) (x.ev sl)
 | .app E sz B x y => match X5m sz (y.ev sl) with
  | some ys => X08 E sz B ob ys (x.ev sl)
  | none => .no
 | .appS E B x y => match Xyi (y.ev sl) with
  | some ys => X08 E 1 B ob ys (x.ev sl)
  | none => .no
 | .call f args => Xxp (R.call f (args.map (A.ev sl)) ob)
 | .pcall f args => Xqc (R.pc f (args.map (A.ev sl)) ob) ob
 | .callv x args => Xsi R (args.map (A.ev sl)) ob (x.ev sl)
 | .panic x => Xrz ob (x.ev sl)
 | .b2s x => Xqc (X5j (x.ev sl)) ob
 | .s2b x => Xqc (X47 (x.ev sl)) ob
 | .nilo E sz x => bif (x.ev sl).isNils then .ok (.sl (fresh ob) 0) ((fresh ob, .arr E sz []) :: ob) else .no
 | .mvf x => Xyz (V.giv ob (x.ev sl))
 | .ldf n ag x => X8m n ag ob (x.ev sl)
 | .mvg E sz y x p => X1d ob E sz p (y.ev sl) (x.ev sl)
 | .mvn y x l => X1b (y.ev sl) (x.ev sl) l ob
 | .cvb x => X7c ob (x.ev sl)
 | .ustr E x y => Xxk E ob (x.ev sl) (y.ev sl)
 | .mkm r => bif X87 sl r then .ok (.mp (fresh ob)) ((fresh ob, .map []) :: ob) else .no
 | .lkp kd z ok m k => Xqc (X6m ob kd z ok (m.ev sl) (k.ev sl)) ob
 | .mset kd m k v => Xx6 ob kd (v.ev sl) (m.ev sl) (k.ev sl)
 | .gld g n ag x => match R.gl g with
  | some y => bif decide (y.sz = n) && ((V.d y).isAgg == ag) && D.eqb x y then .ok (.d x) ob else .no
  | none => .no
 | .slg n z x => X4r ob n z (x.ev sl)
 | .blv E sz z parts => match Xsf (z.map .d) (parts.map fun (i, x) => (i, x.ev sl)) with
  | some ks => .ok (.sl (fresh ob) ks.length) ((fresh ob, .vec E sz ks) :: ob)
  | none => .no
 | .apv E sz B x y => match Xzc sz ob (y.ev sl) with
  | some ys => X88 E sz B ob ys (x.ev sl)
  | none => .no
 | .gv x => Xyz (V.gvF 64 ob (x.ev sl))
 | .ldg n ag x => X5d n ag ob (x.ev sl)
 | .slb n z x lo hi => Xqc (X5a ob n z (lo.map (A.ev sl)) (hi.map (A.ev sl)) (x.ev sl)) ob
 | .cpy z x y => X89 z ob (x.ev sl) (y.ev sl)
 | .clr z0 z x => X8b z0 z ob (x.ev sl)
 | .gix g n z x i => match R.gl g with
  | some y => bif D.eqb x y then Xqc (X8g n z x (i.ev sl)) ob else .no
  | none => .no

def Rr.to (K Pn : V → Objs → Prop) : Rr → Prop
 | .ok v ob => K v ob
 | .pn v ob => Pn v ob
 | .no => False

section
variable {P : Prg} {R : Fns} {sl : Xb} {ob : Objs} {K Pn : V → Objs → Prop}
theorem Vd {o : Option V} (h : (Xqc o ob).to K Pn) : ∃ v, o = some v ∧ K v ob := by
 unfold Xqc at h; split at h
 ·exact ⟨_, rfl, h⟩
 ·exact h.elim
theorem Xdn {v : V} (h : v.isNils = true) : v = .d .nils := by
 unfold V.isNils at h; split at h
 ·rfl
 ·cases h
theorem Xgu (hR : R.ok P) {f : Nat} {vs : List V} (h : (Xxp (R.call f vs ob)).to K Pn) : ACall P f vs ob (Xfu K Pn) := by
 unfold Xxp at h
 split at h
 ·rename_i v b hc
  exact (hR.call f vs ob _ _ hc).mono fun o b ⟨e1, e2⟩ => by subst e1; subst e2; exact h
 ·rename_i v b hc
  exact (hR.call f vs ob _ _ hc).mono fun o b ⟨e1, e2⟩ => by subst e1; subst e2; exact h
 ·exact h.elim
theorem Xgv {o : Option (D × Objs)} (h : (Xyz o).to K Pn) : Xdp K o := by
 unfold Xyz at h; split at h
 ·exact h
 ·exact h.elim
theorem Xm {b : Bool} {x : Rr} (h : (bif b then x else .no).to K Pn) : b = true ∧ x.to K Pn := by
 cases b
 ·exact h.elim
 ·exact ⟨rfl, h⟩
theorem Xl5 {id lo n z : Nat} {p : List Nat} {ys : List D} {r : V} {o : Option Ob} (h : (X1a ob id p lo n z ys r o).to K Pn) : Xn6 ob id p lo n z ys r K o := by
 unfold X1a at h; split at h
 ·unfold X45 at h; split at h
  ·rename_i xs hat
   obtain ⟨h1, h2⟩ := Xm h
   simp only [Bool.and_eq_true, decide_eq_true_eq, List.all_eq_true] at h1
   split at h2
   ·rename_i t' ht
    simp only [Xn6, hat, X1e]
    exact ⟨h1.1.1, h1.1.2, Sh.beq_eq _ _ h1.2, t', ht, h2⟩
   ·exact h2.elim
  ·exact h.elim
 ·exact h.elim
theorem Xm3 {E sz : Nat} {y a : V} {p : List Nat} (h : (X1d ob E sz p y a).to K Pn) : Xe6 ob E sz p y K a := by
 unfold X1d at h; split at h
 ·unfold Xw3 at h; split at h
  ·rename_i E0 t hl
   obtain ⟨h1, h2⟩ := Xm h
   split at h2
   ·rename_i t' ht
    unfold Xxd at h1
    split at h1
    ·rename_i v hv
     simp only [Xe6, hl, Xaf, ht, Xds]
     exact .inl ⟨by rw [hv, Xdn h1], h2⟩
    ·cases h1
   ·exact h2.elim
  ·exact h.elim
 ·exact h.elim
theorem Xnf {y a : V} : ∀ {l : List (Nat × Nat × List Nat)} {ob : Objs}, (X1b y a l ob).to K Pn → Xrw y K a l ob
 | [], _, h => h
 | e :: l, ob, h => by
  unfold X1b at h
  split at h
  ·rename_i v' ob' he
   exact Xm3 (Pn := fun _ _ => False) (by rw [he]; exact Xnf h)
  ·exact h.elim

theorem I.run_sound (hR : R.ok P) {i : I} (h : (i.run R sl ob).to K Pn) : i.wp P sl ob K Pn := by
 cases i <;> simp only [I.run] at h <;> simp only [I.wp]
 case c x =>
  obtain ⟨v, h1, h2⟩ := Vd h
  exact C.run_sound (K := fun v => K v ob) h1 h2
 case box E x => obtain ⟨h1, h2⟩ := Xm h; exact ⟨h1, h2⟩
 case alloc E z => obtain ⟨h1, h2⟩ := Xm h; exact ⟨h1, h2⟩
 case bls sz z parts =>
  split at h
  ·rename_i l hl
   unfold Xpd at hl
   split at hl
   ·rename_i ks hk
    refine Zw _ _ hk ?_
    rw [hl]; exact h
   ·cases hl
  ·exact h.elim
 case blo E sz z parts =>
  split at h
  ·rename_i l hl
   unfold Xpd at hl
   split at hl
   ·rename_i ks hk
    refine Zw _ _ hk ?_
    rw [hl]; exact h
   ·cases hl
  ·exact h.elim
 case st n x v =>
  generalize A.ev sl x = a at h ⊢
  unfold X8v at h; split at h
  ·unfold X0o at h; split at h
   ·rename_i E t hl
    rw [V.atF_eq] at h
    unfold Xxz at h; split at h
    ·rename_i old ho
     obtain ⟨h1, h2⟩ := Xm h
     simp only [Bool.and_eq_true, V.szIs_eq, decide_eq_true_eq] at h1
     rw [V.setF_eq] at h2
     split at h2
     ·rename_i t' ht
      simp only [stK, hl, Xkj, ho, Xlf]
      exact ⟨Xmy h1.1.1, h1.1.2, h1.2, t', ht, h2⟩
     ·exact h2.elim
    ·exact h.elim
   ·exact h.elim
  unfold stR at h; split at h
  ·unfold X55 at h; split at h
   ·rename_i E t hl
    unfold X7h at h; split at h
    ·rename_i old ho
     obtain ⟨h1, h2⟩ := Xm h
     simp only [Bool.and_eq_true, decide_eq_true_eq] at h1
     split at h2
     ·rename_i t' ht
      simp only [stK, hl, Xkj, ho, Xlf]
      exact ⟨Sh.beq_eq _ _ h1.1.1, h1.1.2, h1.2, t', ht, h2⟩
     ·exact h2.elim
    ·exact h.elim
   ·exact h.elim
  ·unfold X0m at h; split at h
   ·rename_i o hl
    unfold Xxo at h; split at h
    ·rename_i v0 he
     obtain ⟨h0, h⟩ := Xm h
     simp only [Bool.and_eq_true, decide_eq_true_eq] at h0
     unfold Xy9 at h; split at h
     ·rename_i old ho
      obtain ⟨h1, h2⟩ := Xm h
      simp only [Bool.and_eq_true, decide_eq_true_eq] at h1
      split at h2
      ·rename_i t' ht
       simp only [stK, hl, Xwz, he, X1f, ho, Xy3]
       exact ⟨h0, Sh.beq_eq _ _ h1.1.1, h1.1.2, h1.2, t', ht, h2⟩
      ·exact h2.elim
     ·exact h.elim
    ·exact h.elim
   ·exact h.elim
  ·exact h.elim
 case blv E sz z parts =>
  split at h
  ·rename_i ks hk
   exact Zw _ _ hk h
  ·exact h.elim
 case gv x => exact Xgv h
 case slb n z x lo hi =>
  obtain ⟨v, h1, h2⟩ := Vd h
  generalize A.ev sl x = a at h1 ⊢
  unfold X5a at h1; split at h1
  ·rename_i id p
   unfold Xxj at h1; split at h1
   ·rename_i ks hk
    rw [Bool.cond_eq_ite] at h1; split at h1
    ·rename_i hc
     simp only [Bool.and_eq_true, decide_eq_true_eq, List.all_eq_true] at hc
     rw [Option.map_eq_some_iff] at h1
     obtain ⟨q, hq, rfl⟩ := h1
     simp only [Xwr, hk, Xi9]
     exact ⟨hc.1, hc.2, Ub (K := fun l h => K (.bs id p l (h - l)) ob) hq h2⟩
    ·cases h1
   ·cases h1
  ·cases h1
 case cpy z x y =>
  generalize A.ev sl x = a at h ⊢; generalize A.ev sl y = b at h ⊢
  unfold X89 at h; split at h
  ·obtain ⟨h1, h2⟩ := Xm h
   exact ⟨of_decide_eq_true h1, Xl5 h2⟩
  ·exact h.elim
 case clr z0 z x =>
  generalize A.ev sl x = a at h ⊢
  unfold X8b at h; split at h
  ·rename_i id p lo n
   rw [Bool.cond_eq_ite] at h
   split at h
   ·rename_i hn
    have hn : n = 0 := Nat.eq_of_beq_eq_true hn
    obtain ⟨h1, h2⟩ := Xm h
    refine ⟨fun _ => ⟨?_, h2⟩, fun e => (e hn).elim⟩
    generalize lookO ob id = o at h1 ⊢
    unfold Xyt at h1; split at h1
    ·exact ⟨_, _, rfl⟩
    ·cases h1
   ·rename_i hn
    have hn : n ≠ 0 := fun e => hn (by rw [e]; rfl)
    obtain ⟨h1, h2⟩ := Xm h
    simp only [Bool.and_eq_true, decide_eq_true_eq] at h1
    exact ⟨fun e => (hn e).elim, fun _ => ⟨h1, Xl5 h2⟩⟩
  ·exact h.elim
 case gix g n z x i =>
  split at h
  ·rename_i y hy
   obtain ⟨h1, h9⟩ := Xm h
   clear h
   have e := D.eqb_eq _ _ h1
   subst e
   refine ⟨hR.gl g _ hy, ?_⟩
   obtain ⟨v, h2, h3⟩ := Vd h9
   generalize A.ev sl i = b at h2 ⊢
   unfold X8g at h2; split at h2
   ·obtain ⟨h4, rfl⟩ := Xp h2
    simp only [Bool.and_eq_true, decide_eq_true_eq, List.all_eq_true] at h4
    exact ⟨h4.1.1, h4.1.2, h4.2, h3⟩
   ·cases h2
  ·exact h.elim
 case ldg n ag x =>
  generalize A.ev sl x = a at h ⊢
  unfold X5d at h; split at h
  ·unfold X0v at h; split at h
   ·rename_i v hv
    obtain ⟨h1, h⟩ := Xm h
    simp only [Bool.and_eq_true, decide_eq_true_eq, beq_iff_eq] at h1
    unfold Xy0 at h; split at h
    ·rename_i x1 ob1 hg
     obtain ⟨h2, h⟩ := Xm h
     unfold Xxl at h; split at h
     ·rename_i E t hl
      split at h
      ·rename_i t' ht
       simp only [Xwh, hv, Xmu, hg, Xno, hl, Xqv]
       exact ⟨h1.1, h1.2, Sh.beq_eq _ _ h2, t', ht, h⟩
      ·exact h.elim
     ·exact h.elim
    ·exact h.elim
   ·exact h.elim
  ·exact h.elim
 case apv E sz B x y =>
  split at h
  ·rename_i ys hy
   have hx : Xnh E sz B ob ys K (A.ev sl x) := by
    generalize A.ev sl x = a at h ⊢
    unfold X88 at h; split at h
    ·unfold Xzb at h; split at h
     ·rename_i E' sz' xs hl
      obtain ⟨h1, h2⟩ := Xm h
      simp only [Bool.and_eq_true, decide_eq_true_eq] at h1
      simp only [Xnh, hl, Xns]
      exact ⟨h1.1.1.1, h1.1.1.2, h1.1.2, h1.2, h2⟩
     ·rename_i E' sz' xs hl
      obtain ⟨h1, h2⟩ := Xm h
      simp only [Bool.and_eq_true, decide_eq_true_eq] at h1
      simp only [Xnh, hl, Xns]
      exact ⟨h1.1.1.1, h1.1.1.2, h1.1.2, h1.2, h2⟩
     ·exact h.elim
    ·obtain ⟨h1, h2⟩ := Xm h
     exact ⟨of_decide_eq_true h1, h2⟩
    ·exact h.elim
   generalize A.ev sl y = b at hy ⊢
   unfold Xzc at hy; split at hy
   ·rw [Bool.cond_eq_ite] at hy; split at hy
    ·rename_i hc; cases hy; exact ⟨of_decide_eq_true hc, hx⟩
    ·cases hy
   ·cases hy; exact hx
   ·rename_i id n
    unfold Xrq at hy; split at hy
    ·rename_i E1 z ys1 hl
     rw [Bool.cond_eq_ite] at hy; split at hy
     ·rename_i hc; cases hy
      simp only [Bool.and_eq_true, decide_eq_true_eq] at hc
      obtain ⟨⟨rfl, h2⟩, h3⟩ := hc
      exact .inl ⟨E1, _, hl, h2, h3, hx⟩
     ·cases hy
    ·rename_i E1 z ys1 hl
     rw [Bool.cond_eq_ite] at hy; split at hy
     ·rename_i hc; cases hy
      simp only [Bool.and_eq_true, decide_eq_true_eq] at hc
      obtain ⟨rfl, h2⟩ := hc
      exact .inr ⟨E1, ys1, hl, h2, hx⟩
     ·cases hy
    ·cases hy
   ·cases hy
  ·exact h.elim
 case app E sz B x y =>
  split at h
  ·rename_i ys hy
   have hx : J8 E sz B ob ys K (A.ev sl x) := by
    generalize A.ev sl x = a at h ⊢
    unfold X08 at h; split at h
    ·unfold Xt0 at h; split at h
     ·rename_i E' sz' xs hl
      obtain ⟨h1, h2⟩ := Xm h
      simp only [Bool.and_eq_true, decide_eq_true_eq] at h1
      simp only [J8, hl, Xaa]
      exact ⟨h1.1.1.1, h1.1.1.2, h1.1.2, h1.2, h2⟩
     ·exact h.elim
    ·obtain ⟨h1, h2⟩ := Xm h
     exact ⟨of_decide_eq_true h1, h2⟩
    ·exact h.elim
   generalize A.ev sl y = b at hy ⊢
   unfold X5m at hy; split at hy
   ·rw [Bool.cond_eq_ite] at hy; split at hy
    ·rename_i hc; cases hy; exact ⟨of_decide_eq_true hc, hx⟩
    ·cases hy
   ·cases hy; exact hx
   ·cases hy
  ·exact h.elim
 case appS E B x y =>
  split at h
  ·rename_i ys hy
   have hx : J8 E 1 B ob ys K (A.ev sl x) := by
    generalize A.ev sl x = a at h ⊢
    unfold X08 at h; split at h
    ·unfold Xt0 at h; split at h
     ·rename_i E' sz' xs hl
      obtain ⟨h1, h2⟩ := Xm h
      simp only [Bool.and_eq_true, decide_eq_true_eq] at h1
      simp only [J8, hl, Xaa]
      exact ⟨h1.1.1.1, h1.1.1.2, h1.1.2, h1.2, h2⟩
     ·exact h.elim
    ·obtain ⟨h1, h2⟩ := Xm h
     exact ⟨of_decide_eq_true h1, h2⟩
    ·exact h.elim
   generalize A.ev sl y = b at hy ⊢
   unfold Xyi at hy; split at hy
   ·cases hy; exact hx
   ·cases hy
  ·exact h.elim
 case call f args => exact Xgu hR h
 case pcall f args =>
  obtain ⟨v, h1, h2⟩ := Vd h
  exact (hR.pc _ _ _ _ h1).mono fun v' e => by subst e; exact h2
 case callv x args =>
  generalize A.ev sl x = a at h ⊢
  unfold Xsi at h; split at h
  ·obtain ⟨h1, h2⟩ := Xm h
   exact ⟨hR.ca _ h1, Xgu hR h2⟩
  ·obtain ⟨h1, h2⟩ := Xm h
   exact ⟨hR.ca _ h1, Xgu hR h2⟩
  ·exact h.elim
 case panic x =>
  generalize A.ev sl x = a at h ⊢
  unfold Xrz at h; split at h
  ·exact h
  ·exact h
  ·exact h.elim
 case b2s x =>
  obtain ⟨v, h1, h2⟩ := Vd h
  generalize A.ev sl x = a at h1 ⊢
  unfold X5j at h1; split at h1
  ·rw [Bool.cond_eq_ite] at h1; split at h1
   ·rename_i hc
    rw [Option.map_eq_some_iff] at h1
    obtain ⟨s, h3, rfl⟩ := h1
    exact ⟨of_decide_eq_true hc, s, Ug h3, h2⟩
   ·cases h1
  ·cases h1; exact h2
  ·cases h1
 case s2b x =>
  obtain ⟨v, h1, h2⟩ := Vd h
  generalize A.ev sl x = a at h1 ⊢
  unfold X47 at h1; split at h1
  ·cases h1; exact h2
  ·cases h1
 case nilo E sz x => obtain ⟨h1, h2⟩ := Xm h; rw [Xdn h1]; exact h2
 case mvf x => exact Xgv h
 case ldf n ag x =>
  generalize A.ev sl x = a at h ⊢
  unfold X8m at h; split at h
  ·unfold Xxi at h; split at h
   ·rename_i v hv
    obtain ⟨h1, h2⟩ := Xm h
    simp only [Bool.and_eq_true, decide_eq_true_eq, beq_iff_eq] at h1
    simp only [Xp2, hv, Xfc]
    exact ⟨h1.1, h1.2, Xgv h2⟩
   ·exact h.elim
  ·exact h.elim
 case mvg => exact Xm3 h
 case mvn => exact Xnf h
 case cvb x =>
  generalize A.ev sl x = a at h ⊢
  unfold X7c at h; split at h
  ·unfold Xyk at h; split at h
   ·rename_i E' sz xs hl
    obtain ⟨h1, h2⟩ := Xm h
    simp at h1
    simp only [Xnz, hl, Xcw]
    exact ⟨h1.1.1, h1.1.2, h1.2, h2⟩
   ·exact h.elim
  ·exact h.elim
 case ustr E x y =>
  generalize A.ev sl x = a at h ⊢; generalize A.ev sl y = b at h ⊢
  unfold Xxk at h; split at h
  ·unfold Xr2 at h; split at h
   ·rename_i E' sz xs hl
    obtain ⟨h1, h2⟩ := Xm h
    split at h2
    ·rename_i s hs
     simp at h1
     simp only [Uk, hl, V8]
     exact ⟨h1.1.1.1.1.1, h1.1.1.1.1.2, h1.1.1.1.2, h1.1.1.2, h1.1.2, h1.2, s, Ug hs, h2⟩
    ·exact h2.elim
   ·exact h.elim
  ·obtain ⟨h1, h2⟩ := Xm h
   exact ⟨of_decide_eq_true h1, h2⟩
  ·exact h.elim
 case mkm r =>
  obtain ⟨h1, h2⟩ := Xm h
  refine ⟨?_, h2⟩
  cases r with
  | none => trivial
  | some x =>
   simp only [X87] at h1
   simp only [Xrp]
   generalize A.ev sl x = a at h1 ⊢
   unfold Xr8 at h1; split at h1
   ·trivial
   ·cases h1
 case lkp kd z ok m k =>
  obtain ⟨v, h1, h2⟩ := Vd h
  generalize A.ev sl m = a at h1 ⊢; generalize A.ev sl k = b at h1 ⊢
  unfold X6m at h1; split at h1
  ·unfold Xz1 at h1; split at h1
   ·rename_i es hl
    obtain ⟨h3, rfl⟩ := Xp h1
    simp only [Xn1, hl, Xcc]
    exact ⟨Xib h3, h2⟩
   ·cases h1
  ·obtain ⟨h3, rfl⟩ := Xp h1
   exact ⟨h3, h2⟩
  ·cases h1
 case mset kd m k v =>
  generalize A.ev sl m = a at h ⊢; generalize A.ev sl k = b at h ⊢
  unfold Xx6 at h; split at h
  ·unfold Xrh at h; split at h
   ·rename_i es hl
    obtain ⟨h1, h2⟩ := Xm h
    simp only [Bool.and_eq_true] at h1
    simp only [Qy, hl, V7]
    exact ⟨Xib h1.1, h1.2, h2⟩
   ·exact h.elim
  ·exact h.elim
 case slg n z x =>
  generalize A.ev sl x = a at h ⊢
  unfold X4r at h; split at h
  ·rename_i id p
   unfold Xx3 at h; split at h
   ·rename_i xs hat
    obtain ⟨h1, h2⟩ := Xm h
    simp only [Bool.and_eq_true, decide_eq_true_eq, List.all_eq_true] at h1
    simp only [Xrs, hat, Xi8]
    exact ⟨h1.1, h1.2, h2⟩
   ·exact h.elim
  ·exact h.elim
 case gld g n ag x =>
  split at h
  ·rename_i y hy
   obtain ⟨h1, h2⟩ := Xm h
   simp only [Bool.and_eq_true, decide_eq_true_eq, beq_iff_eq] at h1
   have e := D.eqb_eq _ _ h1.2
   subst e
   exact ⟨hR.gl g _ hy, h1.1.1, h1.1.2, h2⟩
  ·exact h.elim
end

inductive Rq where
 | ok (sl : Xb) (ob : Objs)
 | pn (v : V) (sl : Xb) (ob : Objs)
 | no
def Rq.to (K : Xb → Objs → Prop) (Pn : V → Xb → Objs → Prop) : Rq → Prop
 | .ok sl ob => K sl ob
 | .pn v sl ob => Pn v sl ob
 | .no => False

mutual
def V.ids : V → List Nat
 | .ptr id _ => [id]
 | .sl id _ => [id]
 | .sd id _ => [id]
 | .mp id => [id]
 | .ep id _ _ _ _ _ => [id]
 | .bs id _ _ _ => [id]
 | .fn _ a b => V.idss a ++ V.idss b
 | .agg xs => V.idss xs
 | .iface _ v => V.ids v
 | .tup xs => V.idss xs
 | _ => []
def V.idss : List V → List Nat
 | [] => []
 | x :: r => V.ids x ++ V.idss r
end
def X6f : Xb → List Nat
 | [] => []
 | (_, v) :: r => V.ids v ++ X6f r
def Xwj : Objs → List Nat
 | [] => []
 | (_, .box _ t) :: r => V.ids t ++ Xwj r
 | (_, .vec _ _ xs) :: r => V.idss xs ++ Xwj r
 | (_, .map es) :: r => V.idss (es.map (·.2)) ++ Xwj r
 | _ :: r => Xwj r

def Xiy (R : Fns) (sl : Xb) (ob : Objs) (d : Option Nat) (i : I) (k : Xb → Objs → Rq) : Rq := match i.run R sl ob with
 | .ok v ob' => k (put sl d v) ob'
 | .pn v ob' => .pn v sl ob'
 | .no => .no
def Xon (R : Fns) : List It → Xb → Objs → Rq
 | [], sl, ob => .ok sl ob
 | .op d i :: r, sl, ob => Xiy R sl ob d i (Xon R r)
 | .gop s want d i :: r, sl, ob => match look sl s with
  | .d (.bool b) => bif b == want then Xiy R ((s, .d (.bool want)) :: sl) ob d i (Xon R r) else Xon R r (put ((s, .d (.bool (!want))) :: sl) d .undef) ob
  | .undef => Xon R r (put sl d .undef) ob
  | _ => .no

theorem Z8 {P : Prg} {R : Fns} (hR : R.ok P) {sl : Xb} {ob : Objs} {d : Option Nat} {i : I} {k : Xb → Objs → Rq} {k' K : Xb → Objs → Prop} {Pn : V → Xb → Objs → Prop} (hk : ∀ sl ob, (k sl ob).to K Pn → k' sl ob) (h : (Xiy R sl ob d i k).to K Pn) :
  i.wp P sl ob (fun v ob' => k' (put sl d v) ob') (fun v ob' => Pn v sl ob') := by
 refine I.run_sound hR ?_
 unfold Xiy at h
 split at h
 ·rename_i e; rw [e]; exact hk _ _ h
 ·rename_i e; rw [e]; exact h
 ·exact h.elim
theorem Yu {P : Prg} {R : Fns} (hR : R.ok P) {K : Xb → Objs → Prop} {Pn : V → Xb → Objs → Prop} : ∀ (l : List It) (sl : Xb) (ob : Objs), (Xon R l sl ob).to K Pn → rwp P K Pn l sl ob
 | [], sl, ob, h => h
 | .op d i :: r, sl, ob, h => Z8 hR (fun sl ob h => Yu hR r sl ob h) h
 | .gop s want d i :: r, sl, ob, h => by
  simp only [Xon] at h
  simp only [rwp]
  split at h
  ·rename_i b hb
   rw [hb]
   simp only [gdK]
   rw [Bool.cond_eq_ite] at h
   split at h
   ·rename_i e
    have e : b = want := by simpa using e
    refine ⟨fun _ => Z8 hR (fun sl ob h => Yu hR r sl ob h) h, fun e2 => ?_⟩
    rw [e] at e2; cases want <;> cases e2
   ·rename_i e
    have e : ¬ b = want := by simpa using e
    exact ⟨fun e2 => (e e2).elim, fun _ => Yu hR r _ ob h⟩
  ·rename_i hb
   rw [hb]
   exact Yu hR r _ ob h
  ·exact h.elim

mutual
def V.eqb : V → V → Bool
 | .d x, .d y => D.eqb x y
 | .ptr i p, .ptr j q => Nat.beq i j && decide (p = q)
 | .sl i n, .sl j m => Nat.beq i j && Nat.beq n m
 | .sd i n, .sd j m => Nat.beq i j && Nat.beq n m
 | .mp i, .mp j => Nat.beq i j
 | .ep i n s k f p, .ep j m t l g q => Nat.beq i j && Nat.beq n m && Nat.beq s t && Nat.beq k l && Nat.beq f g && decide (p = q)
 | .bs i p k n, .bs j q l m => Nat.beq i j && Nat.beq k l && Nat.beq n m && decide (p = q)
 | .fn f a b, .fn g a2 b2 => Nat.beq f g && V.eqbs a a2 && V.eqbs b b2
 | .agg a, .agg b => V.eqbs a b
 | .iface t a, .iface u b => Nat.beq t u && V.eqb a b
 | .tup a, .tup b => V.eqbs a b
 | .undef, .undef => true
 | .any, .any => true
 | _, _ => false
def V.eqbs : List V → List V → Bool
 | [], [] => true
 | x :: r, y :: s => V.eqb x y && V.eqbs r s
 | _, _ => false
end
mutual
theorem V.eqb_eq : ∀ (x y : V), V.eqb x y = true → x = y
 | .d a, y, h => by cases y <;> simp only [V.eqb, Bool.false_eq_true] at h; rw [D.eqb_eq _ _ h]
 | .ptr i p, y, h => by cases y <;> simp only [V.eqb, Bool.false_eq_true, Bool.and_eq_true, decide_eq_true_eq] at h; rw [Nat.eq_of_beq_eq_true h.1, h.2]
 | .sl i n, y, h => by cases y <;> simp only [V.eqb, Bool.false_eq_true, Bool.and_eq_true] at h; rw [Nat.eq_of_beq_eq_true h.1, Nat.eq_of_beq_eq_true h.2]
 | .sd i n, y, h => by cases y <;> simp only [V.eqb, Bool.false_eq_true, Bool.and_eq_true] at h; rw [Nat.eq_of_beq_eq_true h.1, Nat.eq_of_beq_eq_true h.2]
 | .mp i, y, h => by cases y <;> simp only [V.eqb, Bool.false_eq_true] at h; rw [Nat.eq_of_beq_eq_true h]
 | .ep i n s k f p, y, h => by
  cases y <;> simp only [V.eqb, Bool.false_eq_true, Bool.and_eq_true, decide_eq_true_eq] at h
  rw [Nat.eq_of_beq_eq_true h.1.1.1.1.1, Nat.eq_of_beq_eq_true h.1.1.1.1.2, Nat.eq_of_beq_eq_true h.1.1.1.2, Nat.eq_of_beq_eq_true h.1.1.2, Nat.eq_of_beq_eq_true h.1.2, h.2]
 | .bs i p k n, y, h => by
  cases y <;> simp only [V.eqb, Bool.false_eq_true, Bool.and_eq_true, decide_eq_true_eq] at h
  rw [Nat.eq_of_beq_eq_true h.1.1.1, Nat.eq_of_beq_eq_true h.1.1.2, Nat.eq_of_beq_eq_true h.1.2, h.2]
 | .fn f a b, y, h => by
  cases y <;> simp only [V.eqb, Bool.false_eq_true, Bool.and_eq_true] at h
  rw [Nat.eq_of_beq_eq_true h.1.1, V.eqbs_eq _ _ h.1.2, V.eqbs_eq _ _ h.2]
 | .agg a, y, h => by cases y <;> simp only [V.eqb, Bool.false_eq_true] at h; rw [V.eqbs_eq _ _ h]
 | .iface t a, y, h => by cases y <;> simp only [V.eqb, Bool.false_eq_true, Bool.and_eq_true] at h; rw [Nat.eq_of_beq_eq_true h.1, V.eqb_eq _ _ h.2]
 | .tup a, y, h => by cases y <;> simp only [V.eqb, Bool.false_eq_true] at h; rw [V.eqbs_eq _ _ h]
 | .undef, y, h => by cases y <;> simp [V.eqb] at h; rfl
 | .any, y, h => by cases y <;> simp [V.eqb] at h; rfl
theorem V.eqbs_eq : ∀ (x y : List V), V.eqbs x y = true → x = y
 | [], y, h => by cases y <;> simp [V.eqbs] at h; rfl
 | x :: r, y, h => by
  cases y <;> simp only [V.eqbs, Bool.false_eq_true, Bool.and_eq_true] at h
  rw [V.eqb_eq _ _ h.1, V.eqbs_eq _ _ h.2]
end
def Xw1 : List (D × V) → List (D × V) → Bool
 | [], [] => true
 | (k, x) :: r, (j, y) :: s => D.eqb k j && V.eqb x y && Xw1 r s
 | _, _ => false
theorem Xmo : ∀ (x y : List (D × V)), Xw1 x y = true → x = y
 | [], y, h => by cases y <;> simp [Xw1] at h; rfl
 | (k, x) :: r, y, h => by
  cases y <;> simp only [Xw1, Bool.false_eq_true, Bool.and_eq_true] at h
  rw [D.eqb_eq _ _ h.1.1, V.eqb_eq _ _ h.1.2, Xmo _ _ h.2]
def Ob.eqb : Ob → Ob → Bool
 | .box E t, .box F u => Nat.beq E F && V.eqb t u
 | .arr E z a, .arr F y b => Nat.beq E F && Nat.beq z y && D.eqbs a b
 | .vec E z a, .vec F y b => Nat.beq E F && Nat.beq z y && V.eqbs a b
 | .map a, .map b => Xw1 a b
 | .gone, .gone => true
 | _, _ => false
theorem Ob.eqb_eq (x y : Ob) (h : Ob.eqb x y = true) : x = y := by
 cases x <;> cases y <;> simp only [Ob.eqb, Bool.false_eq_true, Bool.and_eq_true] at h
 ·rw [Nat.eq_of_beq_eq_true h.1, V.eqb_eq _ _ h.2]
 ·rw [Nat.eq_of_beq_eq_true h.1.1, Nat.eq_of_beq_eq_true h.1.2, D.eqbs_eq _ _ h.2]
 ·rw [Nat.eq_of_beq_eq_true h.1.1, Nat.eq_of_beq_eq_true h.1.2, V.eqbs_eq _ _ h.2]
 ·rw [Xmo _ _ h]
 ·rfl
def Xwo : Xb → Xb → Bool
 | [], [] => true
 | (k, x) :: r, (j, y) :: s => Nat.beq k j && V.eqb x y && Xwo r s
 | _, _ => false
theorem Xf8 : ∀ (x y : Xb), Xwo x y = true → x = y
 | [], y, h => by cases y <;> simp [Xwo] at h; rfl
 | (k, x) :: r, y, h => by
  cases y <;> simp only [Xwo, Bool.false_eq_true, Bool.and_eq_true] at h
  rw [Nat.eq_of_beq_eq_true h.1.1, V.eqb_eq _ _ h.1.2, Xf8 _ _ h.2]
def Xou : Objs → Objs → Bool
 | [], [] => true
 | (k, x) :: r, (j, y) :: s => Nat.beq k j && Ob.eqb x y && Xou r s
 | _, _ => false
theorem Uf : ∀ (x y : Objs), Xou x y = true → x = y
 | [], y, h => by cases y <;> simp [Xou] at h; rfl
 | (k, x) :: r, y, h => by
  cases y <;> simp only [Xou, Bool.false_eq_true, Bool.and_eq_true] at h
  rw [Nat.eq_of_beq_eq_true h.1.1, Ob.eqb_eq _ _ h.1.2, Uf _ _ h.2]
def Rq.eqb : Rq → Rq → Bool
 | .ok a b, .ok c d => Xwo a c && Xou b d
 | .pn v a b, .pn u c d => V.eqb v u && Xwo a c && Xou b d
 | _, _ => false
theorem Rq.eqb_eq (x y : Rq) (h : Rq.eqb x y = true) : x = y := by
 cases x <;> cases y <;> simp only [Rq.eqb, Bool.false_eq_true, Bool.and_eq_true] at h
 ·rw [Xf8 _ _ h.1, Uf _ _ h.2]
 ·rw [V.eqb_eq _ _ h.1.1, Xf8 _ _ h.1.2, Uf _ _ h.2]
def Xux (x y : Rq) : Rq := bif Rq.eqb x y then x else .no
theorem Xo9 {K : Xb → Objs → Prop} {Pn : V → Xb → Objs → Prop} {x y : Rq} (h : (Xux x y).to K Pn) : x.to K Pn ∧ y.to K Pn := by
 unfold Xux at h
 cases hb : Rq.eqb x y with
 | false => rw [hb] at h; exact h.elim
 | true =>
  rw [hb] at h
  have := Rq.eqb_eq x y hb
  subst this
  exact ⟨h, h⟩
def itR (R : Fns) (k : Xb → Objs → Rq) : It → Xb → Objs → Rq
 | .op d i, sl, ob => Xiy R sl ob d i k
 | .gop s want d i, sl, ob => match look sl s with
  | .d (.bool b) => bif b == want then Xiy R ((s, .d (.bool want)) :: sl) ob d i k else k (put ((s, .d (.bool (!want))) :: sl) d .undef) ob
  | .undef => k (put sl d .undef) ob
  | _ => .no
def Xl4 (keep pk : List Nat) : Rq → Rq
 | .ok sl ob => .ok (Xc sl keep) ob
 | .pn v sl ob => .pn v (Xc sl pk) ob
 | .no => .no
mutual
def Xrr (R : Fns) (keep pk : List Nat) : Ot → Xb → Objs → Rq
 | .done, sl, ob => .ok sl ob
 | .one _ x r, sl, ob => itR R (Xrr R keep pk r) x sl ob
 | .br l, sl, ob => Xm5 R keep pk l sl ob
def Xm5 (R : Fns) (keep pk : List Nat) : Ots → Xb → Objs → Rq
 | .nil, _, _ => .no
 | .cons _ x r .nil, sl, ob => Xl4 keep pk (itR R (Xrr R keep pk r) x sl ob)
 | .cons _ x r l, sl, ob => Xux (Xl4 keep pk (itR R (Xrr R keep pk r) x sl ob)) (Xm5 R keep pk l sl ob)
end

abbrev Rs := Option (AExit × Xb × Objs)
def Rs.to (Q : Zt) : Rs → Prop
 | some (e, sl, ob) => Q e sl ob
 | none => False
def X56 (keep : List Nat) (n : Nat) (sl : Xb) (ob : Objs) : Option (Xb × Objs) :=
 let kp := X6f (Xc sl keep) ++ Xwj ob
 bif V1 (young n kp) (Xc sl keep) && noMenO (young n kp) (Ys (young n kp) ob) then some (Xc sl keep, Ys (young n kp) ob) else none
def Xod (keep : List Nat) (body : Xb → Objs → Rs) : Nat → Xb → Objs → Rs
 | 0, _, _ => none
 | n + 1, sl, ob => match body sl ob with
  | some (.normal, sl', ob') => match X56 keep (fresh ob) sl' ob' with
   | some (sl2, ob2) => Xod keep body n sl2 ob2
   | none => none
  | r => r
theorem Xa9 {sl : Xb} : ∀ (l : List Nat) (k : Nat), k ∈ l → look (Xc sl l) k = look sl k
 | j :: r, k, h => by
  simp only [Xc, look]
  split
  ·rename_i e; rw [e]
  ·rename_i e
   exact Xa9 r k ((List.mem_cons.1 h).resolve_left (fun e2 => e e2.symm))
theorem Xe5 {sl : Xb} {l : List Nat} : ∀ (m : List Nat), (∀ k ∈ m, k ∈ l) → Xc (Xc sl l) m = Xc sl m
 | [], _ => rfl
 | k :: r, h => by
  simp only [Xc, Xa9 l k (h k (by simp)), Xe5 r (fun j hj => h j (by simp [hj]))]
theorem Xap (sl : Xb) (l : List Nat) : Xc (Xc sl l) l = Xc sl l := Xe5 l fun _ h => h
theorem Xho {Q : Zt} {keep pk : List Nat} {r : Rq} (h : (Xl4 keep pk r).to (fun sl ob => Q .normal (Xc sl keep) ob) (fun v sl ob => Q (.panic v) (Xc sl pk) ob)) : r.to (fun sl ob => Q .normal (Xc sl keep) ob) (fun v sl ob => Q (.panic v) (Xc sl pk) ob) := by
 cases r with
 | ok sl ob => simp only [Xl4, Rq.to, Xap] at h ⊢; exact h
 | pn v sl ob => simp only [Xl4, Rq.to, Xap] at h ⊢; exact h
 | no => exact h.elim
theorem Ja {P : Prg} {R : Fns} (hR : R.ok P) {k : Xb → Objs → Rq} {k' K : Xb → Objs → Prop} {Pn : V → Xb → Objs → Prop} (hk : ∀ sl ob, (k sl ob).to K Pn → k' sl ob) : ∀ (x : It) (sl : Xb) (ob : Objs), (itR R k x sl ob).to K Pn → itK P k' Pn x sl ob
 | .op d i, sl, ob, h => Z8 hR hk h
 | .gop s want d i, sl, ob, h => by
  simp only [itR] at h
  simp only [itK]
  split at h
  ·rename_i b hb
   rw [hb]
   simp only [gdK]
   rw [Bool.cond_eq_ite] at h
   split at h
   ·rename_i e
    have e : b = want := by simpa using e
    refine ⟨fun _ => Z8 hR hk h, fun e2 => ?_⟩
    rw [e] at e2; cases want <;> cases e2
   ·rename_i e
    have e : ¬ b = want := by simpa using e
    exact ⟨fun e2 => (e e2).elim, fun _ => hk _ _ h⟩
  ·rename_i hb
   rw [hb]
   exact hk _ _ h
  ·exact h.elim
mutual
theorem Wz {P : Prg} {R : Fns} (hR : R.ok P) {Q : Zt} {keep pk : List Nat} : ∀ (t : Ot) (sl : Xb) (ob : Objs), (Xrr R keep pk t sl ob).to (fun sl ob => Q .normal (Xc sl keep) ob) (fun v sl ob => Q (.panic v) (Xc sl pk) ob) → owp P (fun sl ob => Q .normal (Xc sl keep) ob) (fun v sl ob => Q (.panic v) (Xc sl pk) ob) t sl ob
 | .done, sl, ob, h => by simp only [Xrr] at h; simp only [owp]; exact h
 | .one _ x r, sl, ob, h => by
  simp only [Xrr] at h
  simp only [owp]
  exact Ja hR (fun sl ob h => Wz hR r sl ob h) x sl ob h
 | .br l, sl, ob, h => by simp only [Xrr] at h; simp only [owp]; exact Q8 hR l sl ob h
theorem Q8 {P : Prg} {R : Fns} (hR : R.ok P) {Q : Zt} {keep pk : List Nat} : ∀ (l : Ots) (sl : Xb) (ob : Objs), (Xm5 R keep pk l sl ob).to (fun sl ob => Q .normal (Xc sl keep) ob) (fun v sl ob => Q (.panic v) (Xc sl pk) ob) → Xc5 P (fun sl ob => Q .normal (Xc sl keep) ob) (fun v sl ob => Q (.panic v) (Xc sl pk) ob) l sl ob
 | .nil, sl, ob, h => by simp only [Xc5]
 | .cons _ x r .nil, sl, ob, h => by
  simp only [Xm5] at h
  simp only [Xc5, and_true]
  exact Ja hR (fun sl ob h => Wz hR r sl ob h) x sl ob (Xho h)
 | .cons _ x r (.cons i y s l), sl, ob, h => by
  simp only [Xm5] at h
  rw [Xc5]
  obtain ⟨h1, h2⟩ := Xo9 h
  exact ⟨Ja hR (fun sl ob h => Wz hR r sl ob h) x sl ob (Xho h1), Q8 hR (.cons i y s l) sl ob h2⟩
end
def S.run (R : Fns) (L : Nat) : S → Xb → Objs → Rs
 | .rg _ l keep pk, sl, ob => match Xon R l sl ob with
  | .ok sl' ob' => some (.normal, Xc sl' keep, ob')
  | .pn v sl' ob' => some (.panic v, Xc sl' pk, ob')
  | .no => none
 | .rgT _ t keep pk, sl, ob => match Xrr R keep pk t sl ob with
  | .ok sl' ob' => some (.normal, Xc sl' keep, ob')
  | .pn v sl' ob' => some (.panic v, Xc sl' pk, ob')
  | .no => none
 | .seq a b, sl, ob => match S.run R L a sl ob with
  | some (.normal, sl', ob') => S.run R L b sl' ob'
  | r => r
 | .skip, sl, ob => some (.normal, sl, ob)
 | .cond c a b, sl, ob => match c.ev sl with
  | .d (.bool t) => bif t then S.run R L a sl ob else S.run R L b sl ob
  | _ => none
 | .block n a, sl, ob => match S.run R L a sl ob with
  | some (.exit m, sl', ob') => bif decide (m = n) then some (.normal, sl', ob') else some (.exit m, sl', ob')
  | r => r
 | .loop keep a, sl, ob => Xod keep (S.run R L a) L (Xc sl keep) ob
 | .exit n, sl, ob => some (.exit n, sl, ob)
 | .ret, sl, ob => some (.ret, sl, ob)

theorem S.run_sound {P : Prg} {R : Fns} (hR : R.ok P) {L : Nat} : ∀ (s : S) (Q : Zt) (sl : Xb) (ob : Objs), (s.run R L sl ob).to Q → cwp P s Q sl ob
 | .rg _ l keep pk, Q, sl, ob, h => by
  simp only [S.run] at h
  simp only [cwp]
  refine Yu hR _ _ _ ?_
  split at h
  ·rename_i e; rw [e]; exact h
  ·rename_i e; rw [e]; exact h
  ·exact h.elim
 | .rgT _ t keep pk, Q, sl, ob, h => by
  simp only [S.run] at h
  simp only [cwp]
  refine Wz hR _ _ _ ?_
  split at h
  ·rename_i e; rw [e]; exact h
  ·rename_i e; rw [e]; exact h
  ·exact h.elim
 | .seq a b, Q, sl, ob, h => by
  simp only [S.run] at h
  simp only [cwp]
  refine S.run_sound (L := L) hR a _ sl ob ?_
  split at h
  ·rename_i e; rw [e]; exact S.run_sound (L := L) hR b Q _ _ h
  ·rename_i hne
   revert h hne
   generalize S.run R L a sl ob = r
   intro hne h
   cases r with
   | none => exact h.elim
   | some x =>
    obtain ⟨e, sl', ob'⟩ := x
    cases e with
    | normal => exact (hne _ _ rfl).elim
    | exit n => exact h
    | ret => exact h
    | panic v => exact h
 | .skip, Q, sl, ob, h => h
 | .cond c a b, Q, sl, ob, h => by
  simp only [S.run] at h
  simp only [cwp]
  split at h
  ·rename_i t ht
   rw [ht]
   cases t
   ·exact ⟨fun e => (by cases e), fun _ => S.run_sound (L := L) hR b Q sl ob h⟩
   ·exact ⟨fun _ => S.run_sound (L := L) hR a Q sl ob h, fun e => (by cases e)⟩
  ·exact h.elim
 | .block n a, Q, sl, ob, h => by
  simp only [S.run] at h
  simp only [cwp]
  refine S.run_sound (L := L) hR a _ sl ob ?_
  split at h
  ·rename_i m sl' ob' e
   rw [e]
   rw [Bool.cond_eq_ite] at h
   simp only [Rs.to, Yj]
   by_cases hm : m = n
   ·simp only [hm, decide_true, if_true] at h ⊢; exact h
   ·simp only [hm, decide_false, Bool.false_eq_true, if_false] at h ⊢; exact h
  ·rename_i hne
   revert h hne
   generalize S.run R L a sl ob = r
   intro hne h
   cases r with
   | none => exact h.elim
   | some x =>
    obtain ⟨e, sl', ob'⟩ := x
    cases e with
    | normal => exact h
    | exit n => exact (hne _ _ _ rfl).elim
    | ret => exact h
    | panic v => exact h
 | .loop keep a, Q, sl, ob, h => by
  simp only [S.run] at h
  simp only [cwp]
  refine ALoop.of (ι := Nat × Xb × Objs) (fun x => x.2.1) (fun x => x.2.2) (fun x => (Xod keep (S.run R L a) x.1 x.2.1 x.2.2).to Q) (fun x => x.1) (L, Xc sl keep, ob) h rfl rfl ?_
  rintro ⟨n, sl1, ob1⟩ h1
  refine S.run_sound (L := L) hR a _ _ _ ?_
  simp only at h1 ⊢
  cases n with
  | zero => exact h1.elim
  | succ n =>
   simp only [Xod] at h1
   split at h1
   ·rename_i sl' ob' e
    rw [e]
    split at h1
    ·rename_i sl2 ob2 e2
     unfold X56 at e2
     rw [Bool.cond_eq_ite] at e2
     split at e2
     ·rename_i hc
      simp only [Bool.and_eq_true] at hc
      cases e2
      exact ⟨_, hc.1, hc.2, (n, _, _), h1, Nat.lt_succ_self n, rfl, rfl⟩
     ·cases e2
    ·exact h1.elim
   ·rename_i hne
    revert h1 hne
    generalize S.run R L a sl1 ob1 = r
    intro hne h1
    cases r with
    | none => exact h1.elim
    | some x =>
     obtain ⟨e, sl', ob'⟩ := x
     cases e with
     | normal => exact (hne _ _ rfl).elim
     | exit n => exact h1
     | ret => exact h1
     | panic v => exact h1
 | .exit n, Q, sl, ob, h => h
 | .ret, Q, sl, ob, h => h
end Go.Ab
