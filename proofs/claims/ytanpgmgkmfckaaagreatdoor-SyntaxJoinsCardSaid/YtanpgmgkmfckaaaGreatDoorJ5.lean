/- Texts of this claim joined by a program, part 5 of 7; the last is: Further equations of folded expressions; loops that count. Over any program; no condition. -/
import Derived.Test.YtanpgmgkmfckaaaGreatDoorJ4
import Derived.Test.YtanpgmgkmfckaaaGreatDoorProg
import Derived.KernelRfl
set_option linter.unusedSimpArgs false
set_option linter.unusedVariables false
set_option linter.unusedSectionVars false
/- The abstract statements that stand for the code of these functions, written by a program from the translation; that they do is checked by the kernel. No condition. -/
namespace Go.Proofs.YtanpgmgkmfckaaaGreatDoor
open Go Go.Ab
set_option maxRecDepth 100000
def ir8 : S := .seq (.rg [] [.op (some 0) (.c (.mv (.bool false)))] [] [])
 (.seq (.rg [] [.op (some 23) (.pcall 9 [(.str [])]),
   .op (some 22) (.c (.mv (.t 23))),
   .op (some 24) (.c (.ext (.t 22) 0)),
   .op (some 25) (.c (.ext (.t 22) 1)),
   .op (some 26) (.c (.ext (.t 22) 2)),
   .op (some 1) (.alloc 30 (.agg [.nils, .nils, .nils, .nils, .nils, .nils])),
   .op none (.st 6 (.t 1) (.t 24)),
   .op (some 2) (.c (.mv (.t 25))),
   .op (some 3) (.c (.mv (.t 26)))] [1, 2, 3] [])
 (.seq (.rg [] [.op (some 28) (.pcall 9 [(.str [115, 99, 104, 101, 109, 97, 32, 97, 32, 98, 121, 32, 98, 32, 118, 101, 114, 115, 105, 111, 110, 32, 50, 53, 54])]),
   .op (some 27) (.c (.mv (.t 28))),
   .op (some 29) (.c (.ext (.t 27) 0)),
   .op (some 30) (.c (.ext (.t 27) 1)),
   .op (some 31) (.c (.ext (.t 27) 2)),
   .op (some 4) (.alloc 30 (.agg [.nils, .nils, .nils, .nils, .nils, .nils])),
   .op none (.st 6 (.t 4) (.t 29)),
   .op (some 5) (.c (.mv (.t 30))),
   .op (some 6) (.c (.mv (.t 31)))] [1, 2, 3, 5, 6] [])
 (.seq (.rg [] [.op (some 33) (.pcall 9 [(.str [105, 115, 115, 117, 101, 114])]),
   .op (some 32) (.c (.mv (.t 33))),
   .op (some 34) (.c (.ext (.t 32) 0)),
   .op (some 35) (.c (.ext (.t 32) 1)),
   .op (some 36) (.c (.ext (.t 32) 2)),
   .op (some 7) (.alloc 30 (.agg [.nils, .nils, .nils, .nils, .nils, .nils])),
   .op none (.st 6 (.t 7) (.t 34)),
   .op (some 8) (.c (.mv (.t 35))),
   .op (some 9) (.c (.mv (.t 36)))] [1, 2, 3, 5, 6, 8, 9] [])
 (.seq (.rg [] [.op (some 38) (.pcall 9 [(.str [117, 110, 105, 116, 32, 109, 32, 61, 32, 49, 32, 110, 59])]),
   .op (some 37) (.c (.mv (.t 38))),
   .op (some 39) (.c (.ext (.t 37) 0)),
   .op (some 40) (.c (.ext (.t 37) 1)),
   .op (some 41) (.c (.ext (.t 37) 2)),
   .op (some 10) (.alloc 30 (.agg [.nils, .nils, .nils, .nils, .nils, .nils])),
   .op none (.st 6 (.t 10) (.t 39)),
   .op (some 11) (.c (.mv (.t 40))),
   .op (some 12) (.c (.mv (.t 41)))] [1, 2, 3, 5, 6, 8, 9, 11, 12] [])
 (.seq (.rg [] [.op (some 43) (.bls 1 [.str []] [(0, (.str [99, 111, 117, 114, 116]))]),
   .op (some 44) (.c (.bld [.nils, .nils, .nils, .nils, .nils, .nils] [(0, (.t 43))])),
   .op (some 45) (.pcall 13 [(.t 44)]),
   .op (some 42) (.c (.mv (.t 45))),
   .op (some 46) (.c (.ext (.t 42) 0)),
   .op (some 47) (.c (.ext (.t 42) 1)),
   .op (some 13) (.c (.mv (.t 46))),
   .op (some 14) (.c (.mv (.t 47)))] [1, 2, 3, 5, 6, 8, 9, 11, 12, 13, 14] [])
 (.seq (.rg [] [.op (some 49) (.c (.bld [.str [], .int .i64 0, .nils, .nils, .nils] [(0, (.str [97]))])),
   .op (some 50) (.bls 5 [.agg [.str [], .int .i64 0, .nils, .nils, .nils]] [(0, (.t 49))]),
   .op (some 51) (.c (.bld [.nils, .nils, .nils, .nils, .nils, .nils] [(3, (.t 50))])),
   .op (some 52) (.pcall 13 [(.t 51)]),
   .op (some 48) (.c (.mv (.t 52))),
   .op (some 53) (.c (.ext (.t 48) 0)),
   .op (some 54) (.c (.ext (.t 48) 1)),
   .op (some 15) (.c (.mv (.t 53))),
   .op (some 16) (.c (.mv (.t 54)))] [1, 2, 3, 5, 6, 8, 9, 11, 12, 13, 14, 16] [])
 (.seq (.rg [] [.op (some 56) (.pcall 9 [(.str [100, 101, 114, 105, 118, 101, 32, 97, 100, 117, 108, 116, 32, 123, 32, 102, 114, 111, 109, 32, 98, 32, 98, 105, 114, 116, 104, 59, 32, 119, 104, 101, 114, 101, 32, 98, 46, 121, 101, 97, 114, 32, 60, 61, 32, 57, 59, 32, 115, 101, 116, 32, 115, 105, 110, 99, 101, 32, 61, 32, 98, 46, 121, 101, 97, 114, 59, 32, 125])]),
   .op (some 55) (.c (.mv (.t 56))),
   .op (some 57) (.c (.ext (.t 55) 0)),
   .op (some 58) (.c (.ext (.t 55) 1)),
   .op (some 59) (.c (.ext (.t 55) 2)),
   .op (some 17) (.alloc 30 (.agg [.nils, .nils, .nils, .nils, .nils, .nils])),
   .op none (.st 6 (.t 17) (.t 57)),
   .op (some 18) (.c (.mv (.t 58))),
   .op (some 19) (.c (.mv (.t 59)))] [1, 2, 3, 5, 6, 8, 9, 11, 12, 13, 14, 16, 17, 18, 19] [])
 (.seq (.rg [] [.op (some 60) (.c (.bld [.str [], .str [], .int .i64 0, .agg [.str [], .str [], .int .i64 0, .int .i64 0, .int .i64 0]] [(0, (.str [98])), (1, (.str [98, 105, 114, 116, 104]))])),
   .op (some 61) (.bls 8 [.agg [.str [], .str [], .int .i64 0, .agg [.str [], .str [], .int .i64 0, .int .i64 0, .int .i64 0]]] [(0, (.t 60))]),
   .op (some 62) (.c (.bld [.str [], .str [], .int .i64 0, .int .i64 0, .int .i64 0] [(0, (.str [98])), (1, (.str [121, 101, 97, 114]))])),
   .op (some 63) (.c (.bld [.str [], .str [], .int .i64 0, .int .i64 0, .int .i64 0] [(2, (.int .i64 (-1))), (4, (.int .i64 9))])),
   .op (some 64) (.c (.bld [.int .i64 0, .agg [.str [], .str [], .int .i64 0, .int .i64 0, .int .i64 0], .agg [.str [], .str [], .int .i64 0, .int .i64 0, .int .i64 0]] [(0, (.int .i64 3)), (1, (.t 62)), (2, (.t 63))])),
   .op (some 65) (.bls 11 [.agg [.int .i64 0, .agg [.str [], .str [], .int .i64 0, .int .i64 0, .int .i64 0], .agg [.str [], .str [], .int .i64 0, .int .i64 0, .int .i64 0]]] [(0, (.t 64))]),
   .op (some 66) (.c (.bld [.str [], .str [], .int .i64 0, .int .i64 0, .int .i64 0] [(0, (.str [98])), (1, (.str [121, 101, 97, 114]))])),
   .op (some 67) (.c (.bld [.str [], .int .i64 0, .agg [.str [], .str [], .int .i64 0, .int .i64 0, .int .i64 0]] [(0, (.str [115, 105, 110, 99, 101])), (2, (.t 66))])),
   .op (some 68) (.bls 7 [.agg [.str [], .int .i64 0, .agg [.str [], .str [], .int .i64 0, .int .i64 0, .int .i64 0]]] [(0, (.t 67))]),
   .op (some 69) (.c (.bld [.str [], .int .i64 0, .nils, .nils, .nils] [(0, (.str [97, 100, 117, 108, 116])), (2, (.t 61)), (3, (.t 65)), (4, (.t 68))])),
   .op (some 70) (.bls 5 [.agg [.str [], .int .i64 0, .nils, .nils, .nils]] [(0, (.t 69))]),
   .op (some 71) (.c (.bld [.nils, .nils, .nils, .nils, .nils, .nils] [(3, (.t 70))])),
   .op (some 20) (.alloc 30 (.agg [.nils, .nils, .nils, .nils, .nils, .nils])),
   .op none (.st 6 (.t 20) (.t 71))] [1, 2, 3, 5, 6, 8, 9, 11, 12, 13, 14, 16, 17, 18, 19, 20] [])
 (.seq (.rg [] [.op (some 72) (.c (.mv (.t 3))),
   .op (some 73) (.c (.bin .eql (.t 72) (.int .i64 0))),
   .op (some 74) (.c (.mv (.t 73))),
   .gop 74 true (some 75) (.c (.mv (.t 2))),
   .gop 74 true (some 76) (.c (.bin .eql (.t 75) (.int .i64 0))),
   .op (some 77) (.c (.pick (.t 74) (.t 76) (.bool false))),
   .op (some 78) (.c (.mv (.t 77))),
   .gop 78 true (some 79) (.c (.ld 6 true (.t 1))),
   .gop 78 true (some 80) (.c (.bld [.nils, .nils, .nils, .nils, .nils, .nils] [])),
   .gop 78 true (some 81) (.pcall 11 [(.t 79), (.t 80)]),
   .op (some 82) (.c (.pick (.t 78) (.t 81) (.bool false))),
   .op (some 83) (.c (.mv (.t 82))),
   .gop 83 true (some 84) (.c (.mv (.t 6))),
   .gop 83 true (some 85) (.c (.bin .eql (.t 84) (.int .i64 100))),
   .op (some 86) (.c (.pick (.t 83) (.t 85) (.bool false))),
   .op (some 87) (.c (.mv (.t 86))),
   .gop 87 true (some 88) (.c (.mv (.t 5))),
   .gop 87 true (some 89) (.c (.bin .eql (.t 88) (.int .i64 22))),
   .op (some 90) (.c (.pick (.t 87) (.t 89) (.bool false))),
   .op (some 91) (.c (.mv (.t 90))),
   .gop 91 true (some 92) (.c (.mv (.t 9))),
   .gop 91 true (some 93) (.c (.bin .eql (.t 92) (.int .i64 100))),
   .op (some 94) (.c (.pick (.t 91) (.t 93) (.bool false))),
   .op (some 95) (.c (.mv (.t 94))),
   .gop 95 true (some 96) (.c (.mv (.t 8))),
   .gop 95 true (some 97) (.c (.bin .eql (.t 96) (.int .i64 6))),
   .op (some 98) (.c (.pick (.t 95) (.t 97) (.bool false))),
   .op (some 99) (.c (.mv (.t 98))),
   .gop 99 true (some 100) (.c (.mv (.t 12))),
   .gop 99 true (some 101) (.c (.bin .eql (.t 100) (.int .i64 100))),
   .op (some 102) (.c (.pick (.t 99) (.t 101) (.bool false))),
   .op (some 103) (.c (.mv (.t 102))),
   .gop 103 true (some 104) (.c (.mv (.t 11))),
   .gop 103 true (some 105) (.c (.bin .eql (.t 104) (.int .i64 9))),
   .op (some 106) (.c (.pick (.t 103) (.t 105) (.bool false))),
   .op (some 21) (.c (.mv (.t 106)))] [1, 13, 14, 16, 17, 18, 19, 20, 21] [])
 (.seq (.rg [] [.op (some 107) (.c (.mv (.t 21))),
   .op (some 108) (.c (.mv (.t 107))),
   .gop 108 true (some 109) (.c (.mv (.t 14))),
   .gop 108 true (some 110) (.c (.bin .eql (.t 109) (.int .i64 0))),
   .op (some 111) (.c (.pick (.t 108) (.t 110) (.bool false))),
   .op (some 112) (.c (.mv (.t 111))),
   .gop 112 true (some 113) (.c (.mv (.t 13))),
   .gop 112 true (some 114) (.c (.bin .eql (.t 113) (.str [105, 115, 115, 117, 101, 114, 32, 99, 111, 117, 114, 116, 32, 59]))),
   .op (some 115) (.c (.pick (.t 112) (.t 114) (.bool false))),
   .op (some 116) (.c (.mv (.t 115))),
   .gop 116 true (some 117) (.c (.mv (.t 16))),
   .gop 116 true (some 118) (.c (.bin .eql (.t 117) (.int .i64 100))),
   .op (some 119) (.c (.pick (.t 116) (.t 118) (.bool false))),
   .op (some 120) (.c (.mv (.t 119))),
   .gop 120 true (some 121) (.c (.mv (.t 19))),
   .gop 120 true (some 122) (.c (.bin .eql (.t 121) (.int .i64 0))),
   .op (some 123) (.c (.pick (.t 120) (.t 122) (.bool false))),
   .op (some 124) (.c (.mv (.t 123))),
   .gop 124 true (some 125) (.c (.mv (.t 18))),
   .gop 124 true (some 126) (.c (.bin .eql (.t 125) (.int .i64 0))),
   .op (some 127) (.c (.pick (.t 124) (.t 126) (.bool false))),
   .op (some 128) (.c (.mv (.t 127))),
   .gop 128 true (some 129) (.c (.ld 6 true (.t 17))),
   .gop 128 true (some 130) (.c (.ld 6 true (.t 20))),
   .gop 128 true (some 131) (.pcall 11 [(.t 129), (.t 130)]),
   .op (some 132) (.c (.pick (.t 128) (.t 131) (.bool false))),
   .op (some 133) (.c (.mv (.t 132))),
   .gop 133 true (some 134) (.c (.ld 6 true (.t 17))),
   .gop 133 true (some 135) (.c (.ld 6 true (.t 20))),
   .gop 133 true (some 136) (.pcall 17 [(.t 134), (.t 135)]),
   .op (some 137) (.c (.pick (.t 133) (.t 136) (.bool false))),
   .op (some 138) (.c (.mv (.t 137))),
   .gop 138 true (some 139) (.c (.ld 6 true (.t 17))),
   .gop 138 true (some 140) (.c (.ld 6 true (.t 1))),
   .gop 138 true (some 141) (.pcall 17 [(.t 139), (.t 140)]),
   .gop 138 true (some 142) (.c (.not (.t 141))),
   .op (some 143) (.c (.pick (.t 138) (.t 142) (.bool false))),
   .op (some 0) (.c (.mv (.t 143)))] [0] [])
 (.ret)))))))))))
theorem ok8 : fnOk Tryz.prog 8 0 ir8 [.t 0] = true := by kernel_rfl
def ir11_l0 : S := .seq (.seq (.rg [] [.op (some 136) (.c (.mv (.t 9))),
   .op (some 137) (.c (.fldA 5 5 (.t 2))),
   .op (some 138) (.c (.ld 1 false (.t 137))),
   .op (some 139) (.c (.lenL (.t 138))),
   .op (some 140) (.c (.bin .lss (.t 136) (.t 139)))] [2, 3, 9, 140] [])
 (.cond (.t 140) (.skip) (.exit 8)))
 (.seq (.block 9 (.seq (.rg [0, 2, 5, 7, 1, 3, 4, 6, 8, 9, 10, 11] [.op (some 143) (.c (.fldA 5 5 (.t 2))),
   .op (some 145) (.c (.mv (.t 9))),
   .op (some 148) (.c (.fldA 5 5 (.t 3))),
   .op (some 150) (.c (.mv (.t 9))),
   .op (some 144) (.c (.ld 1 false (.t 143))),
   .op (some 146) (.c (.idxA 3 (.t 144) (.t 145))),
   .op (some 147) (.c (.ld 3 true (.t 146))),
   .op (some 149) (.c (.ld 1 false (.t 148))),
   .op (some 151) (.c (.idxA 3 (.t 149) (.t 150))),
   .op (some 152) (.c (.ld 3 true (.t 151))),
   .op (some 153) (.pcall 32 [(.t 147), (.t 152)]),
   .op (some 154) (.c (.not (.t 153)))] [2, 3, 9, 154] [])
 (.cond (.t 154) (.seq (.rg [] [.op (some 4) (.c (.mv (.bool false)))] [4] [])
 (.ret)) (.skip))))
 (.rg [] [.op (some 141) (.c (.mv (.t 9))),
   .op (some 142) (.c (.bin .add (.t 141) (.int .i64 1))),
   .op (some 9) (.c (.mv (.t 142)))] [2, 3, 9] []))
def ir11_l1 : S := .seq (.seq (.rg [] [.op (some 117) (.c (.mv (.t 8))),
   .op (some 118) (.c (.fldA 4 4 (.t 2))),
   .op (some 119) (.c (.ld 1 false (.t 118))),
   .op (some 120) (.c (.lenL (.t 119))),
   .op (some 121) (.c (.bin .lss (.t 117) (.t 120)))] [2, 3, 8, 121] [])
 (.cond (.t 121) (.skip) (.exit 6)))
 (.seq (.block 7 (.seq (.rg [0, 2, 5, 7, 1, 3, 4, 6, 8, 9, 10, 11] [.op (some 124) (.c (.fldA 4 4 (.t 2))),
   .op (some 126) (.c (.mv (.t 8))),
   .op (some 129) (.c (.fldA 4 4 (.t 3))),
   .op (some 131) (.c (.mv (.t 8))),
   .op (some 125) (.c (.ld 1 false (.t 124))),
   .op (some 127) (.c (.idxA 5 (.t 125) (.t 126))),
   .op (some 128) (.c (.ld 5 true (.t 127))),
   .op (some 130) (.c (.ld 1 false (.t 129))),
   .op (some 132) (.c (.idxA 5 (.t 130) (.t 131))),
   .op (some 133) (.c (.ld 5 true (.t 132))),
   .op (some 134) (.pcall 31 [(.t 128), (.t 133)]),
   .op (some 135) (.c (.not (.t 134)))] [2, 3, 8, 135] [])
 (.cond (.t 135) (.seq (.rg [] [.op (some 4) (.c (.mv (.bool false)))] [4] [])
 (.ret)) (.skip))))
 (.rg [] [.op (some 122) (.c (.mv (.t 8))),
   .op (some 123) (.c (.bin .add (.t 122) (.int .i64 1))),
   .op (some 8) (.c (.mv (.t 123)))] [2, 3, 8] []))
def ir11_l2 : S := .seq (.seq (.rg [] [.op (some 98) (.c (.mv (.t 7))),
   .op (some 99) (.c (.fldA 3 3 (.t 2))),
   .op (some 100) (.c (.ld 1 false (.t 99))),
   .op (some 101) (.c (.lenL (.t 100))),
   .op (some 102) (.c (.bin .lss (.t 98) (.t 101)))] [2, 3, 7, 102] [])
 (.cond (.t 102) (.skip) (.exit 4)))
 (.seq (.block 5 (.seq (.rg [0, 2, 5, 7, 1, 3, 4, 6, 8, 9, 10, 11] [.op (some 105) (.c (.fldA 3 3 (.t 2))),
   .op (some 107) (.c (.mv (.t 7))),
   .op (some 110) (.c (.fldA 3 3 (.t 3))),
   .op (some 112) (.c (.mv (.t 7))),
   .op (some 106) (.c (.ld 1 false (.t 105))),
   .op (some 108) (.c (.idxA 5 (.t 106) (.t 107))),
   .op (some 109) (.c (.ld 5 true (.t 108))),
   .op (some 111) (.c (.ld 1 false (.t 110))),
   .op (some 113) (.c (.idxA 5 (.t 111) (.t 112))),
   .op (some 114) (.c (.ld 5 true (.t 113))),
   .op (some 115) (.pcall 30 [(.t 109), (.t 114)]),
   .op (some 116) (.c (.not (.t 115)))] [2, 3, 7, 116] [])
 (.cond (.t 116) (.seq (.rg [] [.op (some 4) (.c (.mv (.bool false)))] [4] [])
 (.ret)) (.skip))))
 (.rg [] [.op (some 103) (.c (.mv (.t 7))),
   .op (some 104) (.c (.bin .add (.t 103) (.int .i64 1))),
   .op (some 7) (.c (.mv (.t 104)))] [2, 3, 7] []))
def ir11_l3 : S := .seq (.seq (.rg [] [.op (some 79) (.c (.mv (.t 6))),
   .op (some 80) (.c (.fldA 2 2 (.t 2))),
   .op (some 81) (.c (.ld 1 false (.t 80))),
   .op (some 82) (.c (.lenL (.t 81))),
   .op (some 83) (.c (.bin .lss (.t 79) (.t 82)))] [2, 3, 6, 83] [])
 (.cond (.t 83) (.skip) (.exit 2)))
 (.seq (.block 3 (.seq (.rg [0, 2, 5, 7, 1, 3, 4, 6, 8, 9, 10, 11] [.op (some 86) (.c (.fldA 2 2 (.t 2))),
   .op (some 88) (.c (.mv (.t 6))),
   .op (some 91) (.c (.fldA 2 2 (.t 3))),
   .op (some 93) (.c (.mv (.t 6))),
   .op (some 87) (.c (.ld 1 false (.t 86))),
   .op (some 89) (.c (.idxA 6 (.t 87) (.t 88))),
   .op (some 90) (.c (.ld 6 true (.t 89))),
   .op (some 92) (.c (.ld 1 false (.t 91))),
   .op (some 94) (.c (.idxA 6 (.t 92) (.t 93))),
   .op (some 95) (.c (.ld 6 true (.t 94))),
   .op (some 96) (.pcall 29 [(.t 90), (.t 95)]),
   .op (some 97) (.c (.not (.t 96)))] [2, 3, 6, 97] [])
 (.cond (.t 97) (.seq (.rg [] [.op (some 4) (.c (.mv (.bool false)))] [4] [])
 (.ret)) (.skip))))
 (.rg [] [.op (some 84) (.c (.mv (.t 6))),
   .op (some 85) (.c (.bin .add (.t 84) (.int .i64 1))),
   .op (some 6) (.c (.mv (.t 85)))] [2, 3, 6] []))
def ir11_l4 : S := .seq (.seq (.rg [] [.op (some 61) (.c (.mv (.t 5))),
   .op (some 62) (.c (.fldA 1 1 (.t 2))),
   .op (some 63) (.c (.ld 1 false (.t 62))),
   .op (some 64) (.c (.lenL (.t 63))),
   .op (some 65) (.c (.bin .lss (.t 61) (.t 64)))] [2, 3, 5, 65] [])
 (.cond (.t 65) (.skip) (.exit 0)))
 (.seq (.block 1 (.seq (.rg [0, 2, 5, 7, 1, 3, 4, 6, 8, 9, 10] [.op (some 68) (.c (.fldA 1 1 (.t 2))),
   .op (some 70) (.c (.mv (.t 5))),
   .op (some 73) (.c (.fldA 1 1 (.t 3))),
   .op (some 75) (.c (.mv (.t 5))),
   .op (some 69) (.c (.ld 1 false (.t 68))),
   .op (some 71) (.c (.idxA 5 (.t 69) (.t 70))),
   .op (some 72) (.c (.ld 5 true (.t 71))),
   .op (some 74) (.c (.ld 1 false (.t 73))),
   .op (some 76) (.c (.idxA 5 (.t 74) (.t 75))),
   .op (some 77) (.c (.ld 5 true (.t 76))),
   .op (some 78) (.c (.eqD (.st [.str, .str, .int .i64, .int .i64, .int .i64]) false (.t 72) (.t 77)))] [2, 3, 5, 78] [])
 (.cond (.t 78) (.seq (.rg [] [.op (some 4) (.c (.mv (.bool false)))] [4] [])
 (.ret)) (.skip))))
 (.rg [] [.op (some 66) (.c (.mv (.t 5))),
   .op (some 67) (.c (.bin .add (.t 66) (.int .i64 1))),
   .op (some 5) (.c (.mv (.t 67)))] [2, 3, 5] []))
def ir11 : S := .seq (.rg [] [.op (some 2) (.box 30 (.t 0)),
   .op (some 3) (.box 30 (.t 1)),
   .op (some 4) (.c (.mv (.bool false)))] [2, 3] [])
 (.seq (.seq (.rg [] [.op (some 10) (.c (.fldA 0 0 (.t 2))),
   .op (some 11) (.c (.ld 1 false (.t 10))),
   .op (some 12) (.c (.fldA 0 0 (.t 3))),
   .op (some 13) (.c (.ld 1 false (.t 12))),
   .op (some 14) (.pcall 28 [(.t 11), (.t 13)]),
   .op (some 15) (.c (.not (.t 14))),
   .op (some 16) (.c (.mv (.t 15))),
   .gop 16 false (some 17) (.c (.fldA 1 1 (.t 2))),
   .gop 16 false (some 18) (.c (.ld 1 false (.t 17))),
   .gop 16 false (some 19) (.c (.lenL (.t 18))),
   .gop 16 false (some 20) (.c (.fldA 1 1 (.t 3))),
   .gop 16 false (some 21) (.c (.ld 1 false (.t 20))),
   .gop 16 false (some 22) (.c (.lenL (.t 21))),
   .gop 16 false (some 23) (.c (.bin .neq (.t 19) (.t 22))),
   .op (some 24) (.c (.pick (.t 16) (.bool true) (.t 23))),
   .op (some 25) (.c (.mv (.t 24))),
   .gop 25 false (some 26) (.c (.fldA 2 2 (.t 2))),
   .gop 25 false (some 27) (.c (.ld 1 false (.t 26))),
   .gop 25 false (some 28) (.c (.lenL (.t 27))),
   .gop 25 false (some 29) (.c (.fldA 2 2 (.t 3))),
   .gop 25 false (some 30) (.c (.ld 1 false (.t 29))),
   .gop 25 false (some 31) (.c (.lenL (.t 30))),
   .gop 25 false (some 32) (.c (.bin .neq (.t 28) (.t 31))),
   .op (some 33) (.c (.pick (.t 25) (.bool true) (.t 32))),
   .op (some 34) (.c (.mv (.t 33))),
   .gop 34 false (some 35) (.c (.fldA 3 3 (.t 2))),
   .gop 34 false (some 36) (.c (.ld 1 false (.t 35))),
   .gop 34 false (some 37) (.c (.lenL (.t 36))),
   .gop 34 false (some 38) (.c (.fldA 3 3 (.t 3))),
   .gop 34 false (some 39) (.c (.ld 1 false (.t 38))),
   .gop 34 false (some 40) (.c (.lenL (.t 39))),
   .gop 34 false (some 41) (.c (.bin .neq (.t 37) (.t 40))),
   .op (some 42) (.c (.pick (.t 34) (.bool true) (.t 41))),
   .op (some 43) (.c (.mv (.t 42))),
   .gop 43 false (some 44) (.c (.fldA 4 4 (.t 2))),
   .gop 43 false (some 45) (.c (.ld 1 false (.t 44))),
   .gop 43 false (some 46) (.c (.lenL (.t 45))),
   .gop 43 false (some 47) (.c (.fldA 4 4 (.t 3))),
   .gop 43 false (some 48) (.c (.ld 1 false (.t 47))),
   .gop 43 false (some 49) (.c (.lenL (.t 48))),
   .gop 43 false (some 50) (.c (.bin .neq (.t 46) (.t 49))),
   .op (some 51) (.c (.pick (.t 43) (.bool true) (.t 50))),
   .op (some 52) (.c (.mv (.t 51))),
   .gop 52 false (some 53) (.c (.fldA 5 5 (.t 2))),
   .gop 52 false (some 54) (.c (.ld 1 false (.t 53))),
   .gop 52 false (some 55) (.c (.lenL (.t 54))),
   .gop 52 false (some 56) (.c (.fldA 5 5 (.t 3))),
   .gop 52 false (some 57) (.c (.ld 1 false (.t 56))),
   .gop 52 false (some 58) (.c (.lenL (.t 57))),
   .gop 52 false (some 59) (.c (.bin .neq (.t 55) (.t 58))),
   .op (some 60) (.c (.pick (.t 52) (.bool true) (.t 59)))] [2, 3, 60] [])
 (.cond (.t 60) (.seq (.rg [] [.op (some 4) (.c (.mv (.bool false)))] [4] [])
 (.ret)) (.skip)))
 (.seq (.seq (.rg [] [.op (some 5) (.c (.mv (.int .i64 0)))] [2, 3, 5] [])
 (.block 0 (.loop [2, 3, 5] ir11_l4)))
 (.seq (.seq (.rg [] [.op (some 6) (.c (.mv (.int .i64 0)))] [2, 3, 6] [])
 (.block 2 (.loop [2, 3, 6] ir11_l3)))
 (.seq (.seq (.rg [] [.op (some 7) (.c (.mv (.int .i64 0)))] [2, 3, 7] [])
 (.block 4 (.loop [2, 3, 7] ir11_l2)))
 (.seq (.seq (.rg [] [.op (some 8) (.c (.mv (.int .i64 0)))] [2, 3, 8] [])
 (.block 6 (.loop [2, 3, 8] ir11_l1)))
 (.seq (.seq (.rg [] [.op (some 9) (.c (.mv (.int .i64 0)))] [2, 3, 9] [])
 (.block 8 (.loop [2, 3, 9] ir11_l0)))
 (.seq (.rg [] [.op (some 4) (.c (.mv (.bool true)))] [4] [])
 (.ret))))))))
theorem ok11 : fnOk Tryz.prog 11 2 ir11 [.t 4] = true := by kernel_rfl
def ir13_l0 : S := .seq (.rg [] [.op (some 123) (.c (.bin .lss (.t 122) (.t 121)))] [4, 16, 105, 106, 107, 120, 121, 122, 123] [])
 (.seq (.cond (.t 123) (.skip) (.exit 12))
 (.seq (.block 13 (.seq (.rg [] [.op (some 124) (.c (.idxA 4 (.t 120) (.t 122))),
   .op (some 125) (.c (.ld 4 true (.t 124))),
   .op (some 18) (.alloc 107 (.agg [.str [], .str [], .int .i64 0, .int .i64 0])),
   .op none (.st 4 (.t 18) (.t 125))] [4, 16, 18, 105, 106, 107, 120, 121, 122] [])
 (.rg [] [.op (some 126) (.c (.mv (.t 4))),
   .op (some 127) (.c (.mki 101 (.str [109, 97, 121]))),
   .op (some 128) (.c (.fldA 0 0 (.t 18))),
   .op (some 129) (.c (.ld 1 false (.t 128))),
   .op (some 130) (.c (.mki 9 (.t 129))),
   .op (some 131) (.c (.mki 102 (.str [46]))),
   .op (some 132) (.c (.fldA 1 1 (.t 18))),
   .op (some 133) (.c (.ld 1 false (.t 132))),
   .op (some 134) (.c (.mki 9 (.t 133))),
   .op (some 135) (.c (.mki 102 (.str [59]))),
   .op (some 136) (.bls 1 [.nili, .nili, .nili, .nili, .nili] [(0, (.t 127)), (1, (.t 130)), (2, (.t 131)), (3, (.t 134)), (4, (.t 135))]),
   .op (some 137) (.call 34 [(.t 126), (.t 136)])] [4, 16, 105, 106, 107, 120, 121, 122] [])))
 (.rg [] [.op (some 138) (.c (.bin .add (.t 122) (.int .i64 1))),
   .op (some 122) (.c (.mv (.t 138)))] [4, 16, 105, 106, 107, 120, 121, 122] [])))
def ir13_l1 : S := .seq (.rg [] [.op (some 108) (.c (.bin .lss (.t 107) (.t 106)))] [4, 105, 106, 107, 108] [])
 (.seq (.cond (.t 108) (.skip) (.exit 10))
 (.seq (.block 11 (.seq (.rg [] [.op (some 109) (.c (.idxA 3 (.t 105) (.t 107))),
   .op (some 110) (.c (.ld 3 true (.t 109))),
   .op (some 16) (.alloc 88 (.agg [.str [], .nils, .int .i64 0])),
   .op none (.st 3 (.t 16) (.t 110))] [4, 16, 105, 106, 107] [])
 (.seq (.rg [] [.op (some 111) (.c (.mv (.t 4))),
   .op (some 112) (.c (.mki 101 (.str [112, 117, 114, 112, 111, 115, 101]))),
   .op (some 113) (.c (.fldA 0 0 (.t 16))),
   .op (some 114) (.c (.ld 1 false (.t 113))),
   .op (some 115) (.c (.mki 9 (.t 114))),
   .op (some 116) (.c (.mki 102 (.str [123]))),
   .op (some 117) (.bls 1 [.nili, .nili, .nili] [(0, (.t 112)), (1, (.t 115)), (2, (.t 116))]),
   .op (some 118) (.call 34 [(.t 111), (.t 117)])] [4, 16, 105, 106, 107] [])
 (.seq (.seq (.rg [] [.op (some 119) (.c (.fldA 1 1 (.t 16))),
   .op (some 120) (.c (.ld 1 false (.t 119))),
   .op (some 121) (.c (.lenL (.t 120))),
   .op (some 122) (.c (.mv (.int .i64 0)))] [4, 16, 105, 106, 107, 120, 121, 122] [])
 (.block 12 (.loop [4, 16, 105, 106, 107, 120, 121, 122] ir13_l0)))
 (.rg [] [.op (some 139) (.c (.mv (.t 4))),
   .op (some 140) (.c (.mki 101 (.str [109, 111, 115, 116]))),
   .op (some 141) (.c (.fldA 2 2 (.t 16))),
   .op (some 142) (.c (.ld 1 false (.t 141))),
   .op (some 143) (.c (.mki 3 (.t 142))),
   .op (some 144) (.c (.mki 102 (.str [59]))),
   .op (some 145) (.c (.mki 102 (.str [125]))),
   .op (some 146) (.bls 1 [.nili, .nili, .nili, .nili] [(0, (.t 140)), (1, (.t 143)), (2, (.t 144)), (3, (.t 145))]),
   .op (some 147) (.call 34 [(.t 139), (.t 146)])] [4, 105, 106, 107] [])))))
 (.rg [] [.op (some 148) (.c (.bin .add (.t 107) (.int .i64 1))),
   .op (some 107) (.c (.mv (.t 148)))] [4, 105, 106, 107] [])))
def ir13_l2 : S := .seq (.rg [] [.op (some 97) (.c (.bin .lss (.t 96) (.t 95)))] [1, 4, 94, 95, 96, 97] [])
 (.seq (.cond (.t 97) (.skip) (.exit 8))
 (.seq (.block 9 (.seq (.rg [] [.op (some 98) (.c (.idxA 5 (.t 94) (.t 96))),
   .op (some 99) (.c (.ld 5 true (.t 98))),
   .op (some 14) (.alloc 84 (.agg [.str [], .str [], .int .i64 0, .int .i64 0, .nils])),
   .op none (.st 5 (.t 14) (.t 99))] [1, 4, 14, 94, 95, 96] [])
 (.rg [] [.op (some 100) (.c (.mv (.t 4))),
   .op (some 101) (.c (.ld 5 true (.t 14))),
   .op (some 102) (.call 37 [(.t 100), (.t 101)])] [1, 4, 94, 95, 96] [])))
 (.rg [] [.op (some 103) (.c (.bin .add (.t 96) (.int .i64 1))),
   .op (some 96) (.c (.mv (.t 103)))] [1, 4, 94, 95, 96] [])))
def ir13_l3 : S := .seq (.rg [] [.op (some 86) (.c (.bin .lss (.t 85) (.t 84)))] [1, 4, 83, 84, 85, 86] [])
 (.seq (.cond (.t 86) (.skip) (.exit 6))
 (.seq (.block 7 (.seq (.rg [] [.op (some 87) (.c (.idxA 5 (.t 83) (.t 85))),
   .op (some 88) (.c (.ld 5 true (.t 87))),
   .op (some 12) (.alloc 50 (.agg [.str [], .int .i64 0, .nils, .nils, .nils])),
   .op none (.st 5 (.t 12) (.t 88))] [1, 4, 12, 83, 84, 85] [])
 (.rg [] [.op (some 89) (.c (.mv (.t 4))),
   .op (some 90) (.c (.ld 5 true (.t 12))),
   .op (some 91) (.call 36 [(.t 89), (.t 90)])] [1, 4, 83, 84, 85] [])))
 (.rg [] [.op (some 92) (.c (.bin .add (.t 85) (.int .i64 1))),
   .op (some 85) (.c (.mv (.t 92)))] [1, 4, 83, 84, 85] [])))
def ir13_l4 : S := .seq (.rg [] [.op (some 75) (.c (.bin .lss (.t 74) (.t 73)))] [1, 4, 72, 73, 74, 75] [])
 (.seq (.cond (.t 75) (.skip) (.exit 4))
 (.seq (.block 5 (.seq (.rg [] [.op (some 76) (.c (.idxA 6 (.t 72) (.t 74))),
   .op (some 77) (.c (.ld 6 true (.t 76))),
   .op (some 10) (.alloc 79 (.agg [.str [], .str [], .int .i64 0, .int .i64 0, .nils, .nils])),
   .op none (.st 6 (.t 10) (.t 77))] [1, 4, 10, 72, 73, 74] [])
 (.rg [] [.op (some 78) (.c (.mv (.t 4))),
   .op (some 79) (.c (.ld 6 true (.t 10))),
   .op (some 80) (.call 35 [(.t 78), (.t 79)])] [1, 4, 72, 73, 74] [])))
 (.rg [] [.op (some 81) (.c (.bin .add (.t 74) (.int .i64 1))),
   .op (some 74) (.c (.mv (.t 81)))] [1, 4, 72, 73, 74] [])))
def ir13_s5 : S := .rg [] [.op (some 70) (.c (.bin .add (.t 42) (.int .i64 1))),
   .op (some 42) (.c (.mv (.t 70)))] [1, 4, 40, 41, 42] []
def ir13_s6 : S := .rg [] [.op (some 66) (.c (.mv (.t 4))),
   .op (some 67) (.c (.mki 102 (.str [59]))),
   .op (some 68) (.bls 1 [.nili] [(0, (.t 67))]),
   .op (some 69) (.call 34 [(.t 66), (.t 68)])] [1, 4, 40, 41, 42] []
def ir13_l7 : S := .seq (.rg [] [.op (some 43) (.c (.bin .lss (.t 42) (.t 41)))] [1, 4, 40, 41, 42, 43] [])
 (.seq (.cond (.t 43) (.skip) (.exit 2))
 (.seq (.block 3 (.seq (.rg [] [.op (some 44) (.c (.idxA 5 (.t 40) (.t 42))),
   .op (some 45) (.c (.ld 5 true (.t 44))),
   .op (some 8) (.alloc 74 (.agg [.str [], .str [], .int .i64 0, .int .i64 0, .int .i64 0])),
   .op none (.st 5 (.t 8) (.t 45))] [1, 4, 8, 40, 41, 42] [])
 (.seq (.rg [] [.op (some 46) (.c (.mv (.t 4))),
   .op (some 47) (.c (.mki 101 (.str [117, 110, 105, 116]))),
   .op (some 48) (.c (.fldA 0 0 (.t 8))),
   .op (some 49) (.c (.ld 1 false (.t 48))),
   .op (some 50) (.c (.mki 9 (.t 49))),
   .op (some 51) (.bls 1 [.nili, .nili] [(0, (.t 47)), (1, (.t 50))]),
   .op (some 52) (.call 34 [(.t 46), (.t 51)])] [1, 4, 8, 40, 41, 42] [])
 (.seq (.seq (.rg [] [.op (some 53) (.c (.fldA 1 1 (.t 8))),
   .op (some 54) (.c (.ld 1 false (.t 53))),
   .op (some 55) (.c (.bin .neq (.t 54) (.str [])))] [1, 4, 8, 40, 41, 42, 55] [])
 (.cond (.t 55) (.rg [] [.op (some 56) (.c (.mv (.t 4))),
   .op (some 57) (.c (.mki 102 (.str [61]))),
   .op (some 58) (.c (.fldA 2 2 (.t 8))),
   .op (some 59) (.c (.ld 1 false (.t 58))),
   .op (some 60) (.c (.mki 3 (.t 59))),
   .op (some 61) (.c (.fldA 1 1 (.t 8))),
   .op (some 62) (.c (.ld 1 false (.t 61))),
   .op (some 63) (.c (.mki 9 (.t 62))),
   .op (some 64) (.bls 1 [.nili, .nili, .nili] [(0, (.t 57)), (1, (.t 60)), (2, (.t 63))]),
   .op (some 65) (.call 34 [(.t 56), (.t 64)])] [1, 4, 40, 41, 42] []) (.skip)))
 (ir13_s6)))))
 (ir13_s5)))
def ir13_l8 : S := .seq (.rg [] [.op (some 28) (.c (.bin .lss (.t 27) (.t 26)))] [1, 4, 25, 26, 27, 28] [])
 (.seq (.cond (.t 28) (.skip) (.exit 0))
 (.seq (.block 1 (.seq (.rg [] [.op (some 29) (.c (.idxA 1 (.t 25) (.t 27))),
   .op (some 30) (.c (.ld 1 false (.t 29))),
   .op (some 6) (.c (.mv (.t 30)))] [1, 4, 6, 25, 26, 27] [])
 (.rg [] [.op (some 31) (.c (.mv (.t 4))),
   .op (some 32) (.c (.mki 101 (.str [105, 115, 115, 117, 101, 114]))),
   .op (some 33) (.c (.mv (.t 6))),
   .op (some 34) (.c (.mki 9 (.t 33))),
   .op (some 35) (.c (.mki 102 (.str [59]))),
   .op (some 36) (.bls 1 [.nili, .nili, .nili] [(0, (.t 32)), (1, (.t 34)), (2, (.t 35))]),
   .op (some 37) (.call 34 [(.t 31), (.t 36)])] [1, 4, 25, 26, 27] [])))
 (.rg [] [.op (some 38) (.c (.bin .add (.t 27) (.int .i64 1))),
   .op (some 27) (.c (.mv (.t 38)))] [1, 4, 25, 26, 27] [])))
def ir13 : S := .seq (.rg [] [.op (some 1) (.box 30 (.t 0)),
   .op (some 2) (.c (.mv (.str []))),
   .op (some 3) (.c (.mv (.int .i64 0)))] [1] [])
 (.seq (.seq (.rg [] [.op (some 19) (.c (.ld 6 true (.t 1))),
   .op (some 20) (.pcall 33 [(.t 19)]),
   .op (some 21) (.c (.not (.t 20)))] [1, 21] [])
 (.cond (.t 21) (.seq (.rg [] [.op (some 2) (.c (.mv (.str []))),
   .op (some 3) (.c (.mv (.int .i64 100)))] [2, 3] [])
 (.ret)) (.skip)))
 (.seq (.rg [] [.op (some 22) (.c (.bld [.nils] [])),
   .op (some 23) (.box 99 (.t 22)),
   .op (some 4) (.c (.mv (.t 23)))] [1, 4] [])
 (.seq (.seq (.rg [] [.op (some 24) (.c (.fldA 0 0 (.t 1))),
   .op (some 25) (.c (.ld 1 false (.t 24))),
   .op (some 26) (.c (.lenL (.t 25))),
   .op (some 27) (.c (.mv (.int .i64 0)))] [1, 4, 25, 26, 27] [])
 (.block 0 (.loop [1, 4, 25, 26, 27] ir13_l8)))
 (.seq (.seq (.rg [] [.op (some 39) (.c (.fldA 1 1 (.t 1))),
   .op (some 40) (.c (.ld 1 false (.t 39))),
   .op (some 41) (.c (.lenL (.t 40))),
   .op (some 42) (.c (.mv (.int .i64 0)))] [1, 4, 40, 41, 42] [])
 (.block 2 (.loop [1, 4, 40, 41, 42] ir13_l7)))
 (.seq (.seq (.rg [] [.op (some 71) (.c (.fldA 2 2 (.t 1))),
   .op (some 72) (.c (.ld 1 false (.t 71))),
   .op (some 73) (.c (.lenL (.t 72))),
   .op (some 74) (.c (.mv (.int .i64 0)))] [1, 4, 72, 73, 74] [])
 (.block 4 (.loop [1, 4, 72, 73, 74] ir13_l4)))
 (.seq (.seq (.rg [] [.op (some 82) (.c (.fldA 3 3 (.t 1))),
   .op (some 83) (.c (.ld 1 false (.t 82))),
   .op (some 84) (.c (.lenL (.t 83))),
   .op (some 85) (.c (.mv (.int .i64 0)))] [1, 4, 83, 84, 85] [])
 (.block 6 (.loop [1, 4, 83, 84, 85] ir13_l3)))
 (.seq (.seq (.rg [] [.op (some 93) (.c (.fldA 4 4 (.t 1))),
   .op (some 94) (.c (.ld 1 false (.t 93))),
   .op (some 95) (.c (.lenL (.t 94))),
   .op (some 96) (.c (.mv (.int .i64 0)))] [1, 4, 94, 95, 96] [])
 (.block 8 (.loop [1, 4, 94, 95, 96] ir13_l2)))
 (.seq (.seq (.rg [] [.op (some 104) (.c (.fldA 5 5 (.t 1))),
   .op (some 105) (.c (.ld 1 false (.t 104))),
   .op (some 106) (.c (.lenL (.t 105))),
   .op (some 107) (.c (.mv (.int .i64 0)))] [4, 105, 106, 107] [])
 (.block 10 (.loop [4, 105, 106, 107] ir13_l1)))
 (.seq (.rg [] [.op (some 149) (.c (.mv (.t 4))),
   .op (some 150) (.c (.nilc (.t 149))),
   .op (some 151) (.c (.fldA 0 0 (.t 150))),
   .op (some 152) (.c (.ld 1 false (.t 151))),
   .op (some 153) (.pcall 38 [(.t 152)]),
   .op (some 154) (.c (.ext (.t 153) 0)),
   .op (some 155) (.c (.ext (.t 153) 1)),
   .op (some 2) (.c (.mv (.t 154))),
   .op (some 3) (.c (.mv (.t 155)))] [2, 3] [])
 (.ret))))))))))
theorem ok13 : fnOk Tryz.prog 13 1 ir13 [.t 2, .t 3] = true := by kernel_rfl
def ir17 : S := .seq (.rg [] [.op (some 2) (.box 30 (.t 0)),
   .op (some 3) (.box 30 (.t 1)),
   .op (some 4) (.c (.mv (.bool false)))] [2, 3] [])
 (.seq (.rg [] [.op (some 5) (.c (.fldA 0 0 (.t 2))),
   .op (some 6) (.c (.ld 1 false (.t 5))),
   .op (some 7) (.c (.fldA 0 0 (.t 3))),
   .op (some 8) (.c (.ld 1 false (.t 7))),
   .op (some 9) (.pcall 48 [(.t 6), (.t 8)]),
   .op (some 10) (.c (.mv (.t 9))),
   .gop 10 true (some 11) (.c (.fldA 1 1 (.t 2))),
   .gop 10 true (some 12) (.c (.ld 1 false (.t 11))),
   .gop 10 true (some 13) (.c (.fldA 1 1 (.t 3))),
   .gop 10 true (some 14) (.c (.ld 1 false (.t 13))),
   .gop 10 true (some 15) (.pcall 49 [(.t 12), (.t 14)]),
   .op (some 16) (.c (.pick (.t 10) (.t 15) (.bool false))),
   .op (some 17) (.c (.mv (.t 16))),
   .gop 17 true (some 18) (.c (.fldA 2 2 (.t 2))),
   .gop 17 true (some 19) (.c (.ld 1 false (.t 18))),
   .gop 17 true (some 20) (.c (.fldA 2 2 (.t 3))),
   .gop 17 true (some 21) (.c (.ld 1 false (.t 20))),
   .gop 17 true (some 22) (.call 50 [(.t 19), (.t 21), (.fn 51)]),
   .op (some 23) (.c (.pick (.t 17) (.t 22) (.bool false))),
   .op (some 24) (.c (.mv (.t 23))),
   .gop 24 true (some 25) (.c (.fldA 3 3 (.t 2))),
   .gop 24 true (some 26) (.c (.ld 1 false (.t 25))),
   .gop 24 true (some 27) (.c (.fldA 3 3 (.t 3))),
   .gop 24 true (some 28) (.c (.ld 1 false (.t 27))),
   .gop 24 true (some 29) (.call 52 [(.t 26), (.t 28), (.fn 53)]),
   .op (some 30) (.c (.pick (.t 24) (.t 29) (.bool false))),
   .op (some 31) (.c (.mv (.t 30))),
   .gop 31 true (some 32) (.c (.fldA 4 4 (.t 2))),
   .gop 31 true (some 33) (.c (.ld 1 false (.t 32))),
   .gop 31 true (some 34) (.c (.fldA 4 4 (.t 3))),
   .gop 31 true (some 35) (.c (.ld 1 false (.t 34))),
   .gop 31 true (some 36) (.call 54 [(.t 33), (.t 35), (.fn 55)]),
   .op (some 37) (.c (.pick (.t 31) (.t 36) (.bool false))),
   .op (some 38) (.c (.mv (.t 37))),
   .gop 38 true (some 39) (.c (.fldA 5 5 (.t 2))),
   .gop 38 true (some 40) (.c (.ld 1 false (.t 39))),
   .gop 38 true (some 41) (.c (.fldA 5 5 (.t 3))),
   .gop 38 true (some 42) (.c (.ld 1 false (.t 41))),
   .gop 38 true (some 43) (.call 56 [(.t 40), (.t 42), (.fn 57)]),
   .op (some 44) (.c (.pick (.t 38) (.t 43) (.bool false))),
   .op (some 4) (.c (.mv (.t 44)))] [4] [])
 (.ret))
theorem ok17 : fnOk Tryz.prog 17 2 ir17 [.t 4] = true := by kernel_rfl
def ir28_l0 : S := .seq (.seq (.rg [] [.op (some 11) (.c (.mv (.t 5))),
   .op (some 12) (.c (.mv (.t 0))),
   .op (some 13) (.c (.lenL (.t 12))),
   .op (some 14) (.c (.bin .lss (.t 11) (.t 13)))] [0, 1, 5, 14] [])
 (.cond (.t 14) (.skip) (.exit 0)))
 (.seq (.block 1 (.seq (.rg [0, 1, 2, 4, 5, 6, 3, 7, 8] [.op (some 17) (.c (.mv (.t 0))),
   .op (some 18) (.c (.mv (.t 5))),
   .op (some 19) (.c (.idxA 1 (.t 17) (.t 18))),
   .op (some 21) (.c (.mv (.t 1))),
   .op (some 22) (.c (.mv (.t 5))),
   .op (some 23) (.c (.idxA 1 (.t 21) (.t 22))),
   .op (some 20) (.c (.ld 1 false (.t 19))),
   .op (some 24) (.c (.ld 1 false (.t 23))),
   .op (some 25) (.c (.bin .neq (.t 20) (.t 24)))] [0, 1, 5, 25] [])
 (.cond (.t 25) (.seq (.rg [] [.op (some 4) (.c (.mv (.bool false)))] [4] [])
 (.ret)) (.skip))))
 (.rg [] [.op (some 15) (.c (.mv (.t 5))),
   .op (some 16) (.c (.bin .add (.t 15) (.int .i64 1))),
   .op (some 5) (.c (.mv (.t 16)))] [0, 1, 5] []))
def ir28 : S := .seq (.rg [] [.op (some 4) (.c (.mv (.bool false)))] [0, 1] [])
 (.seq (.seq (.rg [] [.op (some 6) (.c (.mv (.t 0))),
   .op (some 7) (.c (.lenL (.t 6))),
   .op (some 8) (.c (.mv (.t 1))),
   .op (some 9) (.c (.lenL (.t 8))),
   .op (some 10) (.c (.bin .neq (.t 7) (.t 9)))] [0, 1, 10] [])
 (.cond (.t 10) (.seq (.rg [] [.op (some 4) (.c (.mv (.bool false)))] [4] [])
 (.ret)) (.skip)))
 (.seq (.seq (.rg [] [.op (some 5) (.c (.mv (.int .i64 0)))] [0, 1, 5] [])
 (.block 0 (.loop [0, 1, 5] ir28_l0)))
 (.seq (.rg [] [.op (some 4) (.c (.mv (.bool true)))] [4] [])
 (.ret))))
theorem ok28 : fnOk Tryz.prog 28 2 ir28 [.t 4] = true := by kernel_rfl
def ir30_l0 : S := .seq (.seq (.rg [] [.op (some 83) (.c (.mv (.t 7))),
   .op (some 84) (.c (.fldA 4 4 (.t 2))),
   .op (some 85) (.c (.ld 1 false (.t 84))),
   .op (some 86) (.c (.lenL (.t 85))),
   .op (some 87) (.c (.bin .lss (.t 83) (.t 86)))] [2, 3, 7, 87] [])
 (.cond (.t 87) (.skip) (.exit 4)))
 (.seq (.block 5 (.seq (.rg [0, 2, 5, 7, 1, 3, 4, 6, 8, 9, 10] [.op (some 90) (.c (.fldA 4 4 (.t 2))),
   .op (some 92) (.c (.mv (.t 7))),
   .op (some 95) (.c (.fldA 4 4 (.t 3))),
   .op (some 97) (.c (.mv (.t 7))),
   .op (some 91) (.c (.ld 1 false (.t 90))),
   .op (some 93) (.c (.idxA 7 (.t 91) (.t 92))),
   .op (some 94) (.c (.ld 7 true (.t 93))),
   .op (some 96) (.c (.ld 1 false (.t 95))),
   .op (some 98) (.c (.idxA 7 (.t 96) (.t 97))),
   .op (some 99) (.c (.ld 7 true (.t 98))),
   .op (some 100) (.c (.eqD (.st [.str, .int .i64, .st [.str, .str, .int .i64, .int .i64, .int .i64]]) false (.t 94) (.t 99)))] [2, 3, 7, 100] [])
 (.cond (.t 100) (.seq (.rg [] [.op (some 4) (.c (.mv (.bool false)))] [4] [])
 (.ret)) (.skip))))
 (.rg [] [.op (some 88) (.c (.mv (.t 7))),
   .op (some 89) (.c (.bin .add (.t 88) (.int .i64 1))),
   .op (some 7) (.c (.mv (.t 89)))] [2, 3, 7] []))
def ir30_l1 : S := .seq (.seq (.rg [] [.op (some 65) (.c (.mv (.t 6))),
   .op (some 66) (.c (.fldA 3 3 (.t 2))),
   .op (some 67) (.c (.ld 1 false (.t 66))),
   .op (some 68) (.c (.lenL (.t 67))),
   .op (some 69) (.c (.bin .lss (.t 65) (.t 68)))] [2, 3, 6, 69] [])
 (.cond (.t 69) (.skip) (.exit 2)))
 (.seq (.block 3 (.seq (.rg [0, 2, 5, 7, 1, 3, 4, 6, 8, 9, 10] [.op (some 72) (.c (.fldA 3 3 (.t 2))),
   .op (some 74) (.c (.mv (.t 6))),
   .op (some 77) (.c (.fldA 3 3 (.t 3))),
   .op (some 79) (.c (.mv (.t 6))),
   .op (some 73) (.c (.ld 1 false (.t 72))),
   .op (some 75) (.c (.idxA 11 (.t 73) (.t 74))),
   .op (some 76) (.c (.ld 11 true (.t 75))),
   .op (some 78) (.c (.ld 1 false (.t 77))),
   .op (some 80) (.c (.idxA 11 (.t 78) (.t 79))),
   .op (some 81) (.c (.ld 11 true (.t 80))),
   .op (some 82) (.c (.eqD (.st [.int .i64, .st [.str, .str, .int .i64, .int .i64, .int .i64], .st [.str, .str, .int .i64, .int .i64, .int .i64]]) false (.t 76) (.t 81)))] [2, 3, 6, 82] [])
 (.cond (.t 82) (.seq (.rg [] [.op (some 4) (.c (.mv (.bool false)))] [4] [])
 (.ret)) (.skip))))
 (.rg [] [.op (some 70) (.c (.mv (.t 6))),
   .op (some 71) (.c (.bin .add (.t 70) (.int .i64 1))),
   .op (some 6) (.c (.mv (.t 71)))] [2, 3, 6] []))
def ir30_l2 : S := .seq (.seq (.rg [] [.op (some 47) (.c (.mv (.t 5))),
   .op (some 48) (.c (.fldA 2 2 (.t 2))),
   .op (some 49) (.c (.ld 1 false (.t 48))),
   .op (some 50) (.c (.lenL (.t 49))),
   .op (some 51) (.c (.bin .lss (.t 47) (.t 50)))] [2, 3, 5, 51] [])
 (.cond (.t 51) (.skip) (.exit 0)))
 (.seq (.block 1 (.seq (.rg [0, 2, 5, 7, 1, 3, 4, 6, 8, 9, 10] [.op (some 54) (.c (.fldA 2 2 (.t 2))),
   .op (some 56) (.c (.mv (.t 5))),
   .op (some 59) (.c (.fldA 2 2 (.t 3))),
   .op (some 61) (.c (.mv (.t 5))),
   .op (some 55) (.c (.ld 1 false (.t 54))),
   .op (some 57) (.c (.idxA 8 (.t 55) (.t 56))),
   .op (some 58) (.c (.ld 8 true (.t 57))),
   .op (some 60) (.c (.ld 1 false (.t 59))),
   .op (some 62) (.c (.idxA 8 (.t 60) (.t 61))),
   .op (some 63) (.c (.ld 8 true (.t 62))),
   .op (some 64) (.c (.eqD (.st [.str, .str, .int .i64, .st [.str, .str, .int .i64, .int .i64, .int .i64]]) false (.t 58) (.t 63)))] [2, 3, 5, 64] [])
 (.cond (.t 64) (.seq (.rg [] [.op (some 4) (.c (.mv (.bool false)))] [4] [])
 (.ret)) (.skip))))
 (.rg [] [.op (some 52) (.c (.mv (.t 5))),
   .op (some 53) (.c (.bin .add (.t 52) (.int .i64 1))),
   .op (some 5) (.c (.mv (.t 53)))] [2, 3, 5] []))
def ir30 : S := .seq (.rg [] [.op (some 2) (.box 50 (.t 0)),
   .op (some 3) (.box 50 (.t 1)),
   .op (some 4) (.c (.mv (.bool false)))] [2, 3] [])
 (.seq (.seq (.rg [] [.op (some 8) (.c (.fldA 0 0 (.t 2))),
   .op (some 9) (.c (.ld 1 false (.t 8))),
   .op (some 10) (.c (.fldA 0 0 (.t 3))),
   .op (some 11) (.c (.ld 1 false (.t 10))),
   .op (some 12) (.c (.bin .neq (.t 9) (.t 11))),
   .op (some 13) (.c (.mv (.t 12))),
   .gop 13 false (some 14) (.c (.fldA 1 1 (.t 2))),
   .gop 13 false (some 15) (.c (.ld 1 false (.t 14))),
   .gop 13 false (some 16) (.c (.fldA 1 1 (.t 3))),
   .gop 13 false (some 17) (.c (.ld 1 false (.t 16))),
   .gop 13 false (some 18) (.c (.bin .neq (.t 15) (.t 17))),
   .op (some 19) (.c (.pick (.t 13) (.bool true) (.t 18))),
   .op (some 20) (.c (.mv (.t 19))),
   .gop 20 false (some 21) (.c (.fldA 2 2 (.t 2))),
   .gop 20 false (some 22) (.c (.ld 1 false (.t 21))),
   .gop 20 false (some 23) (.c (.lenL (.t 22))),
   .gop 20 false (some 24) (.c (.fldA 2 2 (.t 3))),
   .gop 20 false (some 25) (.c (.ld 1 false (.t 24))),
   .gop 20 false (some 26) (.c (.lenL (.t 25))),
   .gop 20 false (some 27) (.c (.bin .neq (.t 23) (.t 26))),
   .op (some 28) (.c (.pick (.t 20) (.bool true) (.t 27))),
   .op (some 29) (.c (.mv (.t 28))),
   .gop 29 false (some 30) (.c (.fldA 3 3 (.t 2))),
   .gop 29 false (some 31) (.c (.ld 1 false (.t 30))),
   .gop 29 false (some 32) (.c (.lenL (.t 31))),
   .gop 29 false (some 33) (.c (.fldA 3 3 (.t 3))),
   .gop 29 false (some 34) (.c (.ld 1 false (.t 33))),
   .gop 29 false (some 35) (.c (.lenL (.t 34))),
   .gop 29 false (some 36) (.c (.bin .neq (.t 32) (.t 35))),
   .op (some 37) (.c (.pick (.t 29) (.bool true) (.t 36))),
   .op (some 38) (.c (.mv (.t 37))),
   .gop 38 false (some 39) (.c (.fldA 4 4 (.t 2))),
   .gop 38 false (some 40) (.c (.ld 1 false (.t 39))),
   .gop 38 false (some 41) (.c (.lenL (.t 40))),
   .gop 38 false (some 42) (.c (.fldA 4 4 (.t 3))),
   .gop 38 false (some 43) (.c (.ld 1 false (.t 42))),
   .gop 38 false (some 44) (.c (.lenL (.t 43))),
   .gop 38 false (some 45) (.c (.bin .neq (.t 41) (.t 44))),
   .op (some 46) (.c (.pick (.t 38) (.bool true) (.t 45)))] [2, 3, 46] [])
 (.cond (.t 46) (.seq (.rg [] [.op (some 4) (.c (.mv (.bool false)))] [4] [])
 (.ret)) (.skip)))
 (.seq (.seq (.rg [] [.op (some 5) (.c (.mv (.int .i64 0)))] [2, 3, 5] [])
 (.block 0 (.loop [2, 3, 5] ir30_l2)))
 (.seq (.seq (.rg [] [.op (some 6) (.c (.mv (.int .i64 0)))] [2, 3, 6] [])
 (.block 2 (.loop [2, 3, 6] ir30_l1)))
 (.seq (.seq (.rg [] [.op (some 7) (.c (.mv (.int .i64 0)))] [2, 3, 7] [])
 (.block 4 (.loop [2, 3, 7] ir30_l0)))
 (.seq (.rg [] [.op (some 4) (.c (.mv (.bool true)))] [4] [])
 (.ret))))))
theorem ok30 : fnOk Tryz.prog 30 2 ir30 [.t 4] = true := by kernel_rfl
def ir33 : S := .seq (.rg [] [.op (some 1) (.box 30 (.t 0)),
   .op (some 2) (.c (.mv (.bool false)))] [1] [])
 (.seq (.rg [] [.op (some 3) (.c (.fldA 0 0 (.t 1))),
   .op (some 4) (.c (.ld 1 false (.t 3))),
   .op (some 5) (.call 99 [(.t 4), (.int .i64 8), (.fn 100)]),
   .op (some 6) (.c (.mv (.t 5))),
   .gop 6 true (some 7) (.c (.fldA 1 1 (.t 1))),
   .gop 6 true (some 8) (.c (.ld 1 false (.t 7))),
   .gop 6 true (some 9) (.call 101 [(.t 8), (.int .i64 16), (.fn 102)]),
   .op (some 10) (.c (.pick (.t 6) (.t 9) (.bool false))),
   .op (some 11) (.c (.mv (.t 10))),
   .gop 11 true (some 12) (.c (.fldA 2 2 (.t 1))),
   .gop 11 true (some 13) (.c (.ld 1 false (.t 12))),
   .gop 11 true (some 14) (.call 103 [(.t 13), (.int .i64 16), (.fn 104)]),
   .op (some 15) (.c (.pick (.t 11) (.t 14) (.bool false))),
   .op (some 16) (.c (.mv (.t 15))),
   .gop 16 true (some 17) (.c (.fldA 3 3 (.t 1))),
   .gop 16 true (some 18) (.c (.ld 1 false (.t 17))),
   .gop 16 true (some 19) (.call 105 [(.t 18), (.int .i64 16), (.fn 106)]),
   .op (some 20) (.c (.pick (.t 16) (.t 19) (.bool false))),
   .op (some 21) (.c (.mv (.t 20))),
   .gop 21 true (some 22) (.c (.fldA 4 4 (.t 1))),
   .gop 21 true (some 23) (.c (.ld 1 false (.t 22))),
   .gop 21 true (some 24) (.call 107 [(.t 23), (.int .i64 16), (.fn 108)]),
   .op (some 25) (.c (.pick (.t 21) (.t 24) (.bool false))),
   .op (some 26) (.c (.mv (.t 25))),
   .gop 26 true (some 27) (.c (.fldA 5 5 (.t 1))),
   .gop 26 true (some 28) (.c (.ld 1 false (.t 27))),
   .gop 26 true (some 29) (.call 109 [(.t 28), (.int .i64 8), (.fn 110)]),
   .op (some 30) (.c (.pick (.t 26) (.t 29) (.bool false))),
   .op (some 2) (.c (.mv (.t 30)))] [2] [])
 (.ret))
theorem ok33 : fnOk Tryz.prog 33 1 ir33 [.t 2] = true := by kernel_rfl
def ir34_s0 : S := .rg [] [.op (some 144) (.c (.bin .add (.t 20) (.int .i64 1))),
   .op (some 20) (.c (.mv (.t 144)))] [0, 18, 19, 20] []
def ir34_s1 : S := .rg [] [.op (some 102) (.c (.bin .add (.t 86) (.int .i64 1))),
   .op (some 86) (.c (.mv (.t 102)))] [0, 18, 19, 20, 84, 85, 86] []
def ir34_s2 : S := .rg [] [.op (some 97) (.c (.mv (.t 0))),
   .op (some 98) (.c (.mv (.t 12))),
   .op (some 99) (.c (.mki 9 (.t 98))),
   .op (some 100) (.bls 1 [.nili] [(0, (.t 99))]),
   .op (some 101) (.call 34 [(.t 97), (.t 100)])] [0, 18, 19, 20, 84, 85, 86] []
def ir34_l3 : S := .seq (.rg [] [.op (some 87) (.c (.bin .lss (.t 86) (.t 85)))] [0, 18, 19, 20, 84, 85, 86, 87] [])
 (.seq (.cond (.t 87) (.skip) (.exit 3))
 (.seq (.block 4 (.seq (.rg [] [.op (some 88) (.c (.mv (.t 86))),
   .op (some 89) (.c (.idxA 1 (.t 84) (.t 86))),
   .op (some 90) (.c (.ld 1 false (.t 89))),
   .op (some 11) (.c (.mv (.t 88))),
   .op (some 12) (.c (.mv (.t 90)))] [0, 11, 12, 18, 19, 20, 84, 85, 86] [])
 (.seq (.seq (.rg [] [.op (some 91) (.c (.mv (.t 11))),
   .op (some 92) (.c (.bin .gtr (.t 91) (.int .i64 0)))] [0, 12, 18, 19, 20, 84, 85, 86, 92] [])
 (.cond (.t 92) (.rg [] [.op (some 93) (.c (.mv (.t 0))),
   .op (some 94) (.c (.mki 102 (.str [44]))),
   .op (some 95) (.bls 1 [.nili] [(0, (.t 94))]),
   .op (some 96) (.call 34 [(.t 93), (.t 95)])] [0, 12, 18, 19, 20, 84, 85, 86] []) (.skip)))
 (ir34_s2))))
 (ir34_s1)))
def ir34_l4 : S := .seq (.rg [] [.op (some 108) (.c (.bin .lss (.t 107) (.int .i64 4)))] [0, 18, 19, 20, 106, 107, 108] [])
 (.seq (.cond (.t 108) (.skip) (.exit 5))
 (.seq (.block 6 (.seq (.rg [] [.op (some 109) (.c (.aix 4 1 false (.t 106) (.t 107))),
   .op (some 15) (.c (.mv (.t 109)))] [0, 15, 18, 19, 20, 106, 107] [])
 (.rg [] [.op (some 110) (.c (.mv (.t 0))),
   .op (some 111) (.c (.mv (.t 15))),
   .op (some 112) (.c (.mki 3 (.t 111))),
   .op (some 113) (.bls 1 [.nili] [(0, (.t 112))]),
   .op (some 114) (.call 34 [(.t 110), (.t 113)])] [0, 18, 19, 20, 106, 107] [])))
 (.rg [] [.op (some 115) (.c (.bin .add (.t 107) (.int .i64 1))),
   .op (some 107) (.c (.mv (.t 115)))] [0, 18, 19, 20, 106, 107] [])))
def ir34_l5 : S := .seq (.rg [] [.op (some 21) (.c (.bin .lss (.t 20) (.t 19)))] [0, 18, 19, 20, 21] [])
 (.seq (.cond (.t 21) (.skip) (.exit 0))
 (.seq (.block 1 (.seq (.rg [] [.op (some 22) (.c (.idxA 1 (.t 18) (.t 20))),
   .op (some 23) (.c (.ld 1 false (.t 22))),
   .op (some 5) (.c (.mv (.t 23)))] [0, 5, 18, 19, 20] [])
 (.seq (.rg [] [.op (some 24) (.c (.mv (.t 5)))] [0, 18, 19, 20, 24] [])
 (.block 2 (.seq (.rg [] [.op (some 25) (.c (.tas 101 (.str []) (.t 24))),
   .op (some 26) (.c (.ext (.t 25) 1)),
   .op (some 27) (.c (.ext (.t 25) 0))] [0, 18, 19, 20, 24, 26, 27] [])
 (.cond (.t 26) (.seq (.rg [] [.op (some 6) (.c (.mv (.t 27)))] [0, 6, 18, 19, 20] [])
 (.rg [] [.op (some 28) (.c (.mv (.t 0))),
   .op (some 29) (.c (.mv (.t 0))),
   .op (some 30) (.c (.nilc (.t 29))),
   .op (some 31) (.c (.fldA 0 0 (.t 30))),
   .op (some 32) (.c (.ld 1 false (.t 31))),
   .op (some 33) (.c (.mv (.t 6))),
   .op (some 34) (.c (.bld [.int .i64 0, .str [], .int .i64 0, .int .i64 0] [(0, (.int .i64 1)), (1, (.t 33))])),
   .op (some 35) (.bls 4 [.agg [.int .i64 0, .str [], .int .i64 0, .int .i64 0]] [(0, (.t 34))]),
   .op (some 36) (.app 44 4 40 (.t 32) (.t 35)),
   .op (some 37) (.c (.nilc (.t 28))),
   .op (some 38) (.c (.fldA 0 0 (.t 37))),
   .op none (.st 1 (.t 38) (.t 36))] [0, 18, 19, 20] [])) (.seq (.rg [] [.op (some 39) (.c (.tas 9 (.str []) (.t 24))),
   .op (some 40) (.c (.ext (.t 39) 1)),
   .op (some 41) (.c (.ext (.t 39) 0))] [0, 18, 19, 20, 24, 40, 41] [])
 (.cond (.t 40) (.seq (.rg [] [.op (some 7) (.c (.mv (.t 41)))] [0, 7, 18, 19, 20] [])
 (.rg [] [.op (some 42) (.c (.mv (.t 0))),
   .op (some 43) (.c (.mv (.t 0))),
   .op (some 44) (.c (.nilc (.t 43))),
   .op (some 45) (.c (.fldA 0 0 (.t 44))),
   .op (some 46) (.c (.ld 1 false (.t 45))),
   .op (some 47) (.c (.mv (.t 7))),
   .op (some 48) (.c (.bld [.int .i64 0, .str [], .int .i64 0, .int .i64 0] [(0, (.int .i64 1)), (1, (.t 47))])),
   .op (some 49) (.bls 4 [.agg [.int .i64 0, .str [], .int .i64 0, .int .i64 0]] [(0, (.t 48))]),
   .op (some 50) (.app 44 4 40 (.t 46) (.t 49)),
   .op (some 51) (.c (.nilc (.t 42))),
   .op (some 52) (.c (.fldA 0 0 (.t 51))),
   .op none (.st 1 (.t 52) (.t 50))] [0, 18, 19, 20] [])) (.seq (.rg [] [.op (some 53) (.c (.tas 102 (.str []) (.t 24))),
   .op (some 54) (.c (.ext (.t 53) 1)),
   .op (some 55) (.c (.ext (.t 53) 0))] [0, 18, 19, 20, 24, 54, 55] [])
 (.cond (.t 54) (.seq (.rg [] [.op (some 8) (.c (.mv (.t 55)))] [0, 8, 18, 19, 20] [])
 (.rg [] [.op (some 56) (.c (.mv (.t 0))),
   .op (some 57) (.c (.mv (.t 0))),
   .op (some 58) (.c (.nilc (.t 57))),
   .op (some 59) (.c (.fldA 0 0 (.t 58))),
   .op (some 60) (.c (.ld 1 false (.t 59))),
   .op (some 61) (.c (.mv (.t 8))),
   .op (some 62) (.c (.bld [.int .i64 0, .str [], .int .i64 0, .int .i64 0] [(0, (.int .i64 3)), (1, (.t 61))])),
   .op (some 63) (.bls 4 [.agg [.int .i64 0, .str [], .int .i64 0, .int .i64 0]] [(0, (.t 62))]),
   .op (some 64) (.app 44 4 40 (.t 60) (.t 63)),
   .op (some 65) (.c (.nilc (.t 56))),
   .op (some 66) (.c (.fldA 0 0 (.t 65))),
   .op none (.st 1 (.t 66) (.t 64))] [0, 18, 19, 20] [])) (.seq (.rg [] [.op (some 67) (.c (.tas 3 (.int .i64 0) (.t 24))),
   .op (some 68) (.c (.ext (.t 67) 1)),
   .op (some 69) (.c (.ext (.t 67) 0))] [0, 18, 19, 20, 24, 68, 69] [])
 (.cond (.t 68) (.seq (.rg [] [.op (some 9) (.c (.mv (.t 69)))] [0, 9, 18, 19, 20] [])
 (.rg [] [.op (some 70) (.c (.mv (.t 0))),
   .op (some 71) (.c (.mv (.t 0))),
   .op (some 72) (.c (.nilc (.t 71))),
   .op (some 73) (.c (.fldA 0 0 (.t 72))),
   .op (some 74) (.c (.ld 1 false (.t 73))),
   .op (some 75) (.c (.mv (.t 9))),
   .op (some 76) (.c (.bld [.int .i64 0, .str [], .int .i64 0, .int .i64 0] [(0, (.int .i64 2)), (2, (.t 75))])),
   .op (some 77) (.bls 4 [.agg [.int .i64 0, .str [], .int .i64 0, .int .i64 0]] [(0, (.t 76))]),
   .op (some 78) (.app 44 4 40 (.t 74) (.t 77)),
   .op (some 79) (.c (.nilc (.t 70))),
   .op (some 80) (.c (.fldA 0 0 (.t 79))),
   .op none (.st 1 (.t 80) (.t 78))] [0, 18, 19, 20] [])) (.seq (.rg [] [.op (some 81) (.c (.tas 23 (.nils) (.t 24))),
   .op (some 82) (.c (.ext (.t 81) 1)),
   .op (some 83) (.c (.ext (.t 81) 0))] [0, 18, 19, 20, 24, 82, 83] [])
 (.cond (.t 82) (.seq (.rg [] [.op (some 10) (.c (.mv (.t 83)))] [0, 10, 18, 19, 20] [])
 (.seq (.rg [] [.op (some 84) (.c (.mv (.t 10))),
   .op (some 85) (.c (.lenL (.t 84))),
   .op (some 86) (.c (.mv (.int .i64 0)))] [0, 18, 19, 20, 84, 85, 86] [])
 (.block 3 (.loop [0, 18, 19, 20, 84, 85, 86] ir34_l3)))) (.seq (.rg [] [.op (some 103) (.c (.tas 91 (.agg (List.replicate 4 (.int .i64 0))) (.t 24))),
   .op (some 104) (.c (.ext (.t 103) 1)),
   .op (some 105) (.c (.ext (.t 103) 0))] [0, 18, 19, 20, 24, 104, 105] [])
 (.cond (.t 104) (.seq (.rg [] [.op (some 13) (.alloc 91 (.agg (List.replicate 4 (.int .i64 0)))),
   .op none (.st 4 (.t 13) (.t 105))] [0, 13, 18, 19, 20] [])
 (.seq (.rg [] [.op (some 106) (.c (.ld 4 true (.t 13))),
   .op (some 107) (.c (.mv (.int .i64 0)))] [0, 18, 19, 20, 106, 107] [])
 (.block 5 (.loop [0, 18, 19, 20, 106, 107] ir34_l4)))) (.seq (.rg [] [.op (some 116) (.c (.tas 90 (.agg [.int .i64 0, .int .i64 0, .int .i64 0, .str [], .int .i64 0, .nils]) (.t 24))),
   .op (some 117) (.c (.ext (.t 116) 1)),
   .op (some 118) (.c (.ext (.t 116) 0))] [0, 18, 19, 20, 24, 117, 118] [])
 (.cond (.t 117) (.seq (.rg [] [.op (some 16) (.alloc 90 (.agg [.int .i64 0, .int .i64 0, .int .i64 0, .str [], .int .i64 0, .nils])),
   .op none (.st 6 (.t 16) (.t 118))] [0, 16, 18, 19, 20] [])
 (.rg [] [.op (some 119) (.c (.mv (.t 0))),
   .op (some 120) (.c (.ld 6 true (.t 16))),
   .op (some 121) (.call 111 [(.t 119), (.t 120)])] [0, 18, 19, 20] [])) (.seq (.rg [] [.op (some 122) (.c (.tas 52 (.agg [.str [], .str [], .int .i64 0, .int .i64 0, .int .i64 0]) (.t 24))),
   .op (some 123) (.c (.ext (.t 122) 1)),
   .op (some 124) (.c (.ext (.t 122) 0))] [0, 18, 19, 20, 123, 124] [])
 (.cond (.t 123) (.seq (.rg [] [.op (some 17) (.alloc 52 (.agg [.str [], .str [], .int .i64 0, .int .i64 0, .int .i64 0])),
   .op none (.st 5 (.t 17) (.t 124))] [0, 17, 18, 19, 20] [])
 (.seq (.rg [] [.op (some 125) (.c (.fldA 0 0 (.t 17))),
   .op (some 126) (.c (.ld 1 false (.t 125))),
   .op (some 127) (.c (.bin .eql (.t 126) (.str [])))] [0, 17, 18, 19, 20, 127] [])
 (.cond (.t 127) (.rg [] [.op (some 128) (.c (.mv (.t 0))),
   .op (some 129) (.c (.fldA 4 4 (.t 17))),
   .op (some 130) (.c (.ld 1 false (.t 129))),
   .op (some 131) (.c (.mki 3 (.t 130))),
   .op (some 132) (.bls 1 [.nili] [(0, (.t 131))]),
   .op (some 133) (.call 34 [(.t 128), (.t 132)])] [0, 18, 19, 20] []) (.rg [] [.op (some 134) (.c (.mv (.t 0))),
   .op (some 135) (.c (.fldA 0 0 (.t 17))),
   .op (some 136) (.c (.ld 1 false (.t 135))),
   .op (some 137) (.c (.mki 9 (.t 136))),
   .op (some 138) (.c (.mki 102 (.str [46]))),
   .op (some 139) (.c (.fldA 1 1 (.t 17))),
   .op (some 140) (.c (.ld 1 false (.t 139))),
   .op (some 141) (.c (.mki 9 (.t 140))),
   .op (some 142) (.bls 1 [.nili, .nili, .nili] [(0, (.t 137)), (1, (.t 138)), (2, (.t 141))]),
   .op (some 143) (.call 34 [(.t 134), (.t 142)])] [0, 18, 19, 20] [])))) (.skip)))))))))))))))))))))
 (ir34_s0)))
def ir34 : S := .seq (.rg [] [.op (some 18) (.c (.mv (.t 1))),
   .op (some 19) (.c (.lenL (.t 18))),
   .op (some 20) (.c (.mv (.int .i64 0)))] [0, 18, 19, 20] [])
 (.block 0 (.loop [0, 18, 19, 20] ir34_l5))
theorem ok34 : fnOk Tryz.prog 34 2 ir34 [] = true := by kernel_rfl
def ir48_l0 : S := .seq (.rg [] [.op (some 14) (.c (.bin .lss (.t 13) (.t 12)))] [0, 1, 12, 13, 14] [])
 (.seq (.cond (.t 14) (.skip) (.exit 0))
 (.seq (.block 1 (.seq (.rg [] [.op (some 15) (.c (.mv (.t 13))),
   .op (some 5) (.c (.mv (.t 15)))] [0, 1, 5, 12, 13] [])
 (.seq (.rg [0, 1, 2, 4, 5, 6, 3, 7, 8] [.op (some 16) (.c (.mv (.t 0))),
   .op (some 17) (.c (.mv (.t 5))),
   .op (some 18) (.c (.idxA 1 (.t 16) (.t 17))),
   .op (some 20) (.c (.mv (.t 1))),
   .op (some 21) (.c (.mv (.t 5))),
   .op (some 22) (.c (.idxA 1 (.t 20) (.t 21))),
   .op (some 19) (.c (.ld 1 false (.t 18))),
   .op (some 23) (.c (.ld 1 false (.t 22))),
   .op (some 24) (.c (.bin .neq (.t 19) (.t 23)))] [0, 1, 12, 13, 24] [])
 (.cond (.t 24) (.seq (.rg [] [.op (some 4) (.c (.mv (.bool false)))] [4] [])
 (.ret)) (.skip)))))
 (.rg [] [.op (some 25) (.c (.bin .add (.t 13) (.int .i64 1))),
   .op (some 13) (.c (.mv (.t 25)))] [0, 1, 12, 13] [])))
def ir48 : S := .seq (.rg [] [.op (some 4) (.c (.mv (.bool false)))] [0, 1] [])
 (.seq (.seq (.rg [] [.op (some 6) (.c (.mv (.t 0))),
   .op (some 7) (.c (.lenL (.t 6))),
   .op (some 8) (.c (.mv (.t 1))),
   .op (some 9) (.c (.lenL (.t 8))),
   .op (some 10) (.c (.bin .neq (.t 7) (.t 9)))] [0, 1, 10] [])
 (.cond (.t 10) (.seq (.rg [] [.op (some 4) (.c (.mv (.bool false)))] [4] [])
 (.ret)) (.skip)))
 (.seq (.seq (.rg [] [.op (some 11) (.c (.mv (.t 0))),
   .op (some 12) (.c (.lenL (.t 11))),
   .op (some 13) (.c (.mv (.int .i64 0)))] [0, 1, 12, 13] [])
 (.block 0 (.loop [0, 1, 12, 13] ir48_l0)))
 (.seq (.rg [] [.op (some 4) (.c (.mv (.bool true)))] [4] [])
 (.ret))))
theorem ok48 : fnOk Tryz.prog 48 2 ir48 [.t 4] = true := by kernel_rfl
def ir49_l0 : S := .seq (.rg [] [.op (some 14) (.c (.bin .lss (.t 13) (.t 12)))] [0, 1, 12, 13, 14] [])
 (.seq (.cond (.t 14) (.skip) (.exit 0))
 (.seq (.block 1 (.seq (.rg [] [.op (some 15) (.c (.mv (.t 13))),
   .op (some 5) (.c (.mv (.t 15)))] [0, 1, 5, 12, 13] [])
 (.seq (.rg [0, 1, 2, 4, 5, 6, 3, 7, 8] [.op (some 16) (.c (.mv (.t 0))),
   .op (some 17) (.c (.mv (.t 5))),
   .op (some 18) (.c (.idxA 5 (.t 16) (.t 17))),
   .op (some 20) (.c (.mv (.t 1))),
   .op (some 21) (.c (.mv (.t 5))),
   .op (some 22) (.c (.idxA 5 (.t 20) (.t 21))),
   .op (some 19) (.c (.ld 5 true (.t 18))),
   .op (some 23) (.c (.ld 5 true (.t 22))),
   .op (some 24) (.c (.eqD (.st [.str, .str, .int .i64, .int .i64, .int .i64]) false (.t 19) (.t 23)))] [0, 1, 12, 13, 24] [])
 (.cond (.t 24) (.seq (.rg [] [.op (some 4) (.c (.mv (.bool false)))] [4] [])
 (.ret)) (.skip)))))
 (.rg [] [.op (some 25) (.c (.bin .add (.t 13) (.int .i64 1))),
   .op (some 13) (.c (.mv (.t 25)))] [0, 1, 12, 13] [])))
def ir49 : S := .seq (.rg [] [.op (some 4) (.c (.mv (.bool false)))] [0, 1] [])
 (.seq (.seq (.rg [] [.op (some 6) (.c (.mv (.t 0))),
   .op (some 7) (.c (.lenL (.t 6))),
   .op (some 8) (.c (.mv (.t 1))),
   .op (some 9) (.c (.lenL (.t 8))),
   .op (some 10) (.c (.bin .neq (.t 7) (.t 9)))] [0, 1, 10] [])
 (.cond (.t 10) (.seq (.rg [] [.op (some 4) (.c (.mv (.bool false)))] [4] [])
 (.ret)) (.skip)))
 (.seq (.seq (.rg [] [.op (some 11) (.c (.mv (.t 0))),
   .op (some 12) (.c (.lenL (.t 11))),
   .op (some 13) (.c (.mv (.int .i64 0)))] [0, 1, 12, 13] [])
 (.block 0 (.loop [0, 1, 12, 13] ir49_l0)))
 (.seq (.rg [] [.op (some 4) (.c (.mv (.bool true)))] [4] [])
 (.ret))))
theorem ok49 : fnOk Tryz.prog 49 2 ir49 [.t 4] = true := by kernel_rfl
def ir50_l0 : S := .seq (.rg [] [.op (some 18) (.c (.bin .lss (.t 17) (.t 16)))] [1, 2, 15, 16, 17, 18] [])
 (.seq (.cond (.t 18) (.skip) (.exit 0))
 (.seq (.block 1 (.seq (.rg [] [.op (some 19) (.c (.mv (.t 17))),
   .op (some 20) (.c (.idxA 6 (.t 15) (.t 17))),
   .op (some 21) (.c (.ld 6 true (.t 20))),
   .op (some 8) (.alloc 79 (.agg [.str [], .str [], .int .i64 0, .int .i64 0, .nils, .nils])),
   .op (some 7) (.c (.mv (.t 19))),
   .op none (.st 6 (.t 8) (.t 21))] [1, 2, 7, 8, 15, 16, 17] [])
 (.seq (.rg [] [.op (some 22) (.c (.mv (.t 1))),
   .op (some 23) (.c (.mv (.t 7))),
   .op (some 24) (.c (.idxA 6 (.t 22) (.t 23))),
   .op (some 25) (.c (.ld 6 true (.t 24))),
   .op (some 9) (.alloc 79 (.agg [.str [], .str [], .int .i64 0, .int .i64 0, .nils, .nils])),
   .op none (.st 6 (.t 9) (.t 25))] [1, 2, 8, 9, 15, 16, 17] [])
 (.seq (.rg [] [.op (some 26) (.c (.mv (.t 2))),
   .op (some 27) (.c (.ld 6 true (.t 8))),
   .op (some 28) (.c (.ld 6 true (.t 9))),
   .op (some 29) (.callv (.t 26) [(.t 27), (.t 28)]),
   .op (some 30) (.c (.not (.t 29)))] [1, 2, 15, 16, 17, 30] [])
 (.cond (.t 30) (.seq (.rg [] [.op (some 6) (.c (.mv (.bool false)))] [6] [])
 (.ret)) (.skip))))))
 (.rg [] [.op (some 31) (.c (.bin .add (.t 17) (.int .i64 1))),
   .op (some 17) (.c (.mv (.t 31)))] [1, 2, 15, 16, 17] [])))
def ir50 : S := .seq (.rg [] [.op (some 6) (.c (.mv (.bool false)))] [0, 1, 2] [])
 (.seq (.seq (.rg [] [.op (some 10) (.c (.mv (.t 0))),
   .op (some 11) (.c (.lenL (.t 10))),
   .op (some 12) (.c (.mv (.t 1))),
   .op (some 13) (.c (.lenL (.t 12))),
   .op (some 14) (.c (.bin .neq (.t 11) (.t 13)))] [0, 1, 2, 14] [])
 (.cond (.t 14) (.seq (.rg [] [.op (some 6) (.c (.mv (.bool false)))] [6] [])
 (.ret)) (.skip)))
 (.seq (.seq (.rg [] [.op (some 15) (.c (.mv (.t 0))),
   .op (some 16) (.c (.lenL (.t 15))),
   .op (some 17) (.c (.mv (.int .i64 0)))] [1, 2, 15, 16, 17] [])
 (.block 0 (.loop [1, 2, 15, 16, 17] ir50_l0)))
 (.seq (.rg [] [.op (some 6) (.c (.mv (.bool true)))] [6] [])
 (.ret))))
theorem ok50 : fnOk Tryz.prog 50 3 ir50 [.t 6] = true := by kernel_rfl
def ir52_l0 : S := .seq (.rg [] [.op (some 18) (.c (.bin .lss (.t 17) (.t 16)))] [1, 2, 15, 16, 17, 18] [])
 (.seq (.cond (.t 18) (.skip) (.exit 0))
 (.seq (.block 1 (.seq (.rg [] [.op (some 19) (.c (.mv (.t 17))),
   .op (some 20) (.c (.idxA 5 (.t 15) (.t 17))),
   .op (some 21) (.c (.ld 5 true (.t 20))),
   .op (some 8) (.alloc 50 (.agg [.str [], .int .i64 0, .nils, .nils, .nils])),
   .op (some 7) (.c (.mv (.t 19))),
   .op none (.st 5 (.t 8) (.t 21))] [1, 2, 7, 8, 15, 16, 17] [])
 (.seq (.rg [] [.op (some 22) (.c (.mv (.t 1))),
   .op (some 23) (.c (.mv (.t 7))),
   .op (some 24) (.c (.idxA 5 (.t 22) (.t 23))),
   .op (some 25) (.c (.ld 5 true (.t 24))),
   .op (some 9) (.alloc 50 (.agg [.str [], .int .i64 0, .nils, .nils, .nils])),
   .op none (.st 5 (.t 9) (.t 25))] [1, 2, 8, 9, 15, 16, 17] [])
 (.seq (.rg [] [.op (some 26) (.c (.mv (.t 2))),
   .op (some 27) (.c (.ld 5 true (.t 8))),
   .op (some 28) (.c (.ld 5 true (.t 9))),
   .op (some 29) (.callv (.t 26) [(.t 27), (.t 28)]),
   .op (some 30) (.c (.not (.t 29)))] [1, 2, 15, 16, 17, 30] [])
 (.cond (.t 30) (.seq (.rg [] [.op (some 6) (.c (.mv (.bool false)))] [6] [])
 (.ret)) (.skip))))))
 (.rg [] [.op (some 31) (.c (.bin .add (.t 17) (.int .i64 1))),
   .op (some 17) (.c (.mv (.t 31)))] [1, 2, 15, 16, 17] [])))
def ir52 : S := .seq (.rg [] [.op (some 6) (.c (.mv (.bool false)))] [0, 1, 2] [])
 (.seq (.seq (.rg [] [.op (some 10) (.c (.mv (.t 0))),
   .op (some 11) (.c (.lenL (.t 10))),
   .op (some 12) (.c (.mv (.t 1))),
   .op (some 13) (.c (.lenL (.t 12))),
   .op (some 14) (.c (.bin .neq (.t 11) (.t 13)))] [0, 1, 2, 14] [])
 (.cond (.t 14) (.seq (.rg [] [.op (some 6) (.c (.mv (.bool false)))] [6] [])
 (.ret)) (.skip)))
 (.seq (.seq (.rg [] [.op (some 15) (.c (.mv (.t 0))),
   .op (some 16) (.c (.lenL (.t 15))),
   .op (some 17) (.c (.mv (.int .i64 0)))] [1, 2, 15, 16, 17] [])
 (.block 0 (.loop [1, 2, 15, 16, 17] ir52_l0)))
 (.seq (.rg [] [.op (some 6) (.c (.mv (.bool true)))] [6] [])
 (.ret))))
theorem ok52 : fnOk Tryz.prog 52 3 ir52 [.t 6] = true := by kernel_rfl
def ir53 : S := .seq (.rg [] [.op (some 2) (.box 50 (.t 0)),
   .op (some 3) (.box 50 (.t 1)),
   .op (some 4) (.c (.mv (.bool false)))] [2, 3] [])
 (.seq (.rg [] [.op (some 5) (.c (.fldA 0 0 (.t 2))),
   .op (some 6) (.c (.ld 1 false (.t 5))),
   .op (some 7) (.c (.fldA 0 0 (.t 3))),
   .op (some 8) (.c (.ld 1 false (.t 7))),
   .op (some 9) (.c (.bin .eql (.t 6) (.t 8))),
   .op (some 10) (.c (.mv (.t 9))),
   .gop 10 true (some 11) (.c (.fldA 1 1 (.t 2))),
   .gop 10 true (some 12) (.c (.ld 1 false (.t 11))),
   .gop 10 true (some 13) (.c (.fldA 1 1 (.t 3))),
   .gop 10 true (some 14) (.c (.ld 1 false (.t 13))),
   .gop 10 true (some 15) (.c (.bin .eql (.t 12) (.t 14))),
   .op (some 16) (.c (.pick (.t 10) (.t 15) (.bool false))),
   .op (some 17) (.c (.mv (.t 16))),
   .gop 17 true (some 18) (.c (.fldA 2 2 (.t 2))),
   .gop 17 true (some 19) (.c (.ld 1 false (.t 18))),
   .gop 17 true (some 20) (.c (.fldA 2 2 (.t 3))),
   .gop 17 true (some 21) (.c (.ld 1 false (.t 20))),
   .gop 17 true (some 22) (.pcall 128 [(.t 19), (.t 21)]),
   .op (some 23) (.c (.pick (.t 17) (.t 22) (.bool false))),
   .op (some 24) (.c (.mv (.t 23))),
   .gop 24 true (some 25) (.c (.fldA 3 3 (.t 2))),
   .gop 24 true (some 26) (.c (.ld 1 false (.t 25))),
   .gop 24 true (some 27) (.c (.fldA 3 3 (.t 3))),
   .gop 24 true (some 28) (.c (.ld 1 false (.t 27))),
   .gop 24 true (some 29) (.pcall 129 [(.t 26), (.t 28)]),
   .op (some 30) (.c (.pick (.t 24) (.t 29) (.bool false))),
   .op (some 31) (.c (.mv (.t 30))),
   .gop 31 true (some 32) (.c (.fldA 4 4 (.t 2))),
   .gop 31 true (some 33) (.c (.ld 1 false (.t 32))),
   .gop 31 true (some 34) (.c (.fldA 4 4 (.t 3))),
   .gop 31 true (some 35) (.c (.ld 1 false (.t 34))),
   .gop 31 true (some 36) (.pcall 130 [(.t 33), (.t 35)]),
   .op (some 37) (.c (.pick (.t 31) (.t 36) (.bool false))),
   .op (some 4) (.c (.mv (.t 37)))] [4] [])
 (.ret))
theorem ok53 : fnOk Tryz.prog 53 2 ir53 [.t 4] = true := by kernel_rfl
def ir54_l0 : S := .seq (.rg [] [.op (some 18) (.c (.bin .lss (.t 17) (.t 16)))] [1, 2, 15, 16, 17, 18] [])
 (.seq (.cond (.t 18) (.skip) (.exit 0))
 (.seq (.block 1 (.seq (.rg [] [.op (some 19) (.c (.mv (.t 17))),
   .op (some 20) (.c (.idxA 5 (.t 15) (.t 17))),
   .op (some 21) (.c (.ld 5 true (.t 20))),
   .op (some 8) (.alloc 84 (.agg [.str [], .str [], .int .i64 0, .int .i64 0, .nils])),
   .op (some 7) (.c (.mv (.t 19))),
   .op none (.st 5 (.t 8) (.t 21))] [1, 2, 7, 8, 15, 16, 17] [])
 (.seq (.rg [] [.op (some 22) (.c (.mv (.t 1))),
   .op (some 23) (.c (.mv (.t 7))),
   .op (some 24) (.c (.idxA 5 (.t 22) (.t 23))),
   .op (some 25) (.c (.ld 5 true (.t 24))),
   .op (some 9) (.alloc 84 (.agg [.str [], .str [], .int .i64 0, .int .i64 0, .nils])),
   .op none (.st 5 (.t 9) (.t 25))] [1, 2, 8, 9, 15, 16, 17] [])
 (.seq (.rg [] [.op (some 26) (.c (.mv (.t 2))),
   .op (some 27) (.c (.ld 5 true (.t 8))),
   .op (some 28) (.c (.ld 5 true (.t 9))),
   .op (some 29) (.callv (.t 26) [(.t 27), (.t 28)]),
   .op (some 30) (.c (.not (.t 29)))] [1, 2, 15, 16, 17, 30] [])
 (.cond (.t 30) (.seq (.rg [] [.op (some 6) (.c (.mv (.bool false)))] [6] [])
 (.ret)) (.skip))))))
 (.rg [] [.op (some 31) (.c (.bin .add (.t 17) (.int .i64 1))),
   .op (some 17) (.c (.mv (.t 31)))] [1, 2, 15, 16, 17] [])))
def ir54 : S := .seq (.rg [] [.op (some 6) (.c (.mv (.bool false)))] [0, 1, 2] [])
 (.seq (.seq (.rg [] [.op (some 10) (.c (.mv (.t 0))),
   .op (some 11) (.c (.lenL (.t 10))),
   .op (some 12) (.c (.mv (.t 1))),
   .op (some 13) (.c (.lenL (.t 12))),
   .op (some 14) (.c (.bin .neq (.t 11) (.t 13)))] [0, 1, 2, 14] [])
 (.cond (.t 14) (.seq (.rg [] [.op (some 6) (.c (.mv (.bool false)))] [6] [])
 (.ret)) (.skip)))
 (.seq (.seq (.rg [] [.op (some 15) (.c (.mv (.t 0))),
   .op (some 16) (.c (.lenL (.t 15))),
   .op (some 17) (.c (.mv (.int .i64 0)))] [1, 2, 15, 16, 17] [])
 (.block 0 (.loop [1, 2, 15, 16, 17] ir54_l0)))
 (.seq (.rg [] [.op (some 6) (.c (.mv (.bool true)))] [6] [])
 (.ret))))
theorem ok54 : fnOk Tryz.prog 54 3 ir54 [.t 6] = true := by kernel_rfl
def ir56_l0 : S := .seq (.rg [] [.op (some 18) (.c (.bin .lss (.t 17) (.t 16)))] [1, 2, 15, 16, 17, 18] [])
 (.seq (.cond (.t 18) (.skip) (.exit 0))
 (.seq (.block 1 (.seq (.rg [] [.op (some 19) (.c (.mv (.t 17))),
   .op (some 20) (.c (.idxA 3 (.t 15) (.t 17))),
   .op (some 21) (.c (.ld 3 true (.t 20))),
   .op (some 8) (.alloc 88 (.agg [.str [], .nils, .int .i64 0])),
   .op (some 7) (.c (.mv (.t 19))),
   .op none (.st 3 (.t 8) (.t 21))] [1, 2, 7, 8, 15, 16, 17] [])
 (.seq (.rg [] [.op (some 22) (.c (.mv (.t 1))),
   .op (some 23) (.c (.mv (.t 7))),
   .op (some 24) (.c (.idxA 3 (.t 22) (.t 23))),
   .op (some 25) (.c (.ld 3 true (.t 24))),
   .op (some 9) (.alloc 88 (.agg [.str [], .nils, .int .i64 0])),
   .op none (.st 3 (.t 9) (.t 25))] [1, 2, 8, 9, 15, 16, 17] [])
 (.seq (.rg [] [.op (some 26) (.c (.mv (.t 2))),
   .op (some 27) (.c (.ld 3 true (.t 8))),
   .op (some 28) (.c (.ld 3 true (.t 9))),
   .op (some 29) (.callv (.t 26) [(.t 27), (.t 28)]),
   .op (some 30) (.c (.not (.t 29)))] [1, 2, 15, 16, 17, 30] [])
 (.cond (.t 30) (.seq (.rg [] [.op (some 6) (.c (.mv (.bool false)))] [6] [])
 (.ret)) (.skip))))))
 (.rg [] [.op (some 31) (.c (.bin .add (.t 17) (.int .i64 1))),
   .op (some 17) (.c (.mv (.t 31)))] [1, 2, 15, 16, 17] [])))
def ir56 : S := .seq (.rg [] [.op (some 6) (.c (.mv (.bool false)))] [0, 1, 2] [])
 (.seq (.seq (.rg [] [.op (some 10) (.c (.mv (.t 0))),
   .op (some 11) (.c (.lenL (.t 10))),
   .op (some 12) (.c (.mv (.t 1))),
   .op (some 13) (.c (.lenL (.t 12))),
   .op (some 14) (.c (.bin .neq (.t 11) (.t 13)))] [0, 1, 2, 14] [])
 (.cond (.t 14) (.seq (.rg [] [.op (some 6) (.c (.mv (.bool false)))] [6] [])
 (.ret)) (.skip)))
 (.seq (.seq (.rg [] [.op (some 15) (.c (.mv (.t 0))),
   .op (some 16) (.c (.lenL (.t 15))),
   .op (some 17) (.c (.mv (.int .i64 0)))] [1, 2, 15, 16, 17] [])
 (.block 0 (.loop [1, 2, 15, 16, 17] ir56_l0)))
 (.seq (.rg [] [.op (some 6) (.c (.mv (.bool true)))] [6] [])
 (.ret))))
theorem ok56 : fnOk Tryz.prog 56 3 ir56 [.t 6] = true := by kernel_rfl
def ir99_l0 : S := .seq (.rg [] [.op (some 16) (.c (.bin .lss (.t 15) (.t 14)))] [2, 13, 14, 15, 16] [])
 (.seq (.cond (.t 16) (.skip) (.exit 0))
 (.seq (.block 1 (.seq (.rg [] [.op (some 17) (.c (.idxA 1 (.t 13) (.t 15))),
   .op (some 18) (.c (.ld 1 false (.t 17))),
   .op (some 8) (.c (.mv (.t 18)))] [2, 8, 13, 14, 15] [])
 (.seq (.rg [] [.op (some 19) (.c (.mv (.t 2))),
   .op (some 20) (.c (.mv (.t 8))),
   .op (some 21) (.callv (.t 19) [(.t 20)]),
   .op (some 22) (.c (.not (.t 21)))] [2, 13, 14, 15, 22] [])
 (.cond (.t 22) (.seq (.rg [] [.op (some 6) (.c (.mv (.bool false)))] [6] [])
 (.ret)) (.skip)))))
 (.rg [] [.op (some 23) (.c (.bin .add (.t 15) (.int .i64 1))),
   .op (some 15) (.c (.mv (.t 23)))] [2, 13, 14, 15] [])))
def ir99 : S := .seq (.rg [] [.op (some 6) (.c (.mv (.bool false)))] [0, 1, 2] [])
 (.seq (.seq (.rg [] [.op (some 9) (.c (.mv (.t 0))),
   .op (some 10) (.c (.lenL (.t 9))),
   .op (some 11) (.c (.mv (.t 1))),
   .op (some 12) (.c (.bin .gtr (.t 10) (.t 11)))] [0, 2, 12] [])
 (.cond (.t 12) (.seq (.rg [] [.op (some 6) (.c (.mv (.bool false)))] [6] [])
 (.ret)) (.skip)))
 (.seq (.seq (.rg [] [.op (some 13) (.c (.mv (.t 0))),
   .op (some 14) (.c (.lenL (.t 13))),
   .op (some 15) (.c (.mv (.int .i64 0)))] [2, 13, 14, 15] [])
 (.block 0 (.loop [2, 13, 14, 15] ir99_l0)))
 (.seq (.rg [] [.op (some 6) (.c (.mv (.bool true)))] [6] [])
 (.ret))))
theorem ok99 : fnOk Tryz.prog 99 3 ir99 [.t 6] = true := by kernel_rfl
def ir101_l0 : S := .seq (.rg [] [.op (some 16) (.c (.bin .lss (.t 15) (.t 14)))] [2, 13, 14, 15, 16] [])
 (.seq (.cond (.t 16) (.skip) (.exit 0))
 (.seq (.block 1 (.seq (.rg [] [.op (some 17) (.c (.idxA 5 (.t 13) (.t 15))),
   .op (some 18) (.c (.ld 5 true (.t 17))),
   .op (some 8) (.alloc 74 (.agg [.str [], .str [], .int .i64 0, .int .i64 0, .int .i64 0])),
   .op none (.st 5 (.t 8) (.t 18))] [2, 8, 13, 14, 15] [])
 (.seq (.rg [] [.op (some 19) (.c (.mv (.t 2))),
   .op (some 20) (.c (.ld 5 true (.t 8))),
   .op (some 21) (.callv (.t 19) [(.t 20)]),
   .op (some 22) (.c (.not (.t 21)))] [2, 13, 14, 15, 22] [])
 (.cond (.t 22) (.seq (.rg [] [.op (some 6) (.c (.mv (.bool false)))] [6] [])
 (.ret)) (.skip)))))
 (.rg [] [.op (some 23) (.c (.bin .add (.t 15) (.int .i64 1))),
   .op (some 15) (.c (.mv (.t 23)))] [2, 13, 14, 15] [])))
def ir101 : S := .seq (.rg [] [.op (some 6) (.c (.mv (.bool false)))] [0, 1, 2] [])
 (.seq (.seq (.rg [] [.op (some 9) (.c (.mv (.t 0))),
   .op (some 10) (.c (.lenL (.t 9))),
   .op (some 11) (.c (.mv (.t 1))),
   .op (some 12) (.c (.bin .gtr (.t 10) (.t 11)))] [0, 2, 12] [])
 (.cond (.t 12) (.seq (.rg [] [.op (some 6) (.c (.mv (.bool false)))] [6] [])
 (.ret)) (.skip)))
 (.seq (.seq (.rg [] [.op (some 13) (.c (.mv (.t 0))),
   .op (some 14) (.c (.lenL (.t 13))),
   .op (some 15) (.c (.mv (.int .i64 0)))] [2, 13, 14, 15] [])
 (.block 0 (.loop [2, 13, 14, 15] ir101_l0)))
 (.seq (.rg [] [.op (some 6) (.c (.mv (.bool true)))] [6] [])
 (.ret))))
theorem ok101 : fnOk Tryz.prog 101 3 ir101 [.t 6] = true := by kernel_rfl
def ir103_l0 : S := .seq (.rg [] [.op (some 16) (.c (.bin .lss (.t 15) (.t 14)))] [2, 13, 14, 15, 16] [])
 (.seq (.cond (.t 16) (.skip) (.exit 0))
 (.seq (.block 1 (.seq (.rg [] [.op (some 17) (.c (.idxA 6 (.t 13) (.t 15))),
   .op (some 18) (.c (.ld 6 true (.t 17))),
   .op (some 8) (.alloc 79 (.agg [.str [], .str [], .int .i64 0, .int .i64 0, .nils, .nils])),
   .op none (.st 6 (.t 8) (.t 18))] [2, 8, 13, 14, 15] [])
 (.seq (.rg [] [.op (some 19) (.c (.mv (.t 2))),
   .op (some 20) (.c (.ld 6 true (.t 8))),
   .op (some 21) (.callv (.t 19) [(.t 20)]),
   .op (some 22) (.c (.not (.t 21)))] [2, 13, 14, 15, 22] [])
 (.cond (.t 22) (.seq (.rg [] [.op (some 6) (.c (.mv (.bool false)))] [6] [])
 (.ret)) (.skip)))))
 (.rg [] [.op (some 23) (.c (.bin .add (.t 15) (.int .i64 1))),
   .op (some 15) (.c (.mv (.t 23)))] [2, 13, 14, 15] [])))
def ir103 : S := .seq (.rg [] [.op (some 6) (.c (.mv (.bool false)))] [0, 1, 2] [])
 (.seq (.seq (.rg [] [.op (some 9) (.c (.mv (.t 0))),
   .op (some 10) (.c (.lenL (.t 9))),
   .op (some 11) (.c (.mv (.t 1))),
   .op (some 12) (.c (.bin .gtr (.t 10) (.t 11)))] [0, 2, 12] [])
 (.cond (.t 12) (.seq (.rg [] [.op (some 6) (.c (.mv (.bool false)))] [6] [])
 (.ret)) (.skip)))
 (.seq (.seq (.rg [] [.op (some 13) (.c (.mv (.t 0))),
   .op (some 14) (.c (.lenL (.t 13))),
   .op (some 15) (.c (.mv (.int .i64 0)))] [2, 13, 14, 15] [])
 (.block 0 (.loop [2, 13, 14, 15] ir103_l0)))
 (.seq (.rg [] [.op (some 6) (.c (.mv (.bool true)))] [6] [])
 (.ret))))
theorem ok103 : fnOk Tryz.prog 103 3 ir103 [.t 6] = true := by kernel_rfl
def ir105_l0 : S := .seq (.rg [] [.op (some 16) (.c (.bin .lss (.t 15) (.t 14)))] [2, 13, 14, 15, 16] [])
 (.seq (.cond (.t 16) (.skip) (.exit 0))
 (.seq (.block 1 (.seq (.rg [] [.op (some 17) (.c (.idxA 5 (.t 13) (.t 15))),
   .op (some 18) (.c (.ld 5 true (.t 17))),
   .op (some 8) (.alloc 50 (.agg [.str [], .int .i64 0, .nils, .nils, .nils])),
   .op none (.st 5 (.t 8) (.t 18))] [2, 8, 13, 14, 15] [])
 (.seq (.rg [] [.op (some 19) (.c (.mv (.t 2))),
   .op (some 20) (.c (.ld 5 true (.t 8))),
   .op (some 21) (.callv (.t 19) [(.t 20)]),
   .op (some 22) (.c (.not (.t 21)))] [2, 13, 14, 15, 22] [])
 (.cond (.t 22) (.seq (.rg [] [.op (some 6) (.c (.mv (.bool false)))] [6] [])
 (.ret)) (.skip)))))
 (.rg [] [.op (some 23) (.c (.bin .add (.t 15) (.int .i64 1))),
   .op (some 15) (.c (.mv (.t 23)))] [2, 13, 14, 15] [])))
def ir105 : S := .seq (.rg [] [.op (some 6) (.c (.mv (.bool false)))] [0, 1, 2] [])
 (.seq (.seq (.rg [] [.op (some 9) (.c (.mv (.t 0))),
   .op (some 10) (.c (.lenL (.t 9))),
   .op (some 11) (.c (.mv (.t 1))),
   .op (some 12) (.c (.bin .gtr (.t 10) (.t 11)))] [0, 2, 12] [])
 (.cond (.t 12) (.seq (.rg [] [.op (some 6) (.c (.mv (.bool false)))] [6] [])
 (.ret)) (.skip)))
 (.seq (.seq (.rg [] [.op (some 13) (.c (.mv (.t 0))),
   .op (some 14) (.c (.lenL (.t 13))),
   .op (some 15) (.c (.mv (.int .i64 0)))] [2, 13, 14, 15] [])
 (.block 0 (.loop [2, 13, 14, 15] ir105_l0)))
 (.seq (.rg [] [.op (some 6) (.c (.mv (.bool true)))] [6] [])
 (.ret))))
theorem ok105 : fnOk Tryz.prog 105 3 ir105 [.t 6] = true := by kernel_rfl
def ir106 : S := .seq (.rg [] [.op (some 1) (.box 50 (.t 0)),
   .op (some 2) (.c (.mv (.bool false)))] [1] [])
 (.seq (.rg [] [.op (some 3) (.c (.fldA 0 0 (.t 1))),
   .op (some 4) (.c (.ld 1 false (.t 3))),
   .op (some 5) (.pcall 100 [(.t 4)]),
   .op (some 6) (.c (.mv (.t 5))),
   .gop 6 true (some 7) (.c (.fldA 2 2 (.t 1))),
   .gop 6 true (some 8) (.c (.ld 1 false (.t 7))),
   .gop 6 true (some 9) (.c (.lenL (.t 8))),
   .gop 6 true (some 10) (.c (.bin .gtr (.t 9) (.int .i64 0))),
   .op (some 11) (.c (.pick (.t 6) (.t 10) (.bool false))),
   .op (some 12) (.c (.mv (.t 11))),
   .gop 12 true (some 13) (.c (.fldA 2 2 (.t 1))),
   .gop 12 true (some 14) (.c (.ld 1 false (.t 13))),
   .gop 12 true (some 15) (.call 158 [(.t 14), (.int .i64 3), (.fn 159)]),
   .op (some 16) (.c (.pick (.t 12) (.t 15) (.bool false))),
   .op (some 17) (.c (.mv (.t 16))),
   .gop 17 true (some 18) (.c (.fldA 3 3 (.t 1))),
   .gop 17 true (some 19) (.c (.ld 1 false (.t 18))),
   .gop 17 true (some 20) (.call 161 [(.t 19), (.int .i64 8), (.fn 162)]),
   .op (some 21) (.c (.pick (.t 17) (.t 20) (.bool false))),
   .op (some 22) (.c (.mv (.t 21))),
   .gop 22 true (some 23) (.c (.fldA 4 4 (.t 1))),
   .gop 22 true (some 24) (.c (.ld 1 false (.t 23))),
   .gop 22 true (some 25) (.call 164 [(.t 24), (.int .i64 11), (.fn 165)]),
   .op (some 26) (.c (.pick (.t 22) (.t 25) (.bool false))),
   .op (some 2) (.c (.mv (.t 26)))] [2] [])
 (.ret))
theorem ok106 : fnOk Tryz.prog 106 1 ir106 [.t 2] = true := by kernel_rfl
def ir107_l0 : S := .seq (.rg [] [.op (some 16) (.c (.bin .lss (.t 15) (.t 14)))] [2, 13, 14, 15, 16] [])
 (.seq (.cond (.t 16) (.skip) (.exit 0))
 (.seq (.block 1 (.seq (.rg [] [.op (some 17) (.c (.idxA 5 (.t 13) (.t 15))),
   .op (some 18) (.c (.ld 5 true (.t 17))),
   .op (some 8) (.alloc 84 (.agg [.str [], .str [], .int .i64 0, .int .i64 0, .nils])),
   .op none (.st 5 (.t 8) (.t 18))] [2, 8, 13, 14, 15] [])
 (.seq (.rg [] [.op (some 19) (.c (.mv (.t 2))),
   .op (some 20) (.c (.ld 5 true (.t 8))),
   .op (some 21) (.callv (.t 19) [(.t 20)]),
   .op (some 22) (.c (.not (.t 21)))] [2, 13, 14, 15, 22] [])
 (.cond (.t 22) (.seq (.rg [] [.op (some 6) (.c (.mv (.bool false)))] [6] [])
 (.ret)) (.skip)))))
 (.rg [] [.op (some 23) (.c (.bin .add (.t 15) (.int .i64 1))),
   .op (some 15) (.c (.mv (.t 23)))] [2, 13, 14, 15] [])))
def ir107 : S := .seq (.rg [] [.op (some 6) (.c (.mv (.bool false)))] [0, 1, 2] [])
 (.seq (.seq (.rg [] [.op (some 9) (.c (.mv (.t 0))),
   .op (some 10) (.c (.lenL (.t 9))),
   .op (some 11) (.c (.mv (.t 1))),
   .op (some 12) (.c (.bin .gtr (.t 10) (.t 11)))] [0, 2, 12] [])
 (.cond (.t 12) (.seq (.rg [] [.op (some 6) (.c (.mv (.bool false)))] [6] [])
 (.ret)) (.skip)))
 (.seq (.seq (.rg [] [.op (some 13) (.c (.mv (.t 0))),
   .op (some 14) (.c (.lenL (.t 13))),
   .op (some 15) (.c (.mv (.int .i64 0)))] [2, 13, 14, 15] [])
 (.block 0 (.loop [2, 13, 14, 15] ir107_l0)))
 (.seq (.rg [] [.op (some 6) (.c (.mv (.bool true)))] [6] [])
 (.ret))))
theorem ok107 : fnOk Tryz.prog 107 3 ir107 [.t 6] = true := by kernel_rfl
def ir109_l0 : S := .seq (.rg [] [.op (some 16) (.c (.bin .lss (.t 15) (.t 14)))] [2, 13, 14, 15, 16] [])
 (.seq (.cond (.t 16) (.skip) (.exit 0))
 (.seq (.block 1 (.seq (.rg [] [.op (some 17) (.c (.idxA 3 (.t 13) (.t 15))),
   .op (some 18) (.c (.ld 3 true (.t 17))),
   .op (some 8) (.alloc 88 (.agg [.str [], .nils, .int .i64 0])),
   .op none (.st 3 (.t 8) (.t 18))] [2, 8, 13, 14, 15] [])
 (.seq (.rg [] [.op (some 19) (.c (.mv (.t 2))),
   .op (some 20) (.c (.ld 3 true (.t 8))),
   .op (some 21) (.callv (.t 19) [(.t 20)]),
   .op (some 22) (.c (.not (.t 21)))] [2, 13, 14, 15, 22] [])
 (.cond (.t 22) (.seq (.rg [] [.op (some 6) (.c (.mv (.bool false)))] [6] [])
 (.ret)) (.skip)))))
 (.rg [] [.op (some 23) (.c (.bin .add (.t 15) (.int .i64 1))),
   .op (some 15) (.c (.mv (.t 23)))] [2, 13, 14, 15] [])))
def ir109 : S := .seq (.rg [] [.op (some 6) (.c (.mv (.bool false)))] [0, 1, 2] [])
 (.seq (.seq (.rg [] [.op (some 9) (.c (.mv (.t 0))),
   .op (some 10) (.c (.lenL (.t 9))),
   .op (some 11) (.c (.mv (.t 1))),
   .op (some 12) (.c (.bin .gtr (.t 10) (.t 11)))] [0, 2, 12] [])
 (.cond (.t 12) (.seq (.rg [] [.op (some 6) (.c (.mv (.bool false)))] [6] [])
 (.ret)) (.skip)))
 (.seq (.seq (.rg [] [.op (some 13) (.c (.mv (.t 0))),
   .op (some 14) (.c (.lenL (.t 13))),
   .op (some 15) (.c (.mv (.int .i64 0)))] [2, 13, 14, 15] [])
 (.block 0 (.loop [2, 13, 14, 15] ir109_l0)))
 (.seq (.rg [] [.op (some 6) (.c (.mv (.bool true)))] [6] [])
 (.ret))))
theorem ok109 : fnOk Tryz.prog 109 3 ir109 [.t 6] = true := by kernel_rfl
def ir128_l0 : S := .seq (.rg [] [.op (some 14) (.c (.bin .lss (.t 13) (.t 12)))] [0, 1, 12, 13, 14] [])
 (.seq (.cond (.t 14) (.skip) (.exit 0))
 (.seq (.block 1 (.seq (.rg [] [.op (some 15) (.c (.mv (.t 13))),
   .op (some 5) (.c (.mv (.t 15)))] [0, 1, 5, 12, 13] [])
 (.seq (.rg [0, 1, 2, 4, 5, 6, 3, 7, 8] [.op (some 16) (.c (.mv (.t 0))),
   .op (some 17) (.c (.mv (.t 5))),
   .op (some 18) (.c (.idxA 8 (.t 16) (.t 17))),
   .op (some 20) (.c (.mv (.t 1))),
   .op (some 21) (.c (.mv (.t 5))),
   .op (some 22) (.c (.idxA 8 (.t 20) (.t 21))),
   .op (some 19) (.c (.ld 8 true (.t 18))),
   .op (some 23) (.c (.ld 8 true (.t 22))),
   .op (some 24) (.c (.eqD (.st [.str, .str, .int .i64, .st [.str, .str, .int .i64, .int .i64, .int .i64]]) false (.t 19) (.t 23)))] [0, 1, 12, 13, 24] [])
 (.cond (.t 24) (.seq (.rg [] [.op (some 4) (.c (.mv (.bool false)))] [4] [])
 (.ret)) (.skip)))))
 (.rg [] [.op (some 25) (.c (.bin .add (.t 13) (.int .i64 1))),
   .op (some 13) (.c (.mv (.t 25)))] [0, 1, 12, 13] [])))
def ir128 : S := .seq (.rg [] [.op (some 4) (.c (.mv (.bool false)))] [0, 1] [])
 (.seq (.seq (.rg [] [.op (some 6) (.c (.mv (.t 0))),
   .op (some 7) (.c (.lenL (.t 6))),
   .op (some 8) (.c (.mv (.t 1))),
   .op (some 9) (.c (.lenL (.t 8))),
   .op (some 10) (.c (.bin .neq (.t 7) (.t 9)))] [0, 1, 10] [])
 (.cond (.t 10) (.seq (.rg [] [.op (some 4) (.c (.mv (.bool false)))] [4] [])
 (.ret)) (.skip)))
 (.seq (.seq (.rg [] [.op (some 11) (.c (.mv (.t 0))),
   .op (some 12) (.c (.lenL (.t 11))),
   .op (some 13) (.c (.mv (.int .i64 0)))] [0, 1, 12, 13] [])
 (.block 0 (.loop [0, 1, 12, 13] ir128_l0)))
 (.seq (.rg [] [.op (some 4) (.c (.mv (.bool true)))] [4] [])
 (.ret))))
theorem ok128 : fnOk Tryz.prog 128 2 ir128 [.t 4] = true := by kernel_rfl
def ir129_l0 : S := .seq (.rg [] [.op (some 14) (.c (.bin .lss (.t 13) (.t 12)))] [0, 1, 12, 13, 14] [])
 (.seq (.cond (.t 14) (.skip) (.exit 0))
 (.seq (.block 1 (.seq (.rg [] [.op (some 15) (.c (.mv (.t 13))),
   .op (some 5) (.c (.mv (.t 15)))] [0, 1, 5, 12, 13] [])
 (.seq (.rg [0, 1, 2, 4, 5, 6, 3, 7, 8] [.op (some 16) (.c (.mv (.t 0))),
   .op (some 17) (.c (.mv (.t 5))),
   .op (some 18) (.c (.idxA 11 (.t 16) (.t 17))),
   .op (some 20) (.c (.mv (.t 1))),
   .op (some 21) (.c (.mv (.t 5))),
   .op (some 22) (.c (.idxA 11 (.t 20) (.t 21))),
   .op (some 19) (.c (.ld 11 true (.t 18))),
   .op (some 23) (.c (.ld 11 true (.t 22))),
   .op (some 24) (.c (.eqD (.st [.int .i64, .st [.str, .str, .int .i64, .int .i64, .int .i64], .st [.str, .str, .int .i64, .int .i64, .int .i64]]) false (.t 19) (.t 23)))] [0, 1, 12, 13, 24] [])
 (.cond (.t 24) (.seq (.rg [] [.op (some 4) (.c (.mv (.bool false)))] [4] [])
 (.ret)) (.skip)))))
 (.rg [] [.op (some 25) (.c (.bin .add (.t 13) (.int .i64 1))),
   .op (some 13) (.c (.mv (.t 25)))] [0, 1, 12, 13] [])))
def ir129 : S := .seq (.rg [] [.op (some 4) (.c (.mv (.bool false)))] [0, 1] [])
 (.seq (.seq (.rg [] [.op (some 6) (.c (.mv (.t 0))),
   .op (some 7) (.c (.lenL (.t 6))),
   .op (some 8) (.c (.mv (.t 1))),
   .op (some 9) (.c (.lenL (.t 8))),
   .op (some 10) (.c (.bin .neq (.t 7) (.t 9)))] [0, 1, 10] [])
 (.cond (.t 10) (.seq (.rg [] [.op (some 4) (.c (.mv (.bool false)))] [4] [])
 (.ret)) (.skip)))
 (.seq (.seq (.rg [] [.op (some 11) (.c (.mv (.t 0))),
   .op (some 12) (.c (.lenL (.t 11))),
   .op (some 13) (.c (.mv (.int .i64 0)))] [0, 1, 12, 13] [])
 (.block 0 (.loop [0, 1, 12, 13] ir129_l0)))
 (.seq (.rg [] [.op (some 4) (.c (.mv (.bool true)))] [4] [])
 (.ret))))
theorem ok129 : fnOk Tryz.prog 129 2 ir129 [.t 4] = true := by kernel_rfl
def ir130_l0 : S := .seq (.rg [] [.op (some 14) (.c (.bin .lss (.t 13) (.t 12)))] [0, 1, 12, 13, 14] [])
 (.seq (.cond (.t 14) (.skip) (.exit 0))
 (.seq (.block 1 (.seq (.rg [] [.op (some 15) (.c (.mv (.t 13))),
   .op (some 5) (.c (.mv (.t 15)))] [0, 1, 5, 12, 13] [])
 (.seq (.rg [0, 1, 2, 4, 5, 6, 3, 7, 8] [.op (some 16) (.c (.mv (.t 0))),
   .op (some 17) (.c (.mv (.t 5))),
   .op (some 18) (.c (.idxA 7 (.t 16) (.t 17))),
   .op (some 20) (.c (.mv (.t 1))),
   .op (some 21) (.c (.mv (.t 5))),
   .op (some 22) (.c (.idxA 7 (.t 20) (.t 21))),
   .op (some 19) (.c (.ld 7 true (.t 18))),
   .op (some 23) (.c (.ld 7 true (.t 22))),
   .op (some 24) (.c (.eqD (.st [.str, .int .i64, .st [.str, .str, .int .i64, .int .i64, .int .i64]]) false (.t 19) (.t 23)))] [0, 1, 12, 13, 24] [])
 (.cond (.t 24) (.seq (.rg [] [.op (some 4) (.c (.mv (.bool false)))] [4] [])
 (.ret)) (.skip)))))
 (.rg [] [.op (some 25) (.c (.bin .add (.t 13) (.int .i64 1))),
   .op (some 13) (.c (.mv (.t 25)))] [0, 1, 12, 13] [])))
def ir130 : S := .seq (.rg [] [.op (some 4) (.c (.mv (.bool false)))] [0, 1] [])
 (.seq (.seq (.rg [] [.op (some 6) (.c (.mv (.t 0))),
   .op (some 7) (.c (.lenL (.t 6))),
   .op (some 8) (.c (.mv (.t 1))),
   .op (some 9) (.c (.lenL (.t 8))),
   .op (some 10) (.c (.bin .neq (.t 7) (.t 9)))] [0, 1, 10] [])
 (.cond (.t 10) (.seq (.rg [] [.op (some 4) (.c (.mv (.bool false)))] [4] [])
 (.ret)) (.skip)))
 (.seq (.seq (.rg [] [.op (some 11) (.c (.mv (.t 0))),
   .op (some 12) (.c (.lenL (.t 11))),
   .op (some 13) (.c (.mv (.int .i64 0)))] [0, 1, 12, 13] [])
 (.block 0 (.loop [0, 1, 12, 13] ir130_l0)))
 (.seq (.rg [] [.op (some 4) (.c (.mv (.bool true)))] [4] [])
 (.ret))))
theorem ok130 : fnOk Tryz.prog 130 2 ir130 [.t 4] = true := by kernel_rfl
end Go.Proofs.YtanpgmgkmfckaaaGreatDoor
/- An evaluator of operations on abstract values, and that what it yields holds. Over any program; no condition. -/
namespace Go.Ab
open Go

mutual
def Sh.beq : Sh → Sh → Bool
  | .leaf, .leaf => true
  | .node xs, .node ys => Sh.beqs xs ys
  | _, _ => false
def Sh.beqs : List Sh → List Sh → Bool
  | [], [] => true
  | x :: r, y :: s => Sh.beq x y && Sh.beqs r s
  | _, _ => false
end
mutual
theorem Sh.beq_eq : ∀ (a b : Sh), Sh.beq a b = true → a = b
  | .leaf, .leaf, _ => rfl
  | .node xs, .node ys, h => by simp only [Sh.beq] at h; rw [Sh.beqs_eq xs ys h]
  | .leaf, .node _, h => by simp [Sh.beq] at h
  | .node _, .leaf, h => by simp [Sh.beq] at h
theorem Sh.beqs_eq : ∀ (a b : List Sh), Sh.beqs a b = true → a = b
  | [], [], _ => rfl
  | x :: r, y :: s, h => by
    simp only [Sh.beqs, Bool.and_eq_true] at h
    rw [Sh.beq_eq x y h.1, Sh.beqs_eq r s h.2]
  | [], _ :: _, h => by simp [Sh.beqs] at h
  | _ :: _, [], h => by simp [Sh.beqs] at h
end
def V.isAny : V → Bool
  | .any => true
  | _ => false
def nz (v : V) : Option V := bif v.isAny then none else some v
def gdR (b : Bool) (v : V) : Option V := bif b then some v else none
def pickR : V → V → V → Option V
  | .d (.bool t), .d (.bool x), .d (.bool y) => some (.d (.bool (bif t then x else y)))
  | .d (.bool t), x, y => some (bif t then x else y)
  | _, _, _ => none
def intR (op : BinOp) (k k' : IntKind) (a b : Int) : Option V :=
  match op with
  | .shl => gdR (decide (0 ≤ b)) (intV op k a b)
  | .shr => gdR (decide (0 ≤ b)) (intV op k a b)
  | .quo => gdR (decide (k = k') && decide (b ≠ 0)) (intV op k a b)
  | .rem => gdR (decide (k = k') && decide (b ≠ 0)) (intV op k a b)
  | _ => gdR (decide (k = k')) (intV op k a b)
def strR (op : BinOp) (x y : List UInt8) : Option V :=
  match op with
  | .add => gdR (decide (x.length + y.length ≤ 9223372036854775807)) (strV op x y)
  | .eql | .neq | .lss | .leq | .gtr | .geq => some (strV op x y)
  | _ => none
def binR (op : BinOp) : V → V → Option V
  | .d (.int k a), .d (.int k' b) => intR op k k' a b
  | .d (.str x), .d (.str y) => strR op x y
  | _, _ => none
def peqR (ob : Objs) (e : Bool) : V → V → Option V
  | .ptr i p, .ptr j q => gdR (decide (i = j) && decide (p = q) && (atO ob i p).isSome) (.d (.bool e))
  | _, _ => none
def usdRo (id n : Nat) : Option Ob → Option V
  | some (.arr _ sz xs) => gdR (decide (sz ≠ 0) && decide (n = xs.length) && !xs.isEmpty) (.sd id n)
  | _ => none
def usdR (ob : Objs) : V → Option V
  | .sl id n => usdRo id n (lookO ob id)
  | .d .nils => some (.d .nilp)
  | _ => none
def idxR : V → V → Option V
  | .d (.str s), .d (.int _ n) => gdR (decide (0 ≤ n) && decide (n < s.length)) (.d (.int .u8 (s.getD n.toNat 0).toNat))
  | _, _ => none
def idxAR (z : Nat) : V → V → Option V
  | .d (.list sz xs), .d (.int _ n) => gdR (decide (z = sz) && decide (0 ≤ n) && decide (n < xs.length)) (.d (.ref (xs.getD n.toNat default)))
  | _, _ => none
def idxPRo (len z : Nat) (v : V) : Option (List V) → Option V
  | some ks => gdR (decide (ks.length = len) && ks.all (fun k => decide (k.size = z))) v
  | none => none
def idxPR (ob : Objs) (len z : Nat) : V → V → Option V
  | .ptr id p, .d (.int _ n) => bif decide (0 ≤ n) && decide (n < len) then idxPRo len z (.ptr id (p ++ [n.toNat])) (kidsO (atO ob id p)) else none
  | .d (.ref (.agg xs)), .d (.int _ n) => gdR (decide (0 ≤ n) && decide (n < len) && decide (xs.length = len) && xs.all (fun x => decide (x.sz = z))) (.d (.ref (xs.getD n.toNat default)))
  | _, _ => none
def fldARo (id : Nat) (p : List Nat) (f fo : Nat) : Option (List V) → Option V
  | some ks => gdR (decide (f < ks.length) && decide (Sh.sizes ((ks.take f).map V.shape) = fo)) (.ptr id (p ++ [f]))
  | none => none
def fldAR (ob : Objs) (f fo : Nat) : V → Option V
  | .ptr id p => fldARo id p f fo (kidsO (atO ob id p))
  | .d (.ref (.agg xs)) => gdR (decide (f < xs.length) && decide (D.szs (xs.take f) = fo)) (.d (.ref (xs.getD f default)))
  | _ => none
def fldR (f fo n : Nat) (ag : Bool) : Option (List V) → Option V
  | some ks => gdR (decide (f < ks.length) && decide (Sh.sizes ((ks.take f).map V.shape) = fo) && decide ((ks.getD f .any).size = n) && ((ks.getD f .any).isAgg == ag)) (ks.getD f .any)
  | none => none
def ldRo (n : Nat) (ag : Bool) : Option V → Option V
  | some v => gdR (decide (v.size = n) && (v.isAgg == ag)) v
  | none => none
def ldR (ob : Objs) (n : Nat) (ag : Bool) : V → Option V
  | .ptr id p => ldRo n ag (atO ob id p)
  | .d (.ref x) => gdR (decide (x.sz = n) && ((V.d x).isAgg == ag)) (.d x)
  | _ => none
def nilcR : V → Option V
  | .ptr id p => some (.ptr id p)
  | .d (.ref x) => some (.d (.ref x))
  | .fn f a b => some (.fn f a b)
  | .d (.fn f a b) => some (.d (.fn f a b))
  | _ => none
def lenLRo (n : Nat) : Option Ob → Option V
  | some (.arr _ _ xs) => gdR (decide (n = xs.length)) (.d (.int .i64 n))
  | _ => none
def lenLR (ob : Objs) : V → Option V
  | .d (.list _ xs) => some (.d (.int .i64 xs.length))
  | .d .nils => some (.d (.int .i64 0))
  | .sl id n => lenLRo n (lookO ob id)
  | _ => none
def bndR (len : Nat) : Option V → Option V → Option (Nat × Nat)
  | none, none => some (0, len)
  | some (.d (.int _ l)), none => bif decide (0 ≤ l) && decide (l ≤ len) then some (l.toNat, len) else none
  | none, some (.d (.int _ h)) => bif decide (0 ≤ h) && decide (h ≤ len) then some (0, h.toNat) else none
  | some (.d (.int _ l)), some (.d (.int _ h)) => bif decide (0 ≤ h) && decide (h ≤ len) && decide (0 ≤ l) && decide (l ≤ h) then some (l.toNat, h.toNat) else none
  | _, _ => none
def slcSR (lo hi : Option V) : V → Option V
  | .d (.str s) => (bndR s.length lo hi).map fun p => .d (.str ((s.take p.2).drop p.1))
  | _ => none
def slcLR (z : Nat) (lo hi : Option V) : V → Option V
  | .d (.list sz xs) => bif decide (z = sz) then (bndR xs.length lo hi).map fun p => .d (.list sz ((xs.take p.2).drop p.1)) else none
  | _ => none
def extR (i : Nat) : V → Option V
  | .tup xs => gdR (decide (i < xs.length)) (xs.getD i .any)
  | _ => none
def bldR : List V → List (Nat × V) → Option (List V)
  | ks, [] => some ks
  | ks, (i, v) :: r => bif decide (i < ks.length) && Sh.beq v.shape (ks.getD i .any).shape && !v.isAny then bldR (ks.set i v) r else none
def tasR (t : Nat) (z : D) : V → Option V
  | .iface t' v => some (bif decide (t' = t) then .tup [v, .d (.bool true)] else .tup [.d z, .d (.bool false)])
  | .d (.iface t' x) => some (bif decide (t' = t) then .tup [.d x, .d (.bool true)] else .tup [.d z, .d (.bool false)])
  | .d .nili => some (.tup [.d z, .d (.bool false)])
  | _ => none

def eqDR (ty : KT) (e : Bool) : V → V → Option V
  | .d x, .d y => gdR (ty.fits x && ty.fits y) (.d (.bool (D.eqb x y == e)))
  | _, _ => none
def idxVR (len z : Nat) (ag : Bool) : V → V → Option V
  | .d (.agg xs), .d (.int _ n) => gdR (decide (0 ≤ n) && decide (n < len) && decide (xs.length = len) && xs.all (fun x => decide (x.sz = z) && (x.isAgg == ag))) (.d (xs.getD n.toNat default))
  | _, _ => none

def C.run (sl : Slots) (ob : Objs) : C → Option V
  | .mv x => some (x.ev sl)
  | .pick c a b => pickR (c.ev sl) (a.ev sl) (b.ev sl)
  | .not x => nz (notV (x.ev sl))
  | .neg x => nz (negV (x.ev sl))
  | .bin op x y => binR op (x.ev sl) (y.ev sl)
  | .beq e x y => nz (beqV e (x.ev sl) (y.ev sl))
  | .isnil e x => nz (isnilV e (x.ev sl))
  | .pnil e x => nz (pnilV e (x.ev sl))
  | .fnil e x => nz (fnilV e (x.ev sl))
  | .peq e x y => peqR ob e (x.ev sl) (y.ev sl)
  | .usd x => usdR ob (x.ev sl)
  | .cvi k x => nz (cviV k (x.ev sl))
  | .cvs x => nz (cvsV (x.ev sl))
  | .idx x i => idxR (x.ev sl) (i.ev sl)
  | .idxA z x i => idxAR z (x.ev sl) (i.ev sl)
  | .idxP n z x i => idxPR ob n z (x.ev sl) (i.ev sl)
  | .fldA f fo x => fldAR ob f fo (x.ev sl)
  | .fld f fo n ag x => fldR f fo n ag (x.ev sl).kids
  | .ld n ag x => ldR ob n ag (x.ev sl)
  | .nilc x => nilcR (x.ev sl)
  | .lenS x => nz (lenSV (x.ev sl))
  | .lenL x => lenLR ob (x.ev sl)
  | .lenA n => some (.d (.int .i64 n))
  | .slcS x lo hi => slcSR (lo.map (A.ev sl)) (hi.map (A.ev sl)) (x.ev sl)
  | .slcL z x lo hi => slcLR z (lo.map (A.ev sl)) (hi.map (A.ev sl)) (x.ev sl)
  | .ext x i => extR i (x.ev sl)
  | .bld z parts => (bldR (z.map .d) (parts.map fun (i, x) => (i, x.ev sl))).map V.mk
  | .mkf f first cap => some (mkfV f (first.map (A.ev sl)) (cap.map (A.ev sl)))
  | .mki t x => some (mkiV t (x.ev sl))
  | .tas t z x => tasR t z (x.ev sl)
  | .eqD ty e x y => eqDR ty e (x.ev sl) (y.ev sl)
  | .aix n z ag x i => idxVR n z ag (x.ev sl) (i.ev sl)

theorem gdR_some {b : Bool} {v u : V} (h : gdR b v = some u) : b = true ∧ v = u := by
  cases b <;> simp [gdR] at h ⊢; exact h
theorem nz_some {v u : V} (h : nz v = some u) : v = u ∧ v ≠ .any := by
  cases v <;> simp [nz, V.isAny] at h <;> exact ⟨h, by simp⟩
theorem bndR_sound {len : Nat} {lo hi : Option V} {p : Nat × Nat} {K : Nat → Nat → Prop} (h : bndR len lo hi = some p) (hK : K p.1 p.2) : bndK len K lo hi := by
  unfold bndR at h
  split at h <;> simp only [bndK]
  · cases h; exact hK
  · rw [Bool.cond_eq_ite] at h; split at h
    · rename_i hc; cases h; simp at hc; exact ⟨hc, hK⟩
    · cases h
  · rw [Bool.cond_eq_ite] at h; split at h
    · rename_i hc; cases h; simp at hc; exact ⟨hc, hK⟩
    · cases h
  · rw [Bool.cond_eq_ite] at h; split at h
    · rename_i hc; cases h; simp at hc; exact ⟨⟨hc.1.1.1, hc.1.1.2⟩, ⟨hc.1.2, hc.2⟩, hK⟩
    · cases h
  · cases h
theorem bldR_sound {K : List V → Prop} : ∀ (ps : List (Nat × V)) (ks : List V) {l : List V}, bldR ks ps = some l → K l → bldK ks ps K
  | [], ks, l, h, hK => by simp only [bldR, Option.some.injEq] at h; subst h; exact hK
  | (i, v) :: r, ks, l, h, hK => by
    simp only [bldR] at h
    rw [Bool.cond_eq_ite] at h
    split at h
    · rename_i hc
      simp only [Bool.and_eq_true, decide_eq_true_eq, Bool.not_eq_true'] at hc
      refine ⟨hc.1.1, Sh.beq_eq _ _ hc.1.2, fun e => ?_, bldR_sound r _ h hK⟩
      subst e; simp [V.isAny] at hc
    · cases h
theorem C.run_sound {sl : Slots} {ob : Objs} {c : C} {v : V} {K : V → Prop} (h : c.run sl ob = some v) (hK : K v) : c.wp sl ob K := by
  cases c <;> simp only [C.run] at h <;> simp only [C.wp]
  case mv => cases h; exact hK
  case lenA => cases h; exact hK
  case mkf => cases h; exact hK
  case mki => cases h; exact hK
  case bld z parts =>
    rw [Option.map_eq_some_iff] at h
    obtain ⟨l, h1, rfl⟩ := h
    exact bldR_sound _ _ h1 hK
  case pick x y z =>
    generalize A.ev sl x = a at h ⊢; generalize A.ev sl y = b at h ⊢; generalize A.ev sl z = c at h ⊢
    unfold pickR at h
    split at h
    · cases h; rename_i t _ _; cases t <;> exact hK
    · cases h; rename_i t hn
      cases t
      · simp only [cond_false] at hK
        unfold pickK
        split <;> simp_all
      · simp only [cond_true] at hK
        unfold pickK
        split <;> simp_all
    · cases h
  case bin op x y =>
    generalize A.ev sl x = a at h ⊢; generalize A.ev sl y = b at h ⊢
    unfold binR at h; split at h
    · simp only [binK]
      cases op <;> simp only [intR] at h <;> obtain ⟨h1, rfl⟩ := gdR_some h <;> simp only [Bool.and_eq_true, decide_eq_true_eq] at h1 <;> simp only [intK] <;> first | exact ⟨h1, hK⟩ | exact ⟨h1.1, h1.2, hK⟩
    · simp only [binK]
      cases op <;> simp only [strR] at h <;> first | (obtain ⟨h1, rfl⟩ := gdR_some h; exact ⟨of_decide_eq_true h1, hK⟩) | (cases h; exact hK) | cases h
    · cases h
  case not x => obtain ⟨rfl, h1⟩ := nz_some h; generalize A.ev sl x = a at h1 hK ⊢; unfold notV at h1 hK; unfold notK; split <;> simp_all
  case neg x => obtain ⟨rfl, h1⟩ := nz_some h; generalize A.ev sl x = a at h1 hK ⊢; unfold negV at h1 hK; unfold negK; split <;> simp_all
  case isnil x => obtain ⟨rfl, h1⟩ := nz_some h; generalize A.ev sl x = a at h1 hK ⊢; unfold isnilV at h1 hK; unfold isnilK; split <;> simp_all
  case pnil x => obtain ⟨rfl, h1⟩ := nz_some h; generalize A.ev sl x = a at h1 hK ⊢; unfold pnilV at h1 hK; unfold pnilK; split <;> simp_all
  case fnil x => obtain ⟨rfl, h1⟩ := nz_some h; generalize A.ev sl x = a at h1 hK ⊢; unfold fnilV at h1 hK; unfold fnilK; split <;> simp_all
  case cvi x => obtain ⟨rfl, h1⟩ := nz_some h; generalize A.ev sl x = a at h1 hK ⊢; unfold cviV at h1 hK; unfold cviK; split <;> simp_all
  case cvs x => obtain ⟨rfl, h1⟩ := nz_some h; generalize A.ev sl x = a at h1 hK ⊢; unfold cvsV at h1 hK; unfold cvsK; split <;> simp_all
  case lenS x => obtain ⟨rfl, h1⟩ := nz_some h; generalize A.ev sl x = a at h1 hK ⊢; unfold lenSV at h1 hK; unfold lenSK; split <;> simp_all
  case beq x y => obtain ⟨rfl, h1⟩ := nz_some h; generalize A.ev sl x = a at h1 hK ⊢; generalize A.ev sl y = b at h1 hK ⊢; unfold beqV at h1 hK; unfold beqK; split <;> simp_all
  case peq x y =>
    generalize A.ev sl x = a at h ⊢; generalize A.ev sl y = b at h ⊢
    unfold peqR at h; split at h
    · obtain ⟨h1, rfl⟩ := gdR_some h
      simp only [Bool.and_eq_true, decide_eq_true_eq, Option.isSome_iff_exists] at h1
      exact ⟨h1.1.1, h1.1.2, h1.2, hK⟩
    · cases h
  case usd x =>
    generalize A.ev sl x = a at h ⊢
    unfold usdR at h; split at h
    · unfold usdRo at h
      simp only [usdK]
      split at h
      · rename_i E sz xs hl
        obtain ⟨h1, rfl⟩ := gdR_some h
        simp at h1
        exact ⟨⟨_, _, _, hl, h1.1.1, h1.1.2, h1.2⟩, hK⟩
      · cases h
    · cases h; exact hK
    · cases h
  case idx x y =>
    generalize A.ev sl x = a at h ⊢; generalize A.ev sl y = b at h ⊢
    unfold idxR at h; split at h
    · obtain ⟨h1, rfl⟩ := gdR_some h
      simp only [Bool.and_eq_true, decide_eq_true_eq] at h1
      exact ⟨h1, hK⟩
    · cases h
  case idxA x y =>
    generalize A.ev sl x = a at h ⊢; generalize A.ev sl y = b at h ⊢
    unfold idxAR at h; split at h
    · obtain ⟨h1, rfl⟩ := gdR_some h
      simp only [Bool.and_eq_true, decide_eq_true_eq] at h1
      exact ⟨h1.1.1, ⟨h1.1.2, h1.2⟩, hK⟩
    · cases h
  case eqD x y =>
    generalize A.ev sl x = a at h ⊢; generalize A.ev sl y = b at h ⊢
    unfold eqDR at h; split at h
    · obtain ⟨h1, rfl⟩ := gdR_some h
      simp only [Bool.and_eq_true] at h1
      exact ⟨h1.1, h1.2, hK⟩
    · cases h
  case aix x y =>
    generalize A.ev sl x = a at h ⊢; generalize A.ev sl y = b at h ⊢
    unfold idxVR at h; split at h
    · obtain ⟨h1, rfl⟩ := gdR_some h
      simp only [Bool.and_eq_true, decide_eq_true_eq, List.all_eq_true, beq_iff_eq] at h1
      exact ⟨⟨h1.1.1.1, h1.1.1.2⟩, h1.1.2, h1.2, hK⟩
    · cases h
  case idxP x y =>
    generalize A.ev sl x = a at h ⊢; generalize A.ev sl y = b at h ⊢
    unfold idxPR at h; split at h
    · rw [Bool.cond_eq_ite] at h; split at h
      · rename_i hc
        unfold idxPRo at h; split at h
        · rename_i ks hk
          obtain ⟨h1, rfl⟩ := gdR_some h
          simp only [Bool.and_eq_true, decide_eq_true_eq, List.all_eq_true] at h1 hc
          exact ⟨hc, ⟨ks, hk, h1.1, h1.2⟩, hK⟩
        · cases h
      · cases h
    · obtain ⟨h1, rfl⟩ := gdR_some h
      simp only [Bool.and_eq_true, decide_eq_true_eq, List.all_eq_true] at h1
      exact ⟨⟨h1.1.1.1, h1.1.1.2⟩, h1.1.2, h1.2, hK⟩
    · cases h
  case fldA x =>
    generalize A.ev sl x = a at h ⊢
    unfold fldAR at h; split at h
    · unfold fldARo at h; split at h
      · rename_i ks hk
        obtain ⟨h1, rfl⟩ := gdR_some h
        simp only [Bool.and_eq_true, decide_eq_true_eq] at h1
        simp only [fldAK, hk]
        exact ⟨h1.1, h1.2, hK⟩
      · cases h
    · obtain ⟨h1, rfl⟩ := gdR_some h
      simp only [Bool.and_eq_true, decide_eq_true_eq] at h1
      exact ⟨h1.1, h1.2, hK⟩
    · cases h
  case fld x =>
    generalize (A.ev sl x).kids = a at h ⊢
    unfold fldR at h; split at h
    · obtain ⟨h1, rfl⟩ := gdR_some h
      simp only [Bool.and_eq_true, decide_eq_true_eq, beq_iff_eq] at h1
      exact ⟨h1.1.1.1, h1.1.1.2, h1.1.2, h1.2, hK⟩
    · cases h
  case ld x =>
    generalize A.ev sl x = a at h ⊢
    unfold ldR at h; split at h
    · unfold ldRo at h; split at h
      · rename_i v hk
        obtain ⟨h1, rfl⟩ := gdR_some h
        simp only [Bool.and_eq_true, decide_eq_true_eq, beq_iff_eq] at h1
        simp only [ldK, hk]
        exact ⟨h1.1, h1.2, hK⟩
      · cases h
    · obtain ⟨h1, rfl⟩ := gdR_some h
      simp only [Bool.and_eq_true, decide_eq_true_eq, beq_iff_eq] at h1
      exact ⟨h1.1, h1.2, hK⟩
    · cases h
  case nilc x =>
    generalize A.ev sl x = a at h ⊢
    unfold nilcR at h; split at h <;> cases h <;> exact hK
  case lenL x =>
    generalize A.ev sl x = a at h ⊢
    unfold lenLR at h; split at h
    · cases h; exact hK
    · cases h; exact hK
    · unfold lenLRo at h; split at h
      · rename_i E z xs hl
        obtain ⟨h1, rfl⟩ := gdR_some h
        exact ⟨⟨_, _, _, hl, of_decide_eq_true h1⟩, hK⟩
      · cases h
    · cases h
  case slcS x lo hi =>
    generalize A.ev sl x = a at h ⊢
    unfold slcSR at h; split at h
    · rw [Option.map_eq_some_iff] at h
      obtain ⟨p, h1, rfl⟩ := h
      exact bndR_sound (K := fun l h => K (.d (.str ((List.take h _).drop l)))) h1 hK
    · cases h
  case slcL x lo hi =>
    generalize A.ev sl x = a at h ⊢
    unfold slcLR at h; split at h
    · rw [Bool.cond_eq_ite] at h; split at h
      · rename_i hc
        rw [Option.map_eq_some_iff] at h
        obtain ⟨p, h1, rfl⟩ := h
        exact ⟨of_decide_eq_true hc, bndR_sound (K := fun l h => K (.d (.list _ ((List.take h _).drop l)))) h1 hK⟩
      · cases h
    · cases h
  case ext x i =>
    generalize A.ev sl x = a at h ⊢
    unfold extR at h; split at h
    · obtain ⟨h1, rfl⟩ := gdR_some h
      exact ⟨of_decide_eq_true h1, hK⟩
    · cases h
  case tas t z x =>
    generalize A.ev sl x = a at h ⊢
    unfold tasR at h; split at h
    · cases h
      refine ⟨fun e => ?_, fun e => ?_⟩ <;> simp [e] at hK <;> exact hK
    · cases h
      refine ⟨fun e => ?_, fun e => ?_⟩ <;> simp [e] at hK <;> exact hK
    · cases h; exact hK
    · cases h
end Go.Ab
/- An evaluator of statements and functions, and that what it yields holds. Over any program; no condition. -/
namespace Go.Ab
open Go

inductive Rr where
  | ok (v : V) (ob : Objs)
  | pn (v : V) (ob : Objs)
  | no

def bytesOf : List D → Option (List UInt8)
  | [] => some []
  | .int .u8 n :: r => bif decide (0 ≤ n) && decide (n < 256) then (bytesOf r).map fun s => UInt8.ofNat n.toNat :: s else none
  | _ => none
theorem bytesOf_eq : ∀ {l : List D} {s : List UInt8}, bytesOf l = some s → l = bytesD s
  | [], s, h => by simp only [bytesOf, Option.some.injEq] at h; subst h; rfl
  | x :: r, s, h => by
    unfold bytesOf at h
    split at h
    · rename_i e; cases e
    · rename_i n r' e
      cases e
      rw [Bool.cond_eq_ite] at h
      split at h
      · rename_i hc
        simp only [Bool.and_eq_true, decide_eq_true_eq] at hc
        rw [Option.map_eq_some_iff] at h
        obtain ⟨t, h1, rfl⟩ := h
        rw [bytesOf_eq h1]
        have : ((UInt8.ofNat n.toNat).toNat : Int) = n := by rw [UInt8.toNat_ofNat']; omega
        simp only [bytesD, this]
      · cases h
    · cases h

def stRt (ob : Objs) (id : Nat) (p : List Nat) (n E : Nat) (v t : V) : Option V → Rr
  | some old => bif Sh.beq v.shape old.shape && decide (old.size = n) && v.sto then (match t.set p v with | some t' => .ok .undef (setO ob id (.box E t')) | none => .no) else .no
  | none => .no
def stRo (ob : Objs) (id : Nat) (p : List Nat) (n : Nat) (v : V) : Option Ob → Rr
  | some (.box E t) => stRt ob id p n E v t (t.at p)
  | _ => .no
def stR (ob : Objs) (n : Nat) (v : V) : V → Rr
  | .ptr id p => stRo ob id p n v (lookO ob id)
  | _ => .no
def srcR (sz : Nat) : V → Option (List D)
  | .d (.list z ys) => bif decide (z = sz) then some ys else none
  | .d .nils => some []
  | _ => none
def appRo (id E sz B n : Nat) (ob : Objs) (ys : List D) : Option Ob → Rr
  | some (.arr E' sz' xs) => bif decide (E' = E) && decide (sz' = sz) && decide (n = xs.length) && decide ((2 * (xs.length + ys.length) + 192) * B ≤ 281474976710656) then .ok (.sl id (xs.length + ys.length)) (setO ob id (.arr E sz (xs ++ ys))) else .no
  | _ => .no
def appR (E sz B : Nat) (ob : Objs) (ys : List D) : V → Rr
  | .sl id n => appRo id E sz B n ob ys (lookO ob id)
  | .d .nils => bif decide ((2 * ys.length + 192) * B ≤ 281474976710656) then .ok (.sl (fresh ob) ys.length) ((fresh ob, .arr E sz ys) :: ob) else .no
  | _ => .no
def optR (o : Option V) (ob : Objs) : Rr := match o with
  | some v => .ok v ob
  | none => .no
def b2sR : V → Option V
  | .d (.list sz xs) => bif decide (sz = 1) then (bytesOf xs).map fun s => .d (.str s) else none
  | .d .nils => some (.d (.str []))
  | _ => none
def s2bR : V → Option V
  | .d (.str s) => some (.d (.list 1 (bytesD s)))
  | _ => none
def srcSR : V → Option (List D)
  | .d (.str s) => some (bytesD s)
  | _ => none
def givR : Option (D × Objs) → Rr
  | some (d, ob) => .ok (.d d) ob
  | none => .no
def ldfRo (n : Nat) (ag : Bool) (ob : Objs) : Option V → Rr
  | some v => bif decide (v.size = n) && (v.isAgg == ag) then givR (V.giv ob v) else .no
  | none => .no
def ldfR (n : Nat) (ag : Bool) (ob : Objs) : V → Rr
  | .ptr id p => ldfRo n ag ob (atO ob id p)
  | _ => .no
def V.isNils : V → Bool
  | .d .nils => true
  | _ => false
def atNil : Option V → Bool
  | some v => v.isNils
  | none => false
def mvgRt (ob : Objs) (id : Nat) (p : List Nat) (E sz : Nat) (y : V) : Option Ob → Rr
  | some (.box E0 t) => bif atNil (t.at p) then (match t.set p (.sl (fresh ob) 0) with | some t' => .ok y ((fresh ob, .arr E sz []) :: setO ob id (.box E0 t')) | none => .no) else .no
  | _ => .no
def mvgR (ob : Objs) (E sz : Nat) (p : List Nat) (y : V) : V → Rr
  | .ptr id q => mvgRt ob id (q ++ p) E sz y (lookO ob id)
  | _ => .no
def mvnR (y x : V) : List (Nat × Nat × List Nat) → Objs → Rr
  | [], ob => .ok y ob
  | e :: l, ob => match mvgR ob e.1 e.2.1 e.2.2 y x with
    | .ok _ ob' => mvnR y x l ob'
    | _ => .no
def cvbRo (id n : Nat) (ob : Objs) : Option Ob → Rr
  | some (.arr _ sz xs) => bif decide (sz ≠ 0) && decide (n = xs.length) && !xs.isEmpty then .ok (.d (.list sz xs)) (setO ob id .gone) else .no
  | _ => .no
def cvbR (ob : Objs) : V → Rr
  | .sl id n => cvbRo id n ob (lookO ob id)
  | _ => .no
def ustrRo (id n : Nat) (m : Int) (E : Nat) (ob : Objs) : Option Ob → Rr
  | some (.arr E' sz xs) => bif decide (E' = E) && decide (sz = 1) && decide (n = xs.length) && decide (m = n) && decide (n ≤ 9223372036854775807) && !xs.isEmpty then (match bytesOf xs with | some s => .ok (.d (.str s)) (setO ob id .gone) | none => .no) else .no
  | _ => .no
def ustrR (E : Nat) (ob : Objs) : V → V → Rr
  | .sd id n, .d (.int .i64 m) => ustrRo id n m E ob (lookO ob id)
  | .d .nilp, .d (.int .i64 m) => bif decide (m = 0) then .ok (.d (.str [])) ob else .no
  | _, _ => .no
def panicR (ob : Objs) : V → Rr
  | .iface t v => .pn (.iface t v) ob
  | .d (.iface t v) => .pn (.d (.iface t v)) ob
  | _ => .no

structure Fns where
  call : Nat → List V → Objs → Option (Out × Objs)
  pc : Nat → List V → Objs → Option V
  ca : Nat → Bool
  gl : Nat → Option D
structure Fns.ok (P : Prg) (R : Fns) : Prop where
  call : ∀ f vs ob o b, R.call f vs ob = some (o, b) → ACall P f vs ob fun o' b' => o' = o ∧ b' = b
  pc : ∀ f vs ob v, R.pc f vs ob = some v → PCall P f vs ob fun v' => v' = v
  ca : ∀ f, R.ca f = true → callable P.p f = true
  gl : ∀ g x, R.gl g = some x → GlobIs P g x

def outR : Option (Out × Objs) → Rr
  | some (.ret v, ob) => .ok v ob
  | some (.panic v, ob) => .pn v ob
  | none => .no
def callvR (R : Fns) (args : List V) (ob : Objs) : V → Rr
  | .fn f fi ca => bif R.ca f then outR (R.call f (fi ++ args ++ ca) ob) else .no
  | .d (.fn f fi ca) => bif R.ca f then outR (R.call f (fi.map .d ++ args ++ ca.map .d) ob) else .no
  | _ => .no
def allDR (l : Option (List V)) : Option (List D) := match l with
  | some ks => V.allD ks
  | none => none

def keysB (kd k : D) (es : List (D × V)) : Bool := D.alike kd k && es.all fun e => D.alike k e.1
theorem keysB_ok {kd k : D} {es : List (D × V)} (h : keysB kd k es = true) : keysOk kd k es := by
  simp only [keysB, Bool.and_eq_true, List.all_eq_true] at h
  exact h
def lkpRo (kd z : D) (ok : Bool) (k : D) : Option Ob → Option V
  | some (.map es) => gdR (keysB kd k es) (lkpV z ok (findE k es))
  | _ => none
def lkpR (ob : Objs) (kd z : D) (ok : Bool) : V → V → Option V
  | .mp id, .d k => lkpRo kd z ok k (lookO ob id)
  | .d .nilm, .d k => gdR (D.alike kd k) (lkpV z ok none)
  | _, _ => none
def msetRo (ob : Objs) (id : Nat) (kd k : D) (v : V) : Option Ob → Rr
  | some (.map es) => bif keysB kd k es && v.sto then .ok .undef (setO ob id (.map (updE k v es))) else .no
  | _ => .no
def msetR (ob : Objs) (kd : D) (v : V) : V → V → Rr
  | .mp id, .d k => msetRo ob id kd k v (lookO ob id)
  | _, _ => .no
def slgRv (ob : Objs) (id n z : Nat) : Option V → Rr
  | some (.d (.agg xs)) => bif decide (xs.length = n) && xs.all (fun x => decide (x.sz = z)) then .ok (.d (.list z xs)) (setO ob id .gone) else .no
  | _ => .no
def slgR (ob : Objs) (n z : Nat) : V → Rr
  | .ptr id p => slgRv ob id n z (atO ob id p)
  | _ => .no
def isIntB : V → Bool
  | .d (.int _ _) => true
  | _ => false
def mkmB (sl : Slots) : Option A → Bool
  | none => true
  | some x => isIntB (x.ev sl)

def I.run (R : Fns) (sl : Slots) (ob : Objs) : I → Rr
  | .c x => optR (x.run sl ob) ob
  | .box E x => bif (x.ev sl).sto then .ok (.ptr (fresh ob) []) ((fresh ob, .box E (x.ev sl)) :: ob) else .no
  | .alloc E z => bif (V.d z).sto then .ok (.ptr (fresh ob) []) ((fresh ob, .box E (.d z)) :: ob) else .no
  | .bls sz z parts => match allDR (bldR (z.map .d) (parts.map fun (i, x) => (i, x.ev sl))) with
    | some l => .ok (.d (.list sz l)) ob
    | none => .no
  | .blo E sz z parts => match allDR (bldR (z.map .d) (parts.map fun (i, x) => (i, x.ev sl))) with
    | some l => .ok (.sl (fresh ob) l.length) ((fresh ob, .arr E sz l) :: ob)
    | none => .no
  | .st n x v => stR ob n (v.ev sl) (x.ev sl)
  | .app E sz B x y => match srcR sz (y.ev sl) with
    | some ys => appR E sz B ob ys (x.ev sl)
    | none => .no
  | .appS E B x y => match srcSR (y.ev sl) with
    | some ys => appR E 1 B ob ys (x.ev sl)
    | none => .no
  | .call f args => outR (R.call f (args.map (A.ev sl)) ob)
  | .pcall f args => optR (R.pc f (args.map (A.ev sl)) ob) ob
  | .callv x args => callvR R (args.map (A.ev sl)) ob (x.ev sl)
  | .panic x => panicR ob (x.ev sl)
  | .b2s x => optR (b2sR (x.ev sl)) ob
  | .s2b x => optR (s2bR (x.ev sl)) ob
  | .nilo E sz x => bif (x.ev sl).isNils then .ok (.sl (fresh ob) 0) ((fresh ob, .arr E sz []) :: ob) else .no
  | .mvf x => givR (V.giv ob (x.ev sl))
  | .ldf n ag x => ldfR n ag ob (x.ev sl)
  | .mvg E sz y x p => mvgR ob E sz p (y.ev sl) (x.ev sl)
  | .mvn y x l => mvnR (y.ev sl) (x.ev sl) l ob
  | .cvb x => cvbR ob (x.ev sl)
  | .ustr E x y => ustrR E ob (x.ev sl) (y.ev sl)
  | .mkm r => bif mkmB sl r then .ok (.mp (fresh ob)) ((fresh ob, .map []) :: ob) else .no
  | .lkp kd z ok m k => optR (lkpR ob kd z ok (m.ev sl) (k.ev sl)) ob
  | .mset kd m k v => msetR ob kd (v.ev sl) (m.ev sl) (k.ev sl)
  | .gld g n ag x => match R.gl g with
    | some y => bif decide (y.sz = n) && ((V.d y).isAgg == ag) && D.eqb x y then .ok (.d x) ob else .no
    | none => .no
  | .slg n z x => slgR ob n z (x.ev sl)

def Rr.to (K Pn : V → Objs → Prop) : Rr → Prop
  | .ok v ob => K v ob
  | .pn v ob => Pn v ob
  | .no => False

section
variable {P : Prg} {R : Fns} {sl : Slots} {ob : Objs} {K Pn : V → Objs → Prop}
theorem optR_to {o : Option V} (h : (optR o ob).to K Pn) : ∃ v, o = some v ∧ K v ob := by
  unfold optR at h; split at h
  · exact ⟨_, rfl, h⟩
  · exact h.elim
theorem isNils_eq {v : V} (h : v.isNils = true) : v = .d .nils := by
  unfold V.isNils at h; split at h
  · rfl
  · cases h
theorem outR_to (hR : R.ok P) {f : Nat} {vs : List V} (h : (outR (R.call f vs ob)).to K Pn) : ACall P f vs ob (outK K Pn) := by
  unfold outR at h
  split at h
  · rename_i v b hc
    exact (hR.call f vs ob _ _ hc).mono fun o b ⟨e1, e2⟩ => by subst e1; subst e2; exact h
  · rename_i v b hc
    exact (hR.call f vs ob _ _ hc).mono fun o b ⟨e1, e2⟩ => by subst e1; subst e2; exact h
  · exact h.elim
theorem givR_to {o : Option (D × Objs)} (h : (givR o).to K Pn) : givK K o := by
  unfold givR at h; split at h
  · exact h
  · exact h.elim
theorem cond_to {b : Bool} {x : Rr} (h : (bif b then x else .no).to K Pn) : b = true ∧ x.to K Pn := by
  cases b
  · exact h.elim
  · exact ⟨rfl, h⟩
theorem mvgR_to {E sz : Nat} {y a : V} {p : List Nat} (h : (mvgR ob E sz p y a).to K Pn) : mvgK ob E sz p y K a := by
  unfold mvgR at h; split at h
  · unfold mvgRt at h; split at h
    · rename_i E0 t hl
      obtain ⟨h1, h2⟩ := cond_to h
      split at h2
      · rename_i t' ht
        unfold atNil at h1
        split at h1
        · rename_i v hv
          simp only [mvgK, hl, mvgKt, ht, mvgKs]
          exact ⟨by rw [hv, isNils_eq h1], h2⟩
        · cases h1
      · exact h2.elim
    · exact h.elim
  · exact h.elim
theorem mvnR_to {y a : V} : ∀ {l : List (Nat × Nat × List Nat)} {ob : Objs}, (mvnR y a l ob).to K Pn → mvnK y K a l ob
  | [], _, h => h
  | e :: l, ob, h => by
    unfold mvnR at h
    split at h
    · rename_i v' ob' he
      exact mvgR_to (Pn := fun _ _ => False) (by rw [he]; exact mvnR_to h)
    · exact h.elim

theorem I.run_sound (hR : R.ok P) {i : I} (h : (i.run R sl ob).to K Pn) : i.wp P sl ob K Pn := by
  cases i <;> simp only [I.run] at h <;> simp only [I.wp]
  case c x =>
    obtain ⟨v, h1, h2⟩ := optR_to h
    exact C.run_sound (K := fun v => K v ob) h1 h2
  case box E x => obtain ⟨h1, h2⟩ := cond_to h; exact ⟨h1, h2⟩
  case alloc E z => obtain ⟨h1, h2⟩ := cond_to h; exact ⟨h1, h2⟩
  case bls sz z parts =>
    split at h
    · rename_i l hl
      unfold allDR at hl
      split at hl
      · rename_i ks hk
        refine bldR_sound _ _ hk ?_
        rw [hl]; exact h
      · cases hl
    · exact h.elim
  case blo E sz z parts =>
    split at h
    · rename_i l hl
      unfold allDR at hl
      split at hl
      · rename_i ks hk
        refine bldR_sound _ _ hk ?_
        rw [hl]; exact h
      · cases hl
    · exact h.elim
  case st n x v =>
    generalize A.ev sl x = a at h ⊢
    unfold stR at h; split at h
    · unfold stRo at h; split at h
      · rename_i E t hl
        unfold stRt at h; split at h
        · rename_i old ho
          obtain ⟨h1, h2⟩ := cond_to h
          simp only [Bool.and_eq_true, decide_eq_true_eq] at h1
          split at h2
          · rename_i t' ht
            simp only [stK, hl, stKo, ho, stKt]
            exact ⟨Sh.beq_eq _ _ h1.1.1, h1.1.2, h1.2, t', ht, h2⟩
          · exact h2.elim
        · exact h.elim
      · exact h.elim
    · exact h.elim
  case app E sz B x y =>
    split at h
    · rename_i ys hy
      have hx : appK E sz B ob ys K (A.ev sl x) := by
        generalize A.ev sl x = a at h ⊢
        unfold appR at h; split at h
        · unfold appRo at h; split at h
          · rename_i E' sz' xs hl
            obtain ⟨h1, h2⟩ := cond_to h
            simp only [Bool.and_eq_true, decide_eq_true_eq] at h1
            simp only [appK, hl, appKo]
            exact ⟨h1.1.1.1, h1.1.1.2, h1.1.2, h1.2, h2⟩
          · exact h.elim
        · obtain ⟨h1, h2⟩ := cond_to h
          exact ⟨of_decide_eq_true h1, h2⟩
        · exact h.elim
      generalize A.ev sl y = b at hy ⊢
      unfold srcR at hy; split at hy
      · rw [Bool.cond_eq_ite] at hy; split at hy
        · rename_i hc; cases hy; exact ⟨of_decide_eq_true hc, hx⟩
        · cases hy
      · cases hy; exact hx
      · cases hy
    · exact h.elim
  case appS E B x y =>
    split at h
    · rename_i ys hy
      have hx : appK E 1 B ob ys K (A.ev sl x) := by
        generalize A.ev sl x = a at h ⊢
        unfold appR at h; split at h
        · unfold appRo at h; split at h
          · rename_i E' sz' xs hl
            obtain ⟨h1, h2⟩ := cond_to h
            simp only [Bool.and_eq_true, decide_eq_true_eq] at h1
            simp only [appK, hl, appKo]
            exact ⟨h1.1.1.1, h1.1.1.2, h1.1.2, h1.2, h2⟩
          · exact h.elim
        · obtain ⟨h1, h2⟩ := cond_to h
          exact ⟨of_decide_eq_true h1, h2⟩
        · exact h.elim
      generalize A.ev sl y = b at hy ⊢
      unfold srcSR at hy; split at hy
      · cases hy; exact hx
      · cases hy
    · exact h.elim
  case call f args => exact outR_to hR h
  case pcall f args =>
    obtain ⟨v, h1, h2⟩ := optR_to h
    exact (hR.pc _ _ _ _ h1).mono fun v' e => by subst e; exact h2
  case callv x args =>
    generalize A.ev sl x = a at h ⊢
    unfold callvR at h; split at h
    · obtain ⟨h1, h2⟩ := cond_to h
      exact ⟨hR.ca _ h1, outR_to hR h2⟩
    · obtain ⟨h1, h2⟩ := cond_to h
      exact ⟨hR.ca _ h1, outR_to hR h2⟩
    · exact h.elim
  case panic x =>
    generalize A.ev sl x = a at h ⊢
    unfold panicR at h; split at h
    · exact h
    · exact h
    · exact h.elim
  case b2s x =>
    obtain ⟨v, h1, h2⟩ := optR_to h
    generalize A.ev sl x = a at h1 ⊢
    unfold b2sR at h1; split at h1
    · rw [Bool.cond_eq_ite] at h1; split at h1
      · rename_i hc
        rw [Option.map_eq_some_iff] at h1
        obtain ⟨s, h3, rfl⟩ := h1
        exact ⟨of_decide_eq_true hc, s, bytesOf_eq h3, h2⟩
      · cases h1
    · cases h1; exact h2
    · cases h1
  case s2b x =>
    obtain ⟨v, h1, h2⟩ := optR_to h
    generalize A.ev sl x = a at h1 ⊢
    unfold s2bR at h1; split at h1
    · cases h1; exact h2
    · cases h1
  case nilo E sz x => obtain ⟨h1, h2⟩ := cond_to h; rw [isNils_eq h1]; exact h2
  case mvf x => exact givR_to h
  case ldf n ag x =>
    generalize A.ev sl x = a at h ⊢
    unfold ldfR at h; split at h
    · unfold ldfRo at h; split at h
      · rename_i v hv
        obtain ⟨h1, h2⟩ := cond_to h
        simp only [Bool.and_eq_true, decide_eq_true_eq, beq_iff_eq] at h1
        simp only [ldfK, hv, ldfKo]
        exact ⟨h1.1, h1.2, givR_to h2⟩
      · exact h.elim
    · exact h.elim
  case mvg => exact mvgR_to h
  case mvn => exact mvnR_to h
  case cvb x =>
    generalize A.ev sl x = a at h ⊢
    unfold cvbR at h; split at h
    · unfold cvbRo at h; split at h
      · rename_i E' sz xs hl
        obtain ⟨h1, h2⟩ := cond_to h
        simp at h1
        simp only [cvbK, hl, cvbKo]
        exact ⟨h1.1.1, h1.1.2, h1.2, h2⟩
      · exact h.elim
    · exact h.elim
  case ustr E x y =>
    generalize A.ev sl x = a at h ⊢; generalize A.ev sl y = b at h ⊢
    unfold ustrR at h; split at h
    · unfold ustrRo at h; split at h
      · rename_i E' sz xs hl
        obtain ⟨h1, h2⟩ := cond_to h
        split at h2
        · rename_i s hs
          simp at h1
          simp only [ustrK, hl, ustrKo]
          exact ⟨h1.1.1.1.1.1, h1.1.1.1.1.2, h1.1.1.1.2, h1.1.1.2, h1.1.2, h1.2, s, bytesOf_eq hs, h2⟩
        · exact h2.elim
      · exact h.elim
    · obtain ⟨h1, h2⟩ := cond_to h
      exact ⟨of_decide_eq_true h1, h2⟩
    · exact h.elim
  case mkm r =>
    obtain ⟨h1, h2⟩ := cond_to h
    refine ⟨?_, h2⟩
    cases r with
    | none => trivial
    | some x =>
      simp only [mkmB] at h1
      simp only [mkmK]
      generalize A.ev sl x = a at h1 ⊢
      unfold isIntB at h1; split at h1
      · trivial
      · cases h1
  case lkp kd z ok m k =>
    obtain ⟨v, h1, h2⟩ := optR_to h
    generalize A.ev sl m = a at h1 ⊢; generalize A.ev sl k = b at h1 ⊢
    unfold lkpR at h1; split at h1
    · unfold lkpRo at h1; split at h1
      · rename_i es hl
        obtain ⟨h3, rfl⟩ := gdR_some h1
        simp only [lkpK, hl, lkpKo]
        exact ⟨keysB_ok h3, h2⟩
      · cases h1
    · obtain ⟨h3, rfl⟩ := gdR_some h1
      exact ⟨h3, h2⟩
    · cases h1
  case mset kd m k v =>
    generalize A.ev sl m = a at h ⊢; generalize A.ev sl k = b at h ⊢
    unfold msetR at h; split at h
    · unfold msetRo at h; split at h
      · rename_i es hl
        obtain ⟨h1, h2⟩ := cond_to h
        simp only [Bool.and_eq_true] at h1
        simp only [msetK, hl, msetKo]
        exact ⟨keysB_ok h1.1, h1.2, h2⟩
      · exact h.elim
    · exact h.elim
  case slg n z x =>
    generalize A.ev sl x = a at h ⊢
    unfold slgR at h; split at h
    · rename_i id p
      unfold slgRv at h; split at h
      · rename_i xs hat
        obtain ⟨h1, h2⟩ := cond_to h
        simp only [Bool.and_eq_true, decide_eq_true_eq, List.all_eq_true] at h1
        simp only [slgK, hat, slgKv]
        exact ⟨h1.1, h1.2, h2⟩
      · exact h.elim
    · exact h.elim
  case gld g n ag x =>
    split at h
    · rename_i y hy
      obtain ⟨h1, h2⟩ := cond_to h
      simp only [Bool.and_eq_true, decide_eq_true_eq, beq_iff_eq] at h1
      have e := D.eqb_eq _ _ h1.2
      subst e
      exact ⟨hR.gl g _ hy, h1.1.1, h1.1.2, h2⟩
    · exact h.elim
end

inductive Rq where
  | ok (sl : Slots) (ob : Objs)
  | pn (v : V) (sl : Slots) (ob : Objs)
  | no
def Rq.to (K : Slots → Objs → Prop) (Pn : V → Slots → Objs → Prop) : Rq → Prop
  | .ok sl ob => K sl ob
  | .pn v sl ob => Pn v sl ob
  | .no => False

mutual
def V.ids : V → List Nat
  | .ptr id _ => [id]
  | .sl id _ => [id]
  | .sd id _ => [id]
  | .mp id => [id]
  | .ep id _ _ _ _ => [id]
  | .fn _ a b => V.idss a ++ V.idss b
  | .agg xs => V.idss xs
  | .iface _ v => V.ids v
  | .tup xs => V.idss xs
  | _ => []
def V.idss : List V → List Nat
  | [] => []
  | x :: r => V.ids x ++ V.idss r
end
def idsS : Slots → List Nat
  | [] => []
  | (_, v) :: r => V.ids v ++ idsS r
def idsO : Objs → List Nat
  | [] => []
  | (_, .box _ t) :: r => V.ids t ++ idsO r
  | (_, .vec _ _ xs) :: r => V.idss xs ++ idsO r
  | (_, .map es) :: r => V.idss (es.map (·.2)) ++ idsO r
  | _ :: r => idsO r

def stepR (R : Fns) (sl : Slots) (ob : Objs) (d : Option Nat) (i : I) (k : Slots → Objs → Rq) : Rq := match i.run R sl ob with
  | .ok v ob' => k (put sl d v) ob'
  | .pn v ob' => .pn v sl ob'
  | .no => .no
def rrun (R : Fns) : List It → Slots → Objs → Rq
  | [], sl, ob => .ok sl ob
  | .op d i :: r, sl, ob => stepR R sl ob d i (rrun R r)
  | .gop s want d i :: r, sl, ob => match look sl s with
    | .d (.bool b) => bif b == want then stepR R ((s, .d (.bool want)) :: sl) ob d i (rrun R r) else rrun R r (put ((s, .d (.bool (!want))) :: sl) d .undef) ob
    | .undef => rrun R r (put sl d .undef) ob
    | _ => .no

theorem stepR_sound {P : Prg} {R : Fns} (hR : R.ok P) {sl : Slots} {ob : Objs} {d : Option Nat} {i : I} {k : Slots → Objs → Rq} {k' K : Slots → Objs → Prop} {Pn : V → Slots → Objs → Prop} (hk : ∀ sl ob, (k sl ob).to K Pn → k' sl ob) (h : (stepR R sl ob d i k).to K Pn) :
    i.wp P sl ob (fun v ob' => k' (put sl d v) ob') (fun v ob' => Pn v sl ob') := by
  refine I.run_sound hR ?_
  unfold stepR at h
  split at h
  · rename_i e; rw [e]; exact hk _ _ h
  · rename_i e; rw [e]; exact h
  · exact h.elim
theorem rrun_sound {P : Prg} {R : Fns} (hR : R.ok P) {K : Slots → Objs → Prop} {Pn : V → Slots → Objs → Prop} : ∀ (l : List It) (sl : Slots) (ob : Objs), (rrun R l sl ob).to K Pn → rwp P K Pn l sl ob
  | [], sl, ob, h => h
  | .op d i :: r, sl, ob, h => stepR_sound hR (fun sl ob h => rrun_sound hR r sl ob h) h
  | .gop s want d i :: r, sl, ob, h => by
    simp only [rrun] at h
    simp only [rwp]
    split at h
    · rename_i b hb
      rw [hb]
      simp only [gdK]
      rw [Bool.cond_eq_ite] at h
      split at h
      · rename_i e
        have e : b = want := by simpa using e
        refine ⟨fun _ => stepR_sound hR (fun sl ob h => rrun_sound hR r sl ob h) h, fun e2 => ?_⟩
        rw [e] at e2; cases want <;> cases e2
      · rename_i e
        have e : ¬ b = want := by simpa using e
        exact ⟨fun e2 => (e e2).elim, fun _ => rrun_sound hR r _ ob h⟩
    · rename_i hb
      rw [hb]
      exact rrun_sound hR r _ ob h
    · exact h.elim

mutual
def V.eqb : V → V → Bool
  | .d x, .d y => D.eqb x y
  | .ptr i p, .ptr j q => Nat.beq i j && decide (p = q)
  | .sl i n, .sl j m => Nat.beq i j && Nat.beq n m
  | .sd i n, .sd j m => Nat.beq i j && Nat.beq n m
  | .mp i, .mp j => Nat.beq i j
  | .ep i n s k p, .ep j m t l q => Nat.beq i j && Nat.beq n m && Sh.beq s t && Nat.beq k l && decide (p = q)
  | .fn f a b, .fn g a2 b2 => Nat.beq f g && V.eqbs a a2 && V.eqbs b b2
  | .agg a, .agg b => V.eqbs a b
  | .iface t a, .iface u b => Nat.beq t u && V.eqb a b
  | .tup a, .tup b => V.eqbs a b
  | .undef, .undef => true
  | .any, .any => true
  | _, _ => false
def V.eqbs : List V → List V → Bool
  | [], [] => true
  | x :: r, y :: s => V.eqb x y && V.eqbs r s
  | _, _ => false
end
mutual
theorem V.eqb_eq : ∀ (x y : V), V.eqb x y = true → x = y
  | .d a, y, h => by cases y <;> simp only [V.eqb, Bool.false_eq_true] at h; rw [D.eqb_eq _ _ h]
  | .ptr i p, y, h => by cases y <;> simp only [V.eqb, Bool.false_eq_true, Bool.and_eq_true, decide_eq_true_eq] at h; rw [Nat.eq_of_beq_eq_true h.1, h.2]
  | .sl i n, y, h => by cases y <;> simp only [V.eqb, Bool.false_eq_true, Bool.and_eq_true] at h; rw [Nat.eq_of_beq_eq_true h.1, Nat.eq_of_beq_eq_true h.2]
  | .sd i n, y, h => by cases y <;> simp only [V.eqb, Bool.false_eq_true, Bool.and_eq_true] at h; rw [Nat.eq_of_beq_eq_true h.1, Nat.eq_of_beq_eq_true h.2]
  | .mp i, y, h => by cases y <;> simp only [V.eqb, Bool.false_eq_true] at h; rw [Nat.eq_of_beq_eq_true h]
  | .ep i n s k p, y, h => by
    cases y <;> simp only [V.eqb, Bool.false_eq_true, Bool.and_eq_true, decide_eq_true_eq] at h
    rw [Nat.eq_of_beq_eq_true h.1.1.1.1, Nat.eq_of_beq_eq_true h.1.1.1.2, Sh.beq_eq _ _ h.1.1.2, Nat.eq_of_beq_eq_true h.1.2, h.2]
  | .fn f a b, y, h => by
    cases y <;> simp only [V.eqb, Bool.false_eq_true, Bool.and_eq_true] at h
    rw [Nat.eq_of_beq_eq_true h.1.1, V.eqbs_eq _ _ h.1.2, V.eqbs_eq _ _ h.2]
  | .agg a, y, h => by cases y <;> simp only [V.eqb, Bool.false_eq_true] at h; rw [V.eqbs_eq _ _ h]
  | .iface t a, y, h => by cases y <;> simp only [V.eqb, Bool.false_eq_true, Bool.and_eq_true] at h; rw [Nat.eq_of_beq_eq_true h.1, V.eqb_eq _ _ h.2]
  | .tup a, y, h => by cases y <;> simp only [V.eqb, Bool.false_eq_true] at h; rw [V.eqbs_eq _ _ h]
  | .undef, y, h => by cases y <;> simp [V.eqb] at h; rfl
  | .any, y, h => by cases y <;> simp [V.eqb] at h; rfl
theorem V.eqbs_eq : ∀ (x y : List V), V.eqbs x y = true → x = y
  | [], y, h => by cases y <;> simp [V.eqbs] at h; rfl
  | x :: r, y, h => by
    cases y <;> simp only [V.eqbs, Bool.false_eq_true, Bool.and_eq_true] at h
    rw [V.eqb_eq _ _ h.1, V.eqbs_eq _ _ h.2]
end
def eqbE : List (D × V) → List (D × V) → Bool
  | [], [] => true
  | (k, x) :: r, (j, y) :: s => D.eqb k j && V.eqb x y && eqbE r s
  | _, _ => false
theorem eqbE_eq : ∀ (x y : List (D × V)), eqbE x y = true → x = y
  | [], y, h => by cases y <;> simp [eqbE] at h; rfl
  | (k, x) :: r, y, h => by
    cases y <;> simp only [eqbE, Bool.false_eq_true, Bool.and_eq_true] at h
    rw [D.eqb_eq _ _ h.1.1, V.eqb_eq _ _ h.1.2, eqbE_eq _ _ h.2]
def Ob.eqb : Ob → Ob → Bool
  | .box E t, .box F u => Nat.beq E F && V.eqb t u
  | .arr E z a, .arr F y b => Nat.beq E F && Nat.beq z y && D.eqbs a b
  | .vec E z a, .vec F y b => Nat.beq E F && Nat.beq z y && V.eqbs a b
  | .map a, .map b => eqbE a b
  | .gone, .gone => true
  | _, _ => false
theorem Ob.eqb_eq (x y : Ob) (h : Ob.eqb x y = true) : x = y := by
  cases x <;> cases y <;> simp only [Ob.eqb, Bool.false_eq_true, Bool.and_eq_true] at h
  · rw [Nat.eq_of_beq_eq_true h.1, V.eqb_eq _ _ h.2]
  · rw [Nat.eq_of_beq_eq_true h.1.1, Nat.eq_of_beq_eq_true h.1.2, D.eqbs_eq _ _ h.2]
  · rw [Nat.eq_of_beq_eq_true h.1.1, Nat.eq_of_beq_eq_true h.1.2, V.eqbs_eq _ _ h.2]
  · rw [eqbE_eq _ _ h]
  · rfl
def eqbS : Slots → Slots → Bool
  | [], [] => true
  | (k, x) :: r, (j, y) :: s => Nat.beq k j && V.eqb x y && eqbS r s
  | _, _ => false
theorem eqbS_eq : ∀ (x y : Slots), eqbS x y = true → x = y
  | [], y, h => by cases y <;> simp [eqbS] at h; rfl
  | (k, x) :: r, y, h => by
    cases y <;> simp only [eqbS, Bool.false_eq_true, Bool.and_eq_true] at h
    rw [Nat.eq_of_beq_eq_true h.1.1, V.eqb_eq _ _ h.1.2, eqbS_eq _ _ h.2]
def eqbO : Objs → Objs → Bool
  | [], [] => true
  | (k, x) :: r, (j, y) :: s => Nat.beq k j && Ob.eqb x y && eqbO r s
  | _, _ => false
theorem eqbO_eq : ∀ (x y : Objs), eqbO x y = true → x = y
  | [], y, h => by cases y <;> simp [eqbO] at h; rfl
  | (k, x) :: r, y, h => by
    cases y <;> simp only [eqbO, Bool.false_eq_true, Bool.and_eq_true] at h
    rw [Nat.eq_of_beq_eq_true h.1.1, Ob.eqb_eq _ _ h.1.2, eqbO_eq _ _ h.2]
def Rq.eqb : Rq → Rq → Bool
  | .ok a b, .ok c d => eqbS a c && eqbO b d
  | .pn v a b, .pn u c d => V.eqb v u && eqbS a c && eqbO b d
  | _, _ => false
theorem Rq.eqb_eq (x y : Rq) (h : Rq.eqb x y = true) : x = y := by
  cases x <;> cases y <;> simp only [Rq.eqb, Bool.false_eq_true, Bool.and_eq_true] at h
  · rw [eqbS_eq _ _ h.1, eqbO_eq _ _ h.2]
  · rw [V.eqb_eq _ _ h.1.1, eqbS_eq _ _ h.1.2, eqbO_eq _ _ h.2]
def bothR (x y : Rq) : Rq := bif Rq.eqb x y then x else .no
theorem bothR_to {K : Slots → Objs → Prop} {Pn : V → Slots → Objs → Prop} {x y : Rq} (h : (bothR x y).to K Pn) : x.to K Pn ∧ y.to K Pn := by
  unfold bothR at h
  cases hb : Rq.eqb x y with
  | false => rw [hb] at h; exact h.elim
  | true =>
    rw [hb] at h
    have := Rq.eqb_eq x y hb
    subst this
    exact ⟨h, h⟩
def itR (R : Fns) (k : Slots → Objs → Rq) : It → Slots → Objs → Rq
  | .op d i, sl, ob => stepR R sl ob d i k
  | .gop s want d i, sl, ob => match look sl s with
    | .d (.bool b) => bif b == want then stepR R ((s, .d (.bool want)) :: sl) ob d i k else k (put ((s, .d (.bool (!want))) :: sl) d .undef) ob
    | .undef => k (put sl d .undef) ob
    | _ => .no
def keepQ (keep pk : List Nat) : Rq → Rq
  | .ok sl ob => .ok (keepS sl keep) ob
  | .pn v sl ob => .pn v (keepS sl pk) ob
  | .no => .no
mutual
def orun (R : Fns) (keep pk : List Nat) : Ot → Slots → Objs → Rq
  | .done, sl, ob => .ok sl ob
  | .one _ x r, sl, ob => itR R (orun R keep pk r) x sl ob
  | .br l, sl, ob => oruns R keep pk l sl ob
def oruns (R : Fns) (keep pk : List Nat) : Ots → Slots → Objs → Rq
  | .nil, _, _ => .no
  | .cons _ x r .nil, sl, ob => keepQ keep pk (itR R (orun R keep pk r) x sl ob)
  | .cons _ x r l, sl, ob => bothR (keepQ keep pk (itR R (orun R keep pk r) x sl ob)) (oruns R keep pk l sl ob)
end

abbrev Rs := Option (AExit × Slots × Objs)
def Rs.to (Q : Post) : Rs → Prop
  | some (e, sl, ob) => Q e sl ob
  | none => False
def subR (keep : List Nat) (n : Nat) (sl : Slots) (ob : Objs) : Option (Slots × Objs) :=
  let kp := idsS (keepS sl keep) ++ idsO ob
  bif noMenS (young n kp) (keepS sl keep) && noMenO (young n kp) (dropO (young n kp) ob) then some (keepS sl keep, dropO (young n kp) ob) else none
def loopR (keep : List Nat) (body : Slots → Objs → Rs) : Nat → Slots → Objs → Rs
  | 0, _, _ => none
  | n + 1, sl, ob => match body sl ob with
    | some (.normal, sl', ob') => match subR keep (fresh ob) sl' ob' with
      | some (sl2, ob2) => loopR keep body n sl2 ob2
      | none => none
    | r => r
theorem look_keepS {sl : Slots} : ∀ (l : List Nat) (k : Nat), k ∈ l → look (keepS sl l) k = look sl k
  | j :: r, k, h => by
    simp only [keepS, look]
    split
    · rename_i e; rw [e]
    · rename_i e
      exact look_keepS r k ((List.mem_cons.1 h).resolve_left (fun e2 => e e2.symm))
theorem keepS_sub {sl : Slots} {l : List Nat} : ∀ (m : List Nat), (∀ k ∈ m, k ∈ l) → keepS (keepS sl l) m = keepS sl m
  | [], _ => rfl
  | k :: r, h => by
    simp only [keepS, look_keepS l k (h k (by simp)), keepS_sub r (fun j hj => h j (by simp [hj]))]
theorem keepS_idem (sl : Slots) (l : List Nat) : keepS (keepS sl l) l = keepS sl l := keepS_sub l fun _ h => h
theorem keepQ_to {Q : Post} {keep pk : List Nat} {r : Rq} (h : (keepQ keep pk r).to (fun sl ob => Q .normal (keepS sl keep) ob) (fun v sl ob => Q (.panic v) (keepS sl pk) ob)) : r.to (fun sl ob => Q .normal (keepS sl keep) ob) (fun v sl ob => Q (.panic v) (keepS sl pk) ob) := by
  cases r with
  | ok sl ob => simp only [keepQ, Rq.to, keepS_idem] at h ⊢; exact h
  | pn v sl ob => simp only [keepQ, Rq.to, keepS_idem] at h ⊢; exact h
  | no => exact h.elim
theorem itR_sound {P : Prg} {R : Fns} (hR : R.ok P) {k : Slots → Objs → Rq} {k' K : Slots → Objs → Prop} {Pn : V → Slots → Objs → Prop} (hk : ∀ sl ob, (k sl ob).to K Pn → k' sl ob) : ∀ (x : It) (sl : Slots) (ob : Objs), (itR R k x sl ob).to K Pn → itK P k' Pn x sl ob
  | .op d i, sl, ob, h => stepR_sound hR hk h
  | .gop s want d i, sl, ob, h => by
    simp only [itR] at h
    simp only [itK]
    split at h
    · rename_i b hb
      rw [hb]
      simp only [gdK]
      rw [Bool.cond_eq_ite] at h
      split at h
      · rename_i e
        have e : b = want := by simpa using e
        refine ⟨fun _ => stepR_sound hR hk h, fun e2 => ?_⟩
        rw [e] at e2; cases want <;> cases e2
      · rename_i e
        have e : ¬ b = want := by simpa using e
        exact ⟨fun e2 => (e e2).elim, fun _ => hk _ _ h⟩
    · rename_i hb
      rw [hb]
      exact hk _ _ h
    · exact h.elim
mutual
theorem orun_sound {P : Prg} {R : Fns} (hR : R.ok P) {Q : Post} {keep pk : List Nat} : ∀ (t : Ot) (sl : Slots) (ob : Objs), (orun R keep pk t sl ob).to (fun sl ob => Q .normal (keepS sl keep) ob) (fun v sl ob => Q (.panic v) (keepS sl pk) ob) → owp P (fun sl ob => Q .normal (keepS sl keep) ob) (fun v sl ob => Q (.panic v) (keepS sl pk) ob) t sl ob
  | .done, sl, ob, h => by simp only [orun] at h; simp only [owp]; exact h
  | .one _ x r, sl, ob, h => by
    simp only [orun] at h
    simp only [owp]
    exact itR_sound hR (fun sl ob h => orun_sound hR r sl ob h) x sl ob h
  | .br l, sl, ob, h => by simp only [orun] at h; simp only [owp]; exact oruns_sound hR l sl ob h
theorem oruns_sound {P : Prg} {R : Fns} (hR : R.ok P) {Q : Post} {keep pk : List Nat} : ∀ (l : Ots) (sl : Slots) (ob : Objs), (oruns R keep pk l sl ob).to (fun sl ob => Q .normal (keepS sl keep) ob) (fun v sl ob => Q (.panic v) (keepS sl pk) ob) → owps P (fun sl ob => Q .normal (keepS sl keep) ob) (fun v sl ob => Q (.panic v) (keepS sl pk) ob) l sl ob
  | .nil, sl, ob, h => by simp only [owps]
  | .cons _ x r .nil, sl, ob, h => by
    simp only [oruns] at h
    simp only [owps, and_true]
    exact itR_sound hR (fun sl ob h => orun_sound hR r sl ob h) x sl ob (keepQ_to h)
  | .cons _ x r (.cons i y s l), sl, ob, h => by
    simp only [oruns] at h
    rw [owps]
    obtain ⟨h1, h2⟩ := bothR_to h
    exact ⟨itR_sound hR (fun sl ob h => orun_sound hR r sl ob h) x sl ob (keepQ_to h1), oruns_sound hR (.cons i y s l) sl ob h2⟩
end
def S.run (R : Fns) (L : Nat) : S → Slots → Objs → Rs
  | .rg _ l keep pk, sl, ob => match rrun R l sl ob with
    | .ok sl' ob' => some (.normal, keepS sl' keep, ob')
    | .pn v sl' ob' => some (.panic v, keepS sl' pk, ob')
    | .no => none
  | .rgT _ t keep pk, sl, ob => match orun R keep pk t sl ob with
    | .ok sl' ob' => some (.normal, keepS sl' keep, ob')
    | .pn v sl' ob' => some (.panic v, keepS sl' pk, ob')
    | .no => none
  | .seq a b, sl, ob => match S.run R L a sl ob with
    | some (.normal, sl', ob') => S.run R L b sl' ob'
    | r => r
  | .skip, sl, ob => some (.normal, sl, ob)
  | .cond c a b, sl, ob => match c.ev sl with
    | .d (.bool t) => bif t then S.run R L a sl ob else S.run R L b sl ob
    | _ => none
  | .block n a, sl, ob => match S.run R L a sl ob with
    | some (.exit m, sl', ob') => bif decide (m = n) then some (.normal, sl', ob') else some (.exit m, sl', ob')
    | r => r
  | .loop keep a, sl, ob => loopR keep (S.run R L a) L (keepS sl keep) ob
  | .exit n, sl, ob => some (.exit n, sl, ob)
  | .ret, sl, ob => some (.ret, sl, ob)

theorem S.run_sound {P : Prg} {R : Fns} (hR : R.ok P) {L : Nat} : ∀ (s : S) (Q : Post) (sl : Slots) (ob : Objs), (s.run R L sl ob).to Q → cwp P s Q sl ob
  | .rg _ l keep pk, Q, sl, ob, h => by
    simp only [S.run] at h
    simp only [cwp]
    refine rrun_sound hR _ _ _ ?_
    split at h
    · rename_i e; rw [e]; exact h
    · rename_i e; rw [e]; exact h
    · exact h.elim
  | .rgT _ t keep pk, Q, sl, ob, h => by
    simp only [S.run] at h
    simp only [cwp]
    refine orun_sound hR _ _ _ ?_
    split at h
    · rename_i e; rw [e]; exact h
    · rename_i e; rw [e]; exact h
    · exact h.elim
  | .seq a b, Q, sl, ob, h => by
    simp only [S.run] at h
    simp only [cwp]
    refine S.run_sound (L := L) hR a _ sl ob ?_
    split at h
    · rename_i e; rw [e]; exact S.run_sound (L := L) hR b Q _ _ h
    · rename_i hne
      revert h hne
      generalize S.run R L a sl ob = r
      intro hne h
      cases r with
      | none => exact h.elim
      | some x =>
        obtain ⟨e, sl', ob'⟩ := x
        cases e with
        | normal => exact (hne _ _ rfl).elim
        | exit n => exact h
        | ret => exact h
        | panic v => exact h
  | .skip, Q, sl, ob, h => h
  | .cond c a b, Q, sl, ob, h => by
    simp only [S.run] at h
    simp only [cwp]
    split at h
    · rename_i t ht
      rw [ht]
      cases t
      · exact ⟨fun e => (by cases e), fun _ => S.run_sound (L := L) hR b Q sl ob h⟩
      · exact ⟨fun _ => S.run_sound (L := L) hR a Q sl ob h, fun e => (by cases e)⟩
    · exact h.elim
  | .block n a, Q, sl, ob, h => by
    simp only [S.run] at h
    simp only [cwp]
    refine S.run_sound (L := L) hR a _ sl ob ?_
    split at h
    · rename_i m sl' ob' e
      rw [e]
      rw [Bool.cond_eq_ite] at h
      simp only [Rs.to, blockK]
      by_cases hm : m = n
      · simp only [hm, decide_true, if_true] at h ⊢; exact h
      · simp only [hm, decide_false, Bool.false_eq_true, if_false] at h ⊢; exact h
    · rename_i hne
      revert h hne
      generalize S.run R L a sl ob = r
      intro hne h
      cases r with
      | none => exact h.elim
      | some x =>
        obtain ⟨e, sl', ob'⟩ := x
        cases e with
        | normal => exact h
        | exit n => exact (hne _ _ _ rfl).elim
        | ret => exact h
        | panic v => exact h
  | .loop keep a, Q, sl, ob, h => by
    simp only [S.run] at h
    simp only [cwp]
    refine ALoop.of (ι := Nat × Slots × Objs) (fun x => x.2.1) (fun x => x.2.2) (fun x => (loopR keep (S.run R L a) x.1 x.2.1 x.2.2).to Q) (fun x => x.1) (L, keepS sl keep, ob) h rfl rfl ?_
    rintro ⟨n, sl1, ob1⟩ h1
    refine S.run_sound (L := L) hR a _ _ _ ?_
    simp only at h1 ⊢
    cases n with
    | zero => exact h1.elim
    | succ n =>
      simp only [loopR] at h1
      split at h1
      · rename_i sl' ob' e
        rw [e]
        split at h1
        · rename_i sl2 ob2 e2
          unfold subR at e2
          rw [Bool.cond_eq_ite] at e2
          split at e2
          · rename_i hc
            simp only [Bool.and_eq_true] at hc
            cases e2
            exact ⟨_, hc.1, hc.2, (n, _, _), h1, Nat.lt_succ_self n, rfl, rfl⟩
          · cases e2
        · exact h1.elim
      · rename_i hne
        revert h1 hne
        generalize S.run R L a sl1 ob1 = r
        intro hne h1
        cases r with
        | none => exact h1.elim
        | some x =>
          obtain ⟨e, sl', ob'⟩ := x
          cases e with
          | normal => exact (hne _ _ rfl).elim
          | exit n => exact h1
          | ret => exact h1
          | panic v => exact h1
  | .exit n, Q, sl, ob, h => h
  | .ret, Q, sl, ob, h => h
end Go.Ab
/- An evaluator of calls, and that what it yields holds. Over any program; no condition. -/
namespace Go.Ab
open Go

inductive FI where
  | pl (s : S) (rs : List RV) (n : Nat)
  | df (s : FSt) (rs : List RV) (n : Nat)
  | rc (its : List It) (keep : List Nat) (k : Nat) (s : S) (n : Nat)
def FI.ok (p : Program) (f : Nat) : FI → Bool
  | .pl s rs n => fnOk p f n s rs
  | .df s rs n => fnOkD p f n s rs
  | .rc its _ k s n => dfnOk p f n k its s
abbrev FT := List (Nat × FI)
def lookF : FT → Nat → Option FI
  | [], _ => none
  | (j, x) :: r, k => bif Nat.beq j k then some x else lookF r k
def FT.ok (p : Program) (F : FT) : Prop := ∀ f x, lookF F f = some x → FI.ok p f x = true ∧ callable p f = true
theorem FT.ok_nil {p : Program} : FT.ok p [] := fun f x h => by cases h
theorem FT.ok_cons {p : Program} {f : Nat} {x : FI} {F : FT} (h : FI.ok p f x = true) (hc : callable p f = true) (hF : FT.ok p F) : FT.ok p ((f, x) :: F) := fun g y hg => by
  simp only [lookF] at hg
  rw [Bool.cond_eq_ite] at hg
  split at hg
  · rename_i e
    cases hg
    have e : f = g := Nat.eq_of_beq_eq_true e
    subst e
    exact ⟨h, hc⟩
  · exact hF g y hg

def RV.run (sl : Slots) (ob : Objs) : RV → Option V
  | .t k => some (look sl k)
  | .c k n ag => ldR ob n ag (look sl k)
def resR (sl : Slots) (ob : Objs) : List RV → Option (List V)
  | [] => some []
  | x :: r => match x.run sl ob with
    | some v => (resR sl ob r).map (v :: ·)
    | none => none
def gvsR : List V → Objs → List V × Objs
  | [], ob => ([], ob)
  | v :: r, ob => match V.giv ob v with
    | some (d, ob') => let p := gvsR r ob'; (.d d :: p.1, p.2)
    | none => let p := gvsR r ob; (v :: p.1, p.2)
def leaveR (n : Nat) (vs : List V) (ob : Objs) : Option Objs :=
  let kp := V.idss vs ++ idsO ob
  bif !V.mens (young n kp) vs && noMenO (young n kp) (dropO (young n kp) ob) then some (dropO (young n kp) ob) else none
def retR (n : Nat) (rs : List RV) (sl : Slots) (ob : Objs) : Option (Out × Objs) := match resR sl ob rs with
  | some vs => (leaveR n (gvsR vs ob).1 (gvsR vs ob).2).map fun b => (.ret (retV (gvsR vs ob).1), b)
  | none => none
def callR (n : Nat) (rs : List RV) : Rs → Option (Out × Objs)
  | some (.normal, sl, ob) => retR n rs sl ob
  | some (.ret, sl, ob) => retR n rs sl ob
  | some (.panic v, _, ob) => (leaveR n [v] ob).map fun b => (.panic v, b)
  | _ => none
def givsR (rs : List RV) (sl : Slots) (ob : Objs) : Option V := match resR sl ob rs with
  | some vs => (V.givs ob vs).map fun p => retV (p.1.map .d)
  | none => none
def pureR' (rs : List RV) : Rs → Option V
  | some (.normal, sl, ob) => givsR rs sl ob
  | some (.ret, sl, ob) => givsR rs sl ob
  | _ => none

def dRun (R : Fns) (L : Nat) (F : FT) (g : Nat) (vs : List V) (ob : Objs) (rv : Option V) : Option Objs := match lookF F g with
  | some (.rc its keep k s n) => bif Nat.beq n vs.length then
      (match rrun R its ((k, rv.getD (.d .nili)) :: argS 0 vs) ob with
        | .ok sl ob' => (match s.run R L (keepS sl keep) ob' with
          | some (.normal, _, ob2) => leaveR (fresh ob) [] ob2
          | some (.ret, _, ob2) => leaveR (fresh ob) [] ob2
          | _ => none)
        | _ => none)
    else none
  | _ => none
def V.isIfc : V → Bool
  | .iface _ _ => true
  | .d (.iface _ _) => true
  | _ => false
def dferR (R : Fns) (L : Nat) (F : FT) (g : Nat) (cl : List V) (rs : List RV) : Rs → Option V
  | some (.normal, sl, ob) => (dRun R L F g cl ob none).bind fun ob' => givsR rs sl ob'
  | some (.ret, sl, ob) => (dRun R L F g cl ob none).bind fun ob' => givsR rs sl ob'
  | some (.panic v, sl, ob) => bif v.isIfc then (dRun R L F g cl ob (some v)).bind fun ob' => givsR rs sl ob' else none
  | _ => none
def fRun (R : Fns) (L : Nat) (F : FT) (rs : List RV) : FSt → Slots → Objs → Option V
  | .pre s r, sl, ob => match s.run R L sl ob with
    | some (.normal, sl', ob') => fRun R L F rs r sl' ob'
    | some (.ret, sl', ob') => givsR rs sl' ob'
    | _ => none
  | .dfr its keep k s, sl, ob => match rrun R its sl ob with
    | .ok sl' ob' => (match look (keepS sl' keep) k with
      | .fn g fi ca => bif R.ca g then dferR R L F g (fi ++ ca) rs (s.run R L (keepS sl' keep) ob') else none
      | _ => none)
    | _ => none

def pcD (R : Fns) (L : Nat) (F : FT) (f : Nat) (ds : List D) : Option V := match lookF F f with
  | some (.pl s rs n) => bif Nat.beq n ds.length then pureR' rs (s.run R L (argS 0 (ds.map .d)) []) else none
  | some (.df s rs n) => bif Nat.beq n ds.length then fRun R L F rs s (argS 0 (ds.map .d)) [] else none
  | _ => none
def flatO (o : Option V) : Option V := match o with
  | some v => bif v.flatR then some v else none
  | none => none
def pcX (X R : Fns) (L : Nat) (F : FT) (f : Nat) (ds : List D) (ob : Objs) : Option V := match X.pc f (ds.map .d) ob with
  | some v => some v
  | none => pcD R L F f ds
def pcR (X R : Fns) (L : Nat) (F : FT) (f : Nat) (vs : List V) (ob : Objs) : Option V := match V.allD vs with
  | some ds => pcX X R L F f ds ob
  | none => match V.toDs ob 12 vs with
    | some ds => flatO (pcX X R L F f ds [])
    | none => none
def acR (R : Fns) (L : Nat) (F : FT) (f : Nat) (vs : List V) (ob : Objs) : Option (Out × Objs) := match lookF F f with
  | some (.pl s rs n) => bif Nat.beq n vs.length then callR (fresh ob) rs (s.run R L (argS 0 vs) ob) else none
  | some (.df _ _ _) => match V.allD vs with
    | some ds => (pcD R L F f ds).map fun v => (.ret v, ob)
    | none => none
  | _ => none
def fns (L : Nat) (F : FT) (X : Fns) : Nat → Fns
  | 0 => X
  | n + 1 => ⟨fun f vs ob => match X.call f vs ob with
      | some r => some r
      | none => acR (fns L F X n) L F f vs ob,
    fun f vs ob => pcR X (fns L F X n) L F f vs ob,
    fun f => (lookF F f).isSome || X.ca f, X.gl⟩

section
variable {P : Prg} {R : Fns} {L : Nat} {F : FT}
theorem resR_sound {sl : Slots} {ob : Objs} : ∀ (rs : List RV) (K : List V → Prop) (vs : List V), resR sl ob rs = some vs → K vs → resK sl ob rs K
  | [], K, vs, h, hK => by cases h; exact hK
  | x :: r, K, vs, h, hK => by
    simp only [resR] at h
    split at h
    · rename_i v hv
      rw [Option.map_eq_some_iff] at h
      obtain ⟨l, hl, rfl⟩ := h
      simp only [resK]
      have hr := resR_sound r (fun vs => K (v :: vs)) l hl hK
      cases x with
      | t k => simp only [RV.run, Option.some.injEq] at hv; subst hv; exact hr
      | c k n ag =>
        simp only [RV.run] at hv
        simp only [RV.wp]
        have h0 : (C.ld n ag (.t 0)).run [(0, look sl k)] ob = some v := by simpa [C.run, A.ev, look] using hv
        have h1 := C.run_sound (K := fun v => resK sl ob r fun vs => K (v :: vs)) h0 hr
        simpa [C.wp, A.ev, look] using h1
    · cases h
theorem gvsR_sound : ∀ (vs : List V) (ob : Objs) (K : List V → Objs → Prop), K (gvsR vs ob).1 (gvsR vs ob).2 → gvsK vs ob K
  | [], ob, K, h => h
  | v :: r, ob, K, h => by
    simp only [gvsR] at h
    simp only [gvsK]
    split at h
    · rename_i d ob' e
      rw [e]
      exact gvsR_sound r ob' _ h
    · rename_i e
      rw [e]
      exact gvsR_sound r ob _ h
theorem leaveR_sound {n : Nat} {vs : List V} {ob b : Objs} {K : Objs → Prop} (h : leaveR n vs ob = some b) (hK : K b) : leaveK n K vs ob := by
  unfold leaveR at h
  rw [Bool.cond_eq_ite] at h
  split at h
  · rename_i hc
    simp only [Bool.and_eq_true, Bool.not_eq_true'] at hc
    cases h
    exact ⟨_, hc.1, hc.2, hK⟩
  · cases h
theorem retR_sound {n : Nat} {rs : List RV} {sl : Slots} {ob b : Objs} {o : Out} {K : Out → Objs → Prop} (h : retR n rs sl ob = some (o, b)) (hK : K o b) : resK sl ob rs fun vs => gvsK vs ob fun vs ob => leaveK n (K (.ret (retV vs))) vs ob := by
  unfold retR at h
  split at h
  · rename_i vs hv
    rw [Option.map_eq_some_iff] at h
    obtain ⟨b', hb, e⟩ := h
    cases e
    exact resR_sound rs _ vs hv (gvsR_sound vs ob _ (leaveR_sound hb hK))
  · cases h
theorem callR_sound {n : Nat} {rs : List RV} {r : Rs} {o : Out} {b : Objs} {K : Out → Objs → Prop} (h : callR n rs r = some (o, b)) (hK : K o b) : r.to (callQ n rs K) := by
  unfold callR at h
  split at h
  · exact retR_sound h hK
  · exact retR_sound h hK
  · rw [Option.map_eq_some_iff] at h
    obtain ⟨b', hb, e⟩ := h
    cases e
    exact leaveR_sound hb hK
  · cases h
theorem givsR_sound {rs : List RV} {sl : Slots} {ob : Objs} {v : V} {K : V → Prop} (h : givsR rs sl ob = some v) (hK : K v) : resK sl ob rs fun vs => givsK (fun l _ => K (retV (l.map .d))) (V.givs ob vs) := by
  unfold givsR at h
  split at h
  · rename_i vs hv
    rw [Option.map_eq_some_iff] at h
    obtain ⟨p, hp, rfl⟩ := h
    refine resR_sound rs _ vs hv ?_
    rw [hp]; exact hK
  · cases h
theorem pureR_sound {rs : List RV} {r : Rs} {v : V} {K : V → Prop} (h : pureR' rs r = some v) (hK : K v) : r.to (pureQ rs K) := by
  unfold pureR' at h
  split at h
  · exact givsR_sound h hK
  · exact givsR_sound h hK
  · cases h
variable (hm : P.p.follows .mixedOrders = true) (hF : FT.ok P.p F) (hR : R.ok P)
include hm hF hR
theorem dRun_sound {g : Nat} {vs : List V} {ob b : Objs} {rv : Option V} {K : Objs → Prop} (h : dRun R L F g vs ob rv = some b) (hK : K b) : DCall P g vs ob rv K := by
  unfold dRun at h
  split at h
  · rename_i its keep k s n hl
    rw [Bool.cond_eq_ite] at h
    split at h
    · rename_i e
      have e : n = vs.length := Nat.eq_of_beq_eq_true e
      subst e
      have hok := (hF g _ hl).1
      simp only [FI.ok] at hok
      refine dcall_walk (keep := keep) hm hok (rrun_sound hR _ _ _ ?_)
      split at h
      · rename_i sl ob' e1
        rw [e1]
        refine S.run_sound (L := L) hR s _ _ _ ?_
        split at h
        · rename_i e2; rw [e2]; exact leaveR_sound h hK
        · rename_i e2; rw [e2]; exact leaveR_sound h hK
        · cases h
      · cases h
    · cases h
  · cases h
theorem dferR_sound {g : Nat} {cl : List V} {rs : List RV} {r : Rs} {v : V} {K : V → Prop} (h : dferR R L F g cl rs r = some v) (hK : K v) : r.to (dferQ P g cl rs K) := by
  unfold dferR at h
  split at h
  · rw [Option.bind_eq_some_iff] at h
    obtain ⟨b, h1, h2⟩ := h
    exact dRun_sound hm hF hR h1 (givsR_sound h2 hK)
  · rw [Option.bind_eq_some_iff] at h
    obtain ⟨b, h1, h2⟩ := h
    exact dRun_sound hm hF hR h1 (givsR_sound h2 hK)
  · rw [Bool.cond_eq_ite] at h
    split at h
    · rename_i hi
      rw [Option.bind_eq_some_iff] at h
      obtain ⟨b, h1, h2⟩ := h
      refine ⟨?_, dRun_sound hm hF hR h1 (givsR_sound h2 hK)⟩
      unfold V.isIfc at hi
      split at hi
      · exact ⟨_, _, .inl rfl⟩
      · exact ⟨_, .any, .inr ⟨_, rfl⟩⟩
      · cases hi
    · cases h
  · cases h
theorem fRun_sound {rs : List RV} {K : V → Prop} : ∀ (s : FSt) (sl : Slots) (ob : Objs) (v : V), fRun R L F rs s sl ob = some v → K v → fwp P rs K s sl ob
  | .pre s r, sl, ob, v, h, hK => by
    simp only [fRun] at h
    simp only [fwp]
    refine S.run_sound (L := L) hR s _ _ _ ?_
    split at h
    · rename_i e; rw [e]; exact fRun_sound r _ _ v h hK
    · rename_i e; rw [e]; exact givsR_sound h hK
    · cases h
  | .dfr its keep k s, sl, ob, v, h, hK => by
    simp only [fRun] at h
    simp only [fwp]
    refine rrun_sound hR _ _ _ ?_
    split at h
    · rename_i sl' ob' e
      rw [e]
      simp only [Rq.to]
      split at h
      · rename_i g fi ca e2
        rw [e2]
        rw [Bool.cond_eq_ite] at h
        split at h
        · rename_i hc
          exact ⟨hR.ca _ hc, S.run_sound (L := L) hR s _ _ _ (dferR_sound hm hF hR h hK)⟩
        · cases h
      · cases h
    · cases h
theorem pcD_sound {f : Nat} {ds : List D} {v : V} {ob : Objs} {K : V → Prop} (h : pcD R L F f ds = some v) (hK : K v) : PCall P f (ds.map .d) ob K := by
  unfold pcD at h
  split at h
  · rename_i s rs n hl
    rw [Bool.cond_eq_ite] at h
    split at h
    · rename_i e
      have e : n = ds.length := Nat.eq_of_beq_eq_true e
      subst e
      exact pcall_pure hm (hF f _ hl).1 (S.run_sound (L := L) hR s _ _ _ (pureR_sound h hK))
    · cases h
  · rename_i s rs n hl
    rw [Bool.cond_eq_ite] at h
    split at h
    · rename_i e
      have e : n = ds.length := Nat.eq_of_beq_eq_true e
      subst e
      exact pcall_defer hm (hF f _ hl).1 (fRun_sound hm hF hR s _ _ v h hK)
    · cases h
  · cases h
theorem pcX_sound {X : Fns} (hX : X.ok P) {f : Nat} {ds : List D} {v : V} {ob : Objs} {K : V → Prop} (h : pcX X R L F f ds ob = some v) (hK : K v) : PCall P f (ds.map .d) ob K := by
  unfold pcX at h
  split at h
  · rename_i r hr; cases h; exact (hX.pc _ _ _ _ hr).mono fun v' e => by subst e; exact hK
  · exact pcD_sound hm hF hR h hK
theorem pcR_sound {X : Fns} (hX : X.ok P) {f : Nat} {vs : List V} {v : V} {ob : Objs} (h : pcR X R L F f vs ob = some v) : PCall P f vs ob fun v' => v' = v := by
  unfold pcR at h
  split at h
  · rename_i ds hd
    rw [V.allD_map hd]
    exact pcX_sound hm hF hR hX h rfl
  · split at h
    · rename_i ds hd
      unfold flatO at h
      split at h
      · rename_i v' hv
        rw [Bool.cond_eq_ite] at h
        split at h
        · rename_i hfl
          cases h
          exact PCall.borrow hd (pcX_sound hm hF hR hX hv ⟨hfl, rfl⟩)
        · cases h
      · cases h
    · cases h
theorem acR_sound {f : Nat} {vs : List V} {o : Out} {ob b : Objs} (h : acR R L F f vs ob = some (o, b)) : ACall P f vs ob fun o' b' => o' = o ∧ b' = b := by
  unfold acR at h
  split at h
  · rename_i s rs n hl
    rw [Bool.cond_eq_ite] at h
    split at h
    · rename_i e
      have e : n = vs.length := Nat.eq_of_beq_eq_true e
      subst e
      exact acall_walk hm (hF f _ hl).1 (S.run_sound (L := L) hR s _ _ _ (callR_sound h ⟨rfl, rfl⟩))
    · cases h
  · split at h
    · rename_i ds hd
      rw [Option.map_eq_some_iff] at h
      obtain ⟨v, hv, e⟩ := h
      cases e
      rw [V.allD_map hd]
      exact PCall.acall (pcD_sound hm hF hR hv ⟨rfl, rfl⟩)
    · cases h
  · cases h
end
theorem fns_ca {p : Program} {F : FT} (hF : FT.ok p F) (f : Nat) (h : (lookF F f).isSome = true) : callable p f = true := by
  obtain ⟨x, hx⟩ := Option.isSome_iff_exists.1 h
  exact (hF f x hx).2
theorem fns_ok {P : Prg} {L : Nat} {F : FT} {X : Fns} (hm : P.p.follows .mixedOrders = true) (hF : FT.ok P.p F) (hX : X.ok P) : ∀ n, (fns L F X n).ok P
  | 0 => hX
  | n + 1 => by
    refine ⟨fun f vs ob o b h => ?_, fun f vs ob v h => ?_, fun f h => ?_, fun g x h => hX.gl g x h⟩
    · simp only [fns] at h
      split at h
      · rename_i r hr; cases h; exact hX.call _ _ _ _ _ hr
      · exact acR_sound hm hF (fns_ok hm hF hX n) h
    · simp only [fns] at h
      exact pcR_sound hm hF (fns_ok hm hF hX n) hX h
    · simp only [fns, Bool.or_eq_true] at h
      rcases h with h | h
      · exact fns_ca hF f h
      · exact hX.ca f h
end Go.Ab
/- The table of the functions' texts for the evaluator, written by a program; that it is right is checked by the kernel. No condition. -/
namespace Go.Proofs.YtanpgmgkmfckaaaGreatDoor
open Go Go.Ab
set_option maxRecDepth 100000
def tab1 : FT := [(100, .pl ir100 [.t 2] 1),
  (8, .pl ir8 [.t 0] 0),
  (11, .pl ir11 [.t 4] 2),
  (13, .pl ir13 [.t 2, .t 3] 1),
  (17, .pl ir17 [.t 4] 2),
  (28, .pl ir28 [.t 4] 2),
  (30, .pl ir30 [.t 4] 2),
  (33, .pl ir33 [.t 2] 1),
  (34, .pl ir34 [] 2),
  (48, .pl ir48 [.t 4] 2),
  (49, .pl ir49 [.t 4] 2),
  (50, .pl ir50 [.t 6] 3),
  (52, .pl ir52 [.t 6] 3),
  (53, .pl ir53 [.t 4] 2),
  (54, .pl ir54 [.t 6] 3),
  (56, .pl ir56 [.t 6] 3),
  (99, .pl ir99 [.t 6] 3),
  (101, .pl ir101 [.t 6] 3),
  (103, .pl ir103 [.t 6] 3),
  (105, .pl ir105 [.t 6] 3),
  (106, .pl ir106 [.t 2] 1),
  (107, .pl ir107 [.t 6] 3),
  (109, .pl ir109 [.t 6] 3),
  (128, .pl ir128 [.t 4] 2),
  (129, .pl ir129 [.t 4] 2),
  (130, .pl ir130 [.t 4] 2)]
theorem tab1_ok : FT.ok Tryz.prog tab1 :=
  FT.ok_cons ok100 (by kernel_rfl)
  (FT.ok_cons ok8 (by kernel_rfl)
  (FT.ok_cons ok11 (by kernel_rfl)
  (FT.ok_cons ok13 (by kernel_rfl)
  (FT.ok_cons ok17 (by kernel_rfl)
  (FT.ok_cons ok28 (by kernel_rfl)
  (FT.ok_cons ok30 (by kernel_rfl)
  (FT.ok_cons ok33 (by kernel_rfl)
  (FT.ok_cons ok34 (by kernel_rfl)
  (FT.ok_cons ok48 (by kernel_rfl)
  (FT.ok_cons ok49 (by kernel_rfl)
  (FT.ok_cons ok50 (by kernel_rfl)
  (FT.ok_cons ok52 (by kernel_rfl)
  (FT.ok_cons ok53 (by kernel_rfl)
  (FT.ok_cons ok54 (by kernel_rfl)
  (FT.ok_cons ok56 (by kernel_rfl)
  (FT.ok_cons ok99 (by kernel_rfl)
  (FT.ok_cons ok101 (by kernel_rfl)
  (FT.ok_cons ok103 (by kernel_rfl)
  (FT.ok_cons ok105 (by kernel_rfl)
  (FT.ok_cons ok106 (by kernel_rfl)
  (FT.ok_cons ok107 (by kernel_rfl)
  (FT.ok_cons ok109 (by kernel_rfl)
  (FT.ok_cons ok128 (by kernel_rfl)
  (FT.ok_cons ok129 (by kernel_rfl)
  (FT.ok_cons ok130 (by kernel_rfl)
  (FT.ok_nil))))))))))))))))))))))))))
end Go.Proofs.YtanpgmgkmfckaaaGreatDoor
/- The law's own examples hold (sane). Condition: the program is the seat's; its package variables are laid. -/
namespace Go.Sx
open Go Go.Ab Go.Lx
def parseF (s : B) : V := if s.length > 65536 then .tup [.d zeroS, .d (.int .i64 0), .d (.int .i64 2)] else match lexF s.length s 0 with
  | .err e => .tup [.d zeroS, .d (.int .i64 e), .d (.int .i64 90)]
  | .ok l => parseW s.length (parseR l)
theorem parseF_eq (s : B) : parseF s = parseV s := by
  have e := lexF_eq s.length s 0 (Nat.le_refl _)
  unfold parseF parseV
  simp only [e]
  all_goals (cases lexR s 0 <;> rfl)
def decT : D → Option Tok
  | .agg [.int .i64 k, .str t, .int .i64 n, .int .i64 a] => some ⟨k, t, n, a⟩
  | _ => none
def decTs : List D → Option (List Tok)
  | [] => some []
  | x :: r => match decT x, decTs r with
    | some t, some l => some (t :: l)
    | _, _ => none
theorem decT_eq {x : D} {t : Tok} (h : decT x = some t) : x = t.enc := by
  unfold decT at h
  split at h
  · cases h; rfl
  · cases h
theorem decTs_eq : ∀ {xs : List D} {l : List Tok}, decTs xs = some l → xs = l.map Tok.enc
  | [], l, h => by cases h; rfl
  | x :: r, l, h => by
    unfold decTs at h
    split at h
    · rename_i t l' h1 h2
      cases h
      rw [decT_eq h1, decTs_eq h2]; rfl
    · cases h
def textX : D → Option V
  | .list 4 xs => match decTs xs with
    | some l => if l.length ≤ 100000 then some (textV l) else none
    | none => none
  | _ => none
end Go.Sx
namespace Go.Proofs.YtanpgmgkmfckaaaGreatDoor
open Go Go.Ab Go.Lx Go.Sx
set_option maxRecDepth 100000
def xpc (f : Nat) (vs : List V) : Option V := match vs with
  | [.d (.str s)] => bif Nat.beq f 9 then some (parseF s) else none
  | [.d x] => bif Nat.beq f 38 then textX x else none
  | _ => none
def xgl (g : Nat) : Option D :=
  bif Nat.beq g 0 then some (.agg [.int .i64 2, .int .i64 1000]) else
  bif Nat.beq g 1 then some (.agg [.int .i64 1, .int .i64 255]) else
  bif Nat.beq g 2 then some (.agg [.int .i64 0, .int .i64 32]) else
  bif Nat.beq g 3 then some (.agg [.int .i64 0, .int .i64 9]) else
  bif Nat.beq g 4 then some (.agg [.int .i64 0, .int .i64 1048576]) else none
def x10 : Fns := ⟨fun _ _ _ => none, fun f vs _ => xpc f vs, fun _ => false, xgl⟩
theorem tab1_sane (ob : Objs) : (fns 3000 tab1 x10 30).pc 8 [] ob = some (.d (.bool true)) := by kernel_rfl
section
variable {P : Prg} (hP : P.p = Tryz.prog) (hI : Ivl P) (hG : Pow P)
include hP hI hG
theorem x10_ok : x10.ok P := by
  refine ⟨fun _ _ _ _ _ h => (by cases h), fun f vs ob v h => ?_, fun _ h => (by cases h), fun g x h => ?_⟩
  · simp only [x10] at h
    unfold xpc at h
    split at h
    · rename_i s
      rw [Bool.cond_eq_ite] at h
      split at h
      · rename_i e
        cases h
        rw [Nat.eq_of_beq_eq_true e, parseF_eq]
        exact c_Parse hP hI s rfl
      · cases h
    · rename_i x _
      rw [Bool.cond_eq_ite] at h
      split at h
      · rename_i e
        rw [Nat.eq_of_beq_eq_true e]
        unfold textX at h
        split at h
        · rename_i xs
          split at h
          · rename_i l hl
            split at h
            · rename_i h2
              cases h
              rw [decTs_eq hl]
              exact c_Text hP hG (l := l) (.inl rfl) h2 rfl
            · cases h
          · cases h
        · cases h
      · cases h
    · cases h
  · simp only [x10, xgl, Bool.cond_eq_ite] at h
    split at h
    · rename_i e; cases h; rw [Nat.eq_of_beq_eq_true e]; exact hI.factors
    split at h
    · rename_i e; cases h; rw [Nat.eq_of_beq_eq_true e]; exact hI.editions
    split at h
    · rename_i e; cases h; rw [Nat.eq_of_beq_eq_true e]; exact hI.mosts
    split at h
    · rename_i e; cases h; rw [Nat.eq_of_beq_eq_true e]; exact hI.weights
    split at h
    · rename_i e; cases h; rw [Nat.eq_of_beq_eq_true e]; exact hI.anyN
    · cases h
theorem c_sane {ob : Objs} {K : V → Prop} (h : K (.d (.bool true))) : PCall P 8 [] ob K := by
  have h1 := (fns_ok (P := P) (L := 3000) (F := tab1) (by rw [hP]; exact mixed) (by rw [hP]; exact tab1_ok) (x10_ok hP hI hG) 30).pc _ _ ob _ (tab1_sane ob)
  refine h1.mono fun v e => ?_
  subst e; exact h
end
end Go.Proofs.YtanpgmgkmfckaaaGreatDoor
/- Plain laws of the lexer: shifting, joining. No program. -/
namespace Go.Lx
open Go Go.Ab
theorem tw_le_len (p : UInt8 → Bool) (r : List UInt8) : (r.takeWhile p).length ≤ r.length := (List.takeWhile_prefix p).length_le
theorem stp_skip {c : UInt8} {r : List UInt8} {n : Nat} (h : stp c r = .skip n) : n ≤ r.length := by
  unfold stp at h
  have := tw_le_len lineB r
  (repeat' split at h) <;> (first | (cases h; omega) | cases h)
theorem stp_tok {c : UInt8} {r : List UInt8} {k m : Int} {t : List UInt8} {n : Nat} (h : stp c r = .tok k t m n) : n ≤ r.length := by
  unfold stp at h
  have h1 := tw_le_len partB r
  have h2 := tw_le_len digitB r
  (repeat' split at h) <;> (first | (cases h; omega) | cases h)
theorem lexR_skip {c : UInt8} {r : List UInt8} {n off : Nat} (h : stp c r = .skip n) : lexR (c :: r) off = lexR (r.drop n) (off + n + 1) := by
  rw [lexR, h]
theorem lexR_tok {c : UInt8} {r : List UInt8} {k m : Int} {t : List UInt8} {n off : Nat} (h : stp c r = .tok k t m n) : lexR (c :: r) off = addT ⟨k, t, m, off⟩ (lexR (r.drop n) (off + n + 1)) := by
  rw [lexR, h]
theorem lexR_err {c : UInt8} {r : List UInt8} {off : Nat} (h : stp c r = .err) : lexR (c :: r) off = .err off := by
  rw [lexR, h]
theorem lexR_nil' (off : Nat) : lexR [] off = .ok [] := by rw [lexR]
theorem lex_ind {M : List UInt8 → Nat → Prop} (h0 : ∀ off, M [] off)
    (h1 : ∀ c r n off, stp c r = .skip n → n ≤ r.length → M (r.drop n) (off + n + 1) → M (c :: r) off)
    (h2 : ∀ c r k t m n off, stp c r = .tok k t m n → n ≤ r.length → M (r.drop n) (off + n + 1) → M (c :: r) off)
    (h3 : ∀ c r off, stp c r = .err → M (c :: r) off) : ∀ s off, M s off := by
  have key : ∀ N s off, s.length ≤ N → M s off := by
    intro N
    induction N with
    | zero =>
      intro s off h
      have : s = [] := List.length_eq_zero_iff.1 (by omega)
      subst this; exact h0 off
    | succ N ih =>
      intro s off h
      cases s with
      | nil => exact h0 off
      | cons c r =>
        simp at h
        have hd : ∀ n, (r.drop n).length ≤ N := fun n => by simp; omega
        cases hs : stp c r with
        | skip n => exact h1 c r n off hs (stp_skip hs) (ih _ _ (hd n))
        | tok k t m n => exact h2 c r k t m n off hs (stp_tok hs) (ih _ _ (hd n))
        | err => exact h3 c r off hs
  exact fun s off => key _ s off (Nat.le_refl _)
def shT (d : Nat) (t : Tok) : Tok := ⟨t.kind, t.text, t.n, t.at_ + d⟩
def shR (d : Nat) : Res → Res
  | .ok l => .ok (l.map (shT d))
  | .err e => .err (e + d)
theorem lexR_shift (d : Nat) : ∀ s off, lexR s (off + d) = shR d (lexR s off) := by
  apply lex_ind
  · intro off; simp [lexR_nil', shR]
  · intro c r n off h _ ih
    rw [lexR_skip h, lexR_skip h, ← ih]
    congr 1; omega
  · intro c r k t m n off h _ ih
    rw [lexR_tok h, lexR_tok h]
    have : off + d + n + 1 = off + n + 1 + d := by omega
    rw [this, ih]
    cases lexR (r.drop n) (off + n + 1) with
    | ok l => simp [shR, addT, shT]
    | err e => simp [shR, addT]
  · intro c r off h
    rw [lexR_err h, lexR_err h]; rfl
theorem takeWhile_stop (p : UInt8 → Bool) {z : UInt8} (hz : p z = false) : ∀ (r b : List UInt8), (r ++ z :: b).takeWhile p = r.takeWhile p
  | [], b => by simp [List.takeWhile, hz]
  | c :: r, b => by
    simp only [List.cons_append, List.takeWhile_cons, takeWhile_stop p hz r b]
theorem stp_nl (c : UInt8) (r b : List UInt8) : stp c (r ++ 10 :: b) = stp c r := by
  have h1 : (r ++ 10 :: b).takeWhile partB = r.takeWhile partB := takeWhile_stop _ (by decide) r b
  have h2 : (r ++ 10 :: b).takeWhile digitB = r.takeWhile digitB := takeWhile_stop _ (by decide) r b
  have h3 : (r ++ 10 :: b).takeWhile lineB = r.takeWhile lineB := takeWhile_stop _ (by decide) r b
  have h4 : ((r ++ 10 :: b).head? = some 47) = (r.head? = some 47) := by cases r <;> simp
  unfold stp
  rw [h1, h2, h3]
  simp only [h4]
theorem lexR_join (b : List UInt8) : ∀ a off, lexR (a ++ 10 :: b) off = match lexR a off with
    | .ok l => appT l (lexR b (off + a.length + 1))
    | .err e => .err e := by
  apply lex_ind
  · intro off
    have hs : stp 10 b = .skip 0 := by simp [stp, spaceB, spaceI]
    rw [lexR_nil', List.nil_append, lexR_skip hs]
    simp [appT_nil]
  · intro c r n off h hn ih
    rw [List.cons_append, lexR_skip h, lexR_skip ((stp_nl c r b).trans h)]
    rw [List.drop_append_of_le_length hn, ih]
    have : off + n + 1 + (r.drop n).length + 1 = off + (c :: r).length + 1 := by simp; omega
    rw [this]
  · intro c r k t m n off h hn ih
    rw [List.cons_append, lexR_tok h, lexR_tok ((stp_nl c r b).trans h)]
    rw [List.drop_append_of_le_length hn, ih]
    have : off + n + 1 + (r.drop n).length + 1 = off + (c :: r).length + 1 := by simp; omega
    rw [this]
    cases lexR (r.drop n) (off + n + 1) with
    | ok l => cases lexR b (off + (c :: r).length + 1) <;> simp [addT, appT]
    | err e => simp [addT]
  · intro c r off h
    rw [List.cons_append, lexR_err h, lexR_err ((stp_nl c r b).trans h)]
theorem takeWhile_take' (p : UInt8 → Bool) : ∀ (r : List UInt8) (j : Nat), (r.takeWhile p).length ≤ j → (r.take j).takeWhile p = r.takeWhile p
  | [], j, _ => by simp
  | c :: r, 0, h => by
    simp only [List.takeWhile_cons] at h ⊢
    split at h
    · simp at h
    · rename_i hc; simp [hc]
  | c :: r, j + 1, h => by
    simp only [List.take_succ_cons, List.takeWhile_cons] at h ⊢
    split
    · rename_i hc
      rw [hc] at h
      simp at h
      rw [takeWhile_take' p r j h]
    · rfl
def comB (c : UInt8) (r : List UInt8) : Prop := c = 47 ∧ r.head? = some 47
theorem stp_com {c : UInt8} {r : List UInt8} (h : comB c r) : stp c r = .skip (r.takeWhile lineB).length := by
  obtain ⟨rfl, h⟩ := h
  simp [stp, h, spaceB, spaceI]
theorem stp_cut {c : UInt8} {r : List UInt8} {j n : Nat} (hn : n ≤ j) (h : stp c r = .skip n ∨ ∃ k t m, stp c r = .tok k t m n) : stp c (r.take j) = stp c r := by
  have hh : ¬ comB c r → ¬ (c = 47 ∧ (r.take j).head? = some 47) := fun hc ⟨e1, e2⟩ => hc ⟨e1, by
    cases r with
    | nil => simp at e2
    | cons a r => cases j with
      | zero => simp at e2
      | succ j => simpa using e2⟩
  by_cases hc : comB c r
  · have hs := stp_com hc
    have hn' : (r.takeWhile lineB).length = n := by
      rcases h with h | ⟨_, _, _, h⟩
      · rw [hs] at h; cases h; rfl
      · rw [hs] at h; cases h
    have hc' : comB c (r.take j) := by
      refine ⟨hc.1, ?_⟩
      cases r with
      | nil => simpa using hc.2
      | cons a r =>
        have ha : a = 47 := by simpa using hc.2
        subst ha
        have : lineB 47 = true := by decide
        simp [List.takeWhile_cons, this] at hn'
        cases j with
        | zero => omega
        | succ j => simp
    rw [hs, stp_com hc', takeWhile_take' _ _ _ (by omega)]
  · have hf : ¬ (c = 47 ∧ r.head? = some 47) := hc
    unfold stp at h ⊢
    rw [if_neg (hh hc)]
    rw [if_neg hf] at h ⊢
    split
    · rfl
    · rename_i h1
      rw [if_neg h1] at h
      split
      · rename_i h2
        rw [if_pos h2] at h
        split at h
        · simp at h
          obtain ⟨_, _, _, _, _, _, h⟩ := h
          rw [takeWhile_take' _ _ _ (by omega)]
        · simp at h
      · rename_i h2
        rw [if_neg h2] at h
        split
        · rename_i h3
          rw [if_pos h3] at h
          split at h
          · simp at h
            obtain ⟨_, _, _, _, _, _, h⟩ := h
            rename_i h4
            rw [takeWhile_take' _ _ _ (by omega), h4]
          · simp at h
        · rfl
end Go.Lx
/- Plain laws for SyntaxPlaces: a source cut at a token's place; which errors there are. No program. -/
namespace Go.Sx
open Go Go.Ab Go.Lx
theorem lex_cut : ∀ s off, ∀ l, lexR s off = .ok l → ∀ pre t post, l = pre ++ t :: post → ∃ m : Nat, t.at_ = ((off + m : Nat) : Int) ∧ m < s.length ∧ lexR (s.take m) off = .ok pre := by
  apply lex_ind
  · intro off l h pre t post e
    rw [lexR_nil'] at h
    cases h
    simp at e
  · intro c r n off h hn ih l hl pre t post e
    rw [lexR_skip h] at hl
    obtain ⟨m, h1, h2, h3⟩ := ih l hl pre t post e
    simp at h2
    refine ⟨m + n + 1, by omega, by simp; omega, ?_⟩
    rw [List.take_succ_cons, lexR_skip ((stp_cut (by omega) (.inl h)).trans h), List.drop_take]
    simpa using h3
  · intro c r k tt mm n off h hn ih l hl pre t post e
    rw [lexR_tok h] at hl
    cases hr : lexR (r.drop n) (off + n + 1) with
    | err e => rw [hr] at hl; cases hl
    | ok l' =>
      rw [hr] at hl
      simp only [addT, Res.ok.injEq] at hl
      subst hl
      cases pre with
      | nil =>
        simp only [List.nil_append, List.cons.injEq] at e
        refine ⟨0, by rw [← e.1]; simp, by simp, by rw [List.take_zero, lexR_nil']⟩
      | cons x pre =>
        simp only [List.cons_append, List.cons.injEq] at e
        obtain ⟨m, h1, h2, h3⟩ := ih l' hr pre t post e.2
        simp at h2
        refine ⟨m + n + 1, by omega, by simp; omega, ?_⟩
        rw [List.take_succ_cons, lexR_tok ((stp_cut (by omega) (.inr ⟨_, _, _, h⟩)).trans h), List.drop_take]
        simp only [Nat.add_sub_cancel, h3, addT, e.1]
  · intro c r off h l hl; rw [lexR_err h] at hl; cases hl
def Errs {α : Type} (m : M α) : Prop := ∀ ts r e, m ts = .err r e → e = 2 ∨ e = 100
section
variable {α β : Type}
theorem Errs.pure (a : α) : Errs (pure a : M α) := fun _ _ _ h => by cases h
theorem Errs.fail : Errs (fail 100 : M α) := fun _ _ _ h => by cases h; exact .inr rfl
theorem Errs.bind {m : M α} {f : α → M β} (hm : Errs m) (hf : ∀ a, Errs (f a)) : Errs (m >>= f) := fun ts r e h => by
  rw [bind_eq] at h
  cases hc : m ts with
  | ok a r1 => rw [hc] at h; exact hf a _ _ _ h
  | err r1 x => rw [hc] at h; cases h; exact hm _ _ _ hc
theorem Errs.bind' {m : M α} {f : α → M β} (hm : Errs m) (hf : ∀ a ts r, m ts = .ok a r → Errs (f a)) : Errs (m >>= f) := fun ts r e h => by
  rw [bind_eq] at h
  cases hc : m ts with
  | ok a r1 => rw [hc] at h; exact hf a _ _ hc _ _ _ h
  | err r1 x => rw [hc] at h; cases h; exact hm _ _ _ hc
theorem Errs.ite {c : Prop} [Decidable c] {a b : M α} (ha : Errs a) (hb : Errs b) : Errs (if c then a else b) := by split <;> assumption
theorem Errs.ifM {c : List Tok → Bool} {a b : M α} (ha : Errs a) (hb : Errs b) : Errs (ifM c a b) := fun ts r e h => by
  simp only [Sx.ifM] at h
  split at h
  · exact ha _ _ _ h
  · exact hb _ _ _ h
end
theorem e_take (k : Int) (t : B) : Errs (takeM k t) := fun ts r e h => by
  simp only [takeM] at h
  split at h
  · cases h
  · cases h; exact .inr rfl
theorem e_name : Errs nameM := (e_take _ _).bind fun _ => .pure _
theorem e_word (t : B) : Errs (wordM t) := (e_take _ _).bind fun _ => .pure _
theorem e_sign (t : B) : Errs (signM t) := (e_take _ _).bind fun _ => .pure _
theorem e_accept (k : Int) (t : B) : Errs (acceptM k t) := fun ts r e h => by
  simp only [acceptM] at h
  split at h <;> cases h
theorem e_number (lo hi : Int) : Errs (numberM lo hi) := fun ts r e h => by
  simp only [numberM] at h
  split at h
  · cases h
  · cases h; exact .inr rfl
theorem e_room (a b : Nat) : Errs (roomM a b) := fun ts r e h => by
  simp only [roomM] at h
  split at h
  · cases h; exact .inl rfl
  · cases h
theorem e_list {α : Type} {c : List Tok → Bool} {read : M α} (hr : Errs read) : ∀ n, Errs (listM c read n)
  | 0 => fun ts r e h => by
    simp only [listM] at h
    split at h
    · cases h; exact .inl rfl
    · cases h
  | n + 1 => fun ts r e h => by
    simp only [listM] at h
    split at h
    · exact (hr.bind fun a => (e_list hr n).bind fun l => Errs.pure (a :: l)) ts r e h
    · cases h
theorem e_path : Errs pathM := e_name.bind fun _ => (e_sign _).bind fun _ => e_name.bind fun _ => .pure _
theorem e_term : Errs termM := fun ts r e h => by
  simp only [termM] at h
  split at h
  · exact ((e_number _ _).bind fun _ => Errs.pure _) ts r e h
  · exact (e_path.bind fun _ => Errs.pure _) ts r e h
theorem e_from : Errs fromM := (e_word _).bind fun _ => e_name.bind fun _ => e_name.bind fun _ => (e_accept _ _).bind fun _ => .ite (e_path.bind fun _ => (e_sign _).bind fun _ => .pure _) ((e_sign _).bind fun _ => .pure _)
theorem e_op : Errs opM := (e_accept _ _).bind fun _ => .ite (.pure _) ((e_accept _ _).bind fun _ => .ite ((e_accept _ _).bind fun _ => .pure _) ((e_sign _).bind fun _ => (e_sign _).bind fun _ => .pure _))
theorem e_where : Errs whereM := (e_word _).bind fun _ => e_term.bind fun _ => e_op.bind fun _ => e_term.bind fun _ => (e_sign _).bind fun _ => .pure _
theorem e_set : Errs setM := (e_word _).bind fun _ => e_name.bind fun _ => (e_sign _).bind fun _ => e_term.bind fun _ => (e_sign _).bind fun _ => .pure _
theorem e_shift : Errs shiftM := (e_accept _ _).bind fun _ => .ite (e_number _ _) ((e_accept _ _).bind fun _ => .ite ((e_number _ _).bind fun _ => .pure _) (.pure _))
theorem e_move : Errs moveM := e_name.bind fun _ => (e_sign _).bind fun _ => e_name.bind fun _ => e_shift.bind fun _ => (e_sign _).bind fun _ => .pure _
theorem e_may : Errs mayM := (e_word _).bind fun _ => e_path.bind fun _ => (e_sign _).bind fun _ => .pure _
theorem e_rep : ∀ n, Errs (repM n)
  | 0 => .pure _
  | n + 1 => (e_number _ _).bind fun _ => (e_rep n).bind fun _ => .pure _
theorem e_listed (n : Nat) : Errs (listedM n) := e_name.bind fun _ => (e_list ((e_sign _).bind fun _ => e_name) _).bind fun _ => .pure _
theorem e_kind : Errs kindM := (e_accept _ _).bind fun _ => .ite ((e_number _ _).bind fun _ => (e_word _).bind fun _ => (e_number _ _).bind fun _ => (e_accept _ _).bind fun _ => .ite (e_name.bind fun _ => .pure _) (.pure _)) ((e_accept _ _).bind fun _ => .ite (.pure _) ((e_accept _ _).bind fun _ => .ite (.pure _) ((e_accept _ _).bind fun _ => .ite ((e_listed _).bind fun _ => .pure _) .fail)))
theorem e_field : Errs fieldM := (e_word _).bind fun _ => e_name.bind fun _ => (e_sign _).bind fun _ => e_kind.bind fun _ => (e_rep 4).bind fun _ => (e_sign _).bind fun _ => .pure _
theorem e_depend : Errs dependM := (e_word _).bind fun _ => (e_listed _).bind fun _ => (e_word _).bind fun _ => e_name.bind fun _ => (e_sign _).bind fun _ => .pure _
theorem room_ok {a b : Nat} {ts r : List Tok} {u : Unit} (h : roomM a b ts = .ok u r) : a ≠ b := by
  simp only [roomM] at h
  split at h
  · cases h
  · assumption
theorem e_body : ∀ (n : Nat) (s : Schema), s.fields.length ≤ 12 → s.depends.length ≤ 8 → 21 ≤ n + s.fields.length + s.depends.length → Errs (bodyM n s)
  | 0, s, h1, h2, h3 => by omega
  | n + 1, s, h1, h2, h3 => (e_accept _ _).bind fun _ => .ite (.pure _) (.ifM
      ((e_room _ _).bind' fun _ _ _ hr => e_field.bind fun f => e_body n _ (by have := room_ok hr; simp; omega) h2 (by simp; omega))
      (.ifM ((e_room _ _).bind' fun _ _ _ hr => e_depend.bind fun f => e_body n _ h1 (by have := room_ok hr; simp; omega) (by simp; omega)) .fail))
theorem e_issuer (s : Src) : Errs (issuerM s) := (e_room _ _).bind fun _ => (e_word _).bind fun _ => e_name.bind fun _ => (e_sign _).bind fun _ => .pure _
theorem e_unit (s : Src) : Errs (unitM s) := (e_room _ _).bind fun _ => (e_word _).bind fun _ => e_name.bind fun _ => (e_accept _ _).bind fun _ => .ite ((e_number _ _).bind fun _ => e_name.bind fun _ => (e_sign _).bind fun _ => .pure _) ((e_sign _).bind fun _ => .pure _)
theorem e_schema (s : Src) : Errs (schemaM s) := (e_room _ _).bind fun _ => (e_word _).bind fun _ => e_name.bind fun _ => (e_word _).bind fun _ => e_name.bind fun _ => (e_word _).bind fun _ => (e_number _ _).bind fun _ => (e_word _).bind fun _ => (e_rep 4).bind fun _ => (e_sign _).bind fun _ => (e_body _ _ (by simp) (by simp) (by simp)).bind fun _ => .pure _
theorem e_rule (s : Src) : Errs (ruleM s) := (e_room _ _).bind fun _ => (e_word _).bind fun _ => e_name.bind fun _ => (e_sign _).bind fun _ => .ifM ((e_list e_from _).bind fun _ => (e_list e_where _).bind fun _ => (e_list e_set _).bind fun _ => (e_sign _).bind fun _ => .pure _) .fail
theorem e_convert (s : Src) : Errs (convertM s) := (e_room _ _).bind fun _ => (e_word _).bind fun _ => e_name.bind fun _ => (e_word _).bind fun _ => e_name.bind fun _ => (e_sign _).bind fun _ => (e_list e_move _).bind fun _ => (e_sign _).bind fun _ => .pure _
theorem e_purpose (s : Src) : Errs (purposeM s) := (e_room _ _).bind fun _ => (e_word _).bind fun _ => e_name.bind fun _ => (e_sign _).bind fun _ => (e_list e_may _).bind fun _ => (e_word _).bind fun _ => (e_number _ _).bind fun _ => (e_sign _).bind fun _ => (e_sign _).bind fun _ => .pure _
theorem e_defH (t : B) (s : Src) : Errs (defH t s) := by
  unfold defH
  exact .ite (e_issuer s) (.ite (e_unit s) (.ite (e_schema s) (.ite (e_rule s) (.ite (e_convert s) (.ite (e_purpose s) .fail)))))
theorem e_def (s : Src) : Errs (defM s) := fun ts r e h => by
  cases ts with
  | nil => cases h; exact .inr rfl
  | cons x p =>
    simp only [defM] at h
    split at h
    · exact e_defH _ _ _ _ _ h
    · cases h; exact .inr rfl
theorem e_parse : ∀ (n : Nat) (s : Src) (ts r : List Tok) (e : Int), ts.length ≤ n → parseL n s ts = .err r e → e = 2 ∨ e = 100
  | n, s, [], r, e, _, h => by rw [parseL_nil] at h; cases h
  | 0, s, x :: p, r, e, hl, h => by simp at hl
  | n + 1, s, x :: p, r, e, hl, h => by
    rw [parseL_cons, bind_eq] at h
    cases hc : defM s (x :: p) with
    | ok a r1 =>
      rw [hc] at h
      have := eats_def _ _ _ _ hc
      simp only [List.length_cons] at this hl
      exact e_parse n a r1 r e (by omega) h
    | err r1 y => rw [hc] at h; cases h; exact e_def _ _ _ _ hc
theorem places {s : B} {l r : List Tok} {e : Int} (hl : lexR s 0 = .ok l) (h : parseR l = .err r e) : (e = 2 ∨ e = 100) ∧
    ((r = [] ∧ (parseR l).End) ∨ ∃ pre t post m, r = t :: post ∧ l = pre ++ t :: post ∧ t.at_ = (m : Nat) ∧ m < s.length ∧ lexR (s.take m) 0 = .ok pre ∧ (parseR pre).End) := by
  refine ⟨e_parse _ _ _ _ _ (Nat.le_refl _) h, ?_⟩
  cases r with
  | nil => exact .inl ⟨rfl, by rw [h]; rfl⟩
  | cons t post =>
    obtain ⟨pre, rfl⟩ := parse_sfx h
    obtain ⟨m, h1, h2, h3⟩ := lex_cut _ _ _ hl pre t post rfl
    exact .inr ⟨pre, t, post, m, rfl, rfl, by omega, h2, h3, parse_cut h⟩
end Go.Sx
/- Plain laws for SyntaxJoins: sources one after the other. No program. -/
namespace Go.Sx
open Go Go.Ab Go.Lx
def Ext {α : Type} (m : M α) : Prop := ∀ pre post a r, m pre = .ok a r → m (pre ++ post) = .ok a (r ++ post)
section
variable {α β : Type}
theorem Ext.pure (a : α) : Sx.Ext (pure a : M α) := fun pre post b r h => by cases h; rfl
theorem Ext.fail (e : Int) : Sx.Ext (fail e : M α) := fun pre post b r h => by cases h
theorem Ext.bind {m : M α} {f : α → M β} (hm : Sx.Ext m) (hf : ∀ a, Sx.Ext (f a)) : Sx.Ext (m >>= f) := fun pre post b r h => by
  rw [bind_eq] at h ⊢
  cases e : m pre with
  | ok a r1 => rw [e] at h; rw [hm _ post _ _ e]; exact hf a _ post _ _ h
  | err r1 x => rw [e] at h; cases h
theorem Good.ext1 {m : M α} (hm : Good m) {pre r : List Tok} {a : α} (h : m pre = .ok a r) (hr : r ≠ []) (post : List Tok) : m (pre ++ post) = .ok a (r ++ post) := by
  have h1 := hm.loc pre post
  unfold LocAt at h1
  cases e : m (pre ++ post) with
  | ok b r1 =>
    rw [e] at h1
    rcases h1 with ⟨mid, rfl, h2⟩ | ⟨_, h2⟩
    · rw [h] at h2; cases h2; rfl
    · rw [h] at h2; exact absurd h2 hr
  | err r1 x =>
    rw [e] at h1
    rcases h1 with ⟨mid, _, rfl, h2⟩ | ⟨_, h2⟩
    · rw [h] at h2; cases h2
    · rw [h] at h2; exact absurd h2 hr
theorem Ext.look {m : M α} {f : α → M β} (hm : Good m) (hf : ∀ a, Sx.Ext (f a) ∧ Eats (f a)) : Sx.Ext (m >>= f) := fun pre post b r h => by
  rw [bind_eq] at h ⊢
  cases e : m pre with
  | ok a r1 =>
    rw [e] at h
    have := (hf a).2 _ _ _ h
    have hne : r1 ≠ [] := by intro e; subst e; simp at this
    rw [hm.ext1 e hne post]
    exact (hf a).1 _ post _ _ h
  | err r1 x => rw [e] at h; cases h
theorem Ext.step {k : Int} {t : B} {f : Tok → α} : Sx.Ext (fun ts => if nextB k t ts then .ok (f (ts.headD default)) ts.tail else .err ts 100 : M α) := fun pre post a r h => by
  cases pre with
  | nil => simp [nextB] at h
  | cons x p =>
    have hn : nextB k t (x :: p ++ post) = nextB k t (x :: p) := rfl
    simp only [hn] at h ⊢
    split at h
    · rename_i hc; cases h; simp [hc]
    · cases h
theorem Ext.ite {c : Prop} [Decidable c] {a b : M α} (ha : Sx.Ext a) (hb : Sx.Ext b) : Sx.Ext (if c then a else b) := by split <;> assumption
theorem Eats.ite {c : Prop} [Decidable c] {a b : M α} (ha : Eats a) (hb : Eats b) : Eats (if c then a else b) := by split <;> assumption
theorem Ext.ifM {k : Int} {t : B} {a b : M α} (ha : Sx.Ext a) (hb : Sx.Ext b) (he : Eats b) : Sx.Ext (ifM (nextB k t) a b) := fun pre post x r h => by
  cases pre with
  | nil =>
    have hn : nextB k t [] = false := rfl
    simp only [Sx.ifM, hn, Bool.false_eq_true, if_false] at h
    have := he _ _ _ h
    simp at this
  | cons y p =>
    have hn : nextB k t (y :: p ++ post) = nextB k t (y :: p) := rfl
    simp only [Sx.ifM, hn] at h ⊢
    split at h
    · rename_i hc; rw [if_pos hc]; exact ha _ post _ _ h
    · rename_i hc; rw [if_neg hc]; exact hb _ post _ _ h
theorem Eats.ifM {c : List Tok → Bool} {a b : M α} (ha : Eats a) (hb : Eats b) : Eats (ifM c a b) := fun ts x r h => by
  simp only [Sx.ifM] at h
  split at h
  · exact ha _ _ _ h
  · exact hb _ _ _ h
theorem Eats.fail (e : Int) : Eats (fail e : M α) := fun _ _ _ h => by cases h
end
theorem x_name : Sx.Ext nameM := by rw [name_eq]; exact Ext.step (f := fun x => x.text)
theorem x_word (t : B) : Sx.Ext (wordM t) := by rw [word_eq]; exact Ext.step (f := fun _ => ())
theorem x_sign (t : B) : Sx.Ext (signM t) := by rw [sign_eq]; exact Ext.step (f := fun _ => ())
theorem x_number (lo hi : Int) : Sx.Ext (numberM lo hi) := fun pre post a r h => by
  cases pre with
  | nil => rw [number_nil] at h; cases h
  | cons x p =>
    rw [number_cons] at h
    rw [List.cons_append, number_cons]
    split at h
    · rename_i hc; cases h; rw [if_pos hc]
    · cases h
theorem x_room (a b : Nat) : Sx.Ext (roomM a b) := fun pre post u r h => by
  simp only [roomM] at h ⊢
  split at h
  · cases h
  · rename_i hc; cases h; rw [if_neg hc]
theorem x_rep : ∀ n, Sx.Ext (repM n)
  | 0 => .pure _
  | n + 1 => (x_number _ _).bind fun _ => (x_rep n).bind fun _ => .pure _
theorem x_field : Sx.Ext fieldM := (x_word _).bind fun _ => x_name.bind fun _ => (x_sign _).bind fun _ => Ext.look good_kind fun _ => ⟨(x_rep 4).bind fun _ => (x_sign _).bind fun _ => .pure _, Eats.bind2 (good_rep 4) fun _ => (eats_sign _).bind fun _ => .pure _⟩
theorem x_depend : Sx.Ext dependM := (x_word _).bind fun _ => Ext.look (good_listed _) fun _ => ⟨(x_word _).bind fun _ => x_name.bind fun _ => (x_sign _).bind fun _ => .pure _, (eats_word _).bind fun _ => good_name.bind fun _ => (good_sign _).bind fun _ => .pure _⟩
theorem x_body : ∀ n s, Sx.Ext (bodyM n s)
  | 0, _ => .fail _
  | n + 1, s => fun pre post a r h => by
    rw [bodyM, bind_eq] at h ⊢
    cases pre with
    | nil =>
      have hn : acceptM 3 [125] [] = .ok false [] := by simp [acceptM, nextB]
      rw [hn] at h
      simp [ifM, nextB, fail] at h
    | cons x p =>
      have hn : nextB 3 [125] (x :: p ++ post) = nextB 3 [125] (x :: p) := rfl
      simp only [acceptM, hn] at h ⊢
      cases hc : nextB 3 [125] (x :: p) with
      | true => simp only [hc, if_true] at h ⊢; cases h; rfl
      | false =>
        simp only [hc, Bool.false_eq_true, if_false] at h ⊢
        exact (Ext.ifM ((x_room _ _).bind fun _ => x_field.bind fun _ => x_body n _) (Ext.ifM ((x_room _ _).bind fun _ => x_depend.bind fun _ => x_body n _) (.fail _) (.fail _)) (Eats.ifM (Eats.bind2 (good_room _ _) fun _ => eats_depend.bind fun _ => good_body n _) (.fail _))) _ post _ _ h
theorem x_issuerB : Sx.Ext issuerB := (x_word _).bind fun _ => x_name.bind fun _ => (x_sign _).bind fun _ => .pure _
theorem x_unitB : Sx.Ext unitB := (x_word _).bind fun _ => x_name.bind fun _ => Ext.look (good_accept _ _) fun _ =>
  ⟨.ite ((x_number _ _).bind fun _ => x_name.bind fun _ => (x_sign _).bind fun _ => .pure _) ((x_sign _).bind fun _ => .pure _), .ite ((eats_number _ _).bind fun _ => good_name.bind fun _ => (good_sign _).bind fun _ => .pure _) ((eats_sign _).bind fun _ => .pure _)⟩
theorem x_schemaB : Sx.Ext schemaB := (x_word _).bind fun _ => x_name.bind fun _ => (x_word _).bind fun _ => x_name.bind fun _ => (x_word _).bind fun _ => (x_number _ _).bind fun _ => (x_word _).bind fun _ => (x_rep 4).bind fun _ => (x_sign _).bind fun _ => x_body _ _
theorem x_ruleB : Sx.Ext ruleB := (x_word _).bind fun _ => x_name.bind fun _ => (x_sign _).bind fun _ => by
  refine Ext.ifM ?_ (.fail _) (.fail _)
  refine Ext.look (good_list good_from eats_from _) fun _ => ⟨?_, ?_⟩
  · refine Ext.look (good_list good_where eats_where _) fun _ => ⟨?_, ?_⟩
    · exact Ext.look (good_list good_set eats_set _) fun _ => ⟨(x_sign _).bind fun _ => .pure _, (eats_sign _).bind fun _ => .pure _⟩
    · exact Eats.bind2 (good_list good_set eats_set _) fun _ => (eats_sign _).bind fun _ => .pure _
  · exact Eats.bind2 (good_list good_where eats_where _) fun _ => Eats.bind2 (good_list good_set eats_set _) fun _ => (eats_sign _).bind fun _ => .pure _
theorem x_convertB : Sx.Ext convertB := (x_word _).bind fun _ => x_name.bind fun _ => (x_word _).bind fun _ => x_name.bind fun _ => (x_sign _).bind fun _ => Ext.look (good_list good_move eats_move _) fun _ => ⟨(x_sign _).bind fun _ => .pure _, (eats_sign _).bind fun _ => .pure _⟩
theorem x_purposeB : Sx.Ext purposeB := (x_word _).bind fun _ => x_name.bind fun _ => (x_sign _).bind fun _ => Ext.look (good_list good_may eats_may _) fun _ => ⟨(x_word _).bind fun _ => (x_number _ _).bind fun _ => (x_sign _).bind fun _ => (x_sign _).bind fun _ => .pure _, (eats_word _).bind fun _ => (good_number _ _).bind fun _ => (good_sign _).bind fun _ => (good_sign _).bind fun _ => .pure _⟩
theorem x_one {α : Type} {n m : Nat} {body : M α} {g : α → Src} (h : Sx.Ext body) : Sx.Ext (oneM n m body g) := (x_room _ _).bind fun _ => h.bind fun _ => .pure _
theorem x_defH (t : B) (s : Src) : Sx.Ext (defH t s) := by
  unfold defH
  rw [issuer_eq, unit_eq, schema_eq, rule_eq, convert_eq, purpose_eq]
  exact .ite (x_one x_issuerB) (.ite (x_one x_unitB) (.ite (x_one x_schemaB) (.ite (x_one x_ruleB) (.ite (x_one x_convertB) (.ite (x_one x_purposeB) (.fail _))))))
theorem x_def (s : Src) : Sx.Ext (defM s) := fun pre post a r h => by
  cases pre with
  | nil => cases h
  | cons x p =>
    simp only [defM, List.cons_append] at h ⊢
    split at h
    · rename_i hk; rw [if_pos hk]; exact x_defH _ _ _ post _ _ h
    · cases h
theorem parse_ok_nil : ∀ (n : Nat) (s x : Src) (ts r : List Tok), parseL n s ts = .ok x r → r = []
  | n, s, x, [], r, h => by rw [parseL_nil] at h; cases h; rfl
  | 0, s, x, t :: p, r, h => by cases h
  | n + 1, s, x, t :: p, r, h => by
    rw [parseL_cons, bind_eq] at h
    cases e : defM s (t :: p) with
    | ok s1 r1 => rw [e] at h; exact parse_ok_nil n s1 x r1 r h
    | err a b => rw [e] at h; cases h
theorem parse_app (post : List Tok) : ∀ (n : Nat) (s x : Src) (pre : List Tok), pre.length ≤ n → parseL n s pre = .ok x [] → ∀ k, n + post.length ≤ k → parseL k s (pre ++ post) = parseL post.length x post
  | n, s, x, [], hn, h, k, hk => by
    rw [parseL_nil] at h
    cases h
    exact parseL_fuel _ _ _ (by simp; omega)
  | 0, s, x, t :: p, hn, h, k, hk => by simp at hn
  | n + 1, s, x, t :: p, hn, h, k, hk => by
    obtain ⟨k', rfl⟩ : ∃ k', k = k' + 1 := ⟨k - 1, by omega⟩
    rw [parseL_cons, bind_eq] at h
    rw [List.cons_append, parseL_cons, bind_eq]
    cases e : defM s (t :: p) with
    | ok s1 r1 =>
      rw [e] at h
      have e2 := x_def s _ post _ _ e
      rw [List.cons_append] at e2
      rw [e2]
      have hl := eats_def _ _ _ _ e
      simp only [List.length_cons] at hl hn
      exact parse_app post n s1 x r1 (by omega) h k' (by omega)
    | err a b => rw [e] at h; cases h
def Src.app (x y : Src) : Src := ⟨x.issuers ++ y.issuers, x.units ++ y.units, x.schemas ++ y.schemas, x.rules ++ y.rules, x.converts ++ y.converts, x.purposes ++ y.purposes⟩
structure Src.le (y z : Src) : Prop where
  i : y.issuers.length ≤ z.issuers.length
  u : y.units.length ≤ z.units.length
  s : y.schemas.length ≤ z.schemas.length
  r : y.rules.length ≤ z.rules.length
  c : y.converts.length ≤ z.converts.length
  p : y.purposes.length ≤ z.purposes.length
theorem Src.le.refl (y : Src) : y.le y := ⟨Nat.le_refl _, Nat.le_refl _, Nat.le_refl _, Nat.le_refl _, Nat.le_refl _, Nat.le_refl _⟩
theorem Src.le.trans {x y z : Src} (h : x.le y) (h' : y.le z) : x.le z := ⟨Nat.le_trans h.i h'.i, Nat.le_trans h.u h'.u, Nat.le_trans h.s h'.s, Nat.le_trans h.r h'.r, Nat.le_trans h.c h'.c, Nat.le_trans h.p h'.p⟩
theorem defH_le {t : B} {s s' : Src} {ts r : List Tok} (h : defH t s ts = .ok s' r) : s.le s' := by
  rcases defH_cases h with ⟨h1, a, rfl⟩ | ⟨h1, a, rfl⟩ | ⟨h1, a, rfl⟩ | ⟨h1, a, rfl⟩ | ⟨h1, a, rfl⟩ | ⟨h1, a, rfl⟩ <;> refine ⟨?_, ?_, ?_, ?_, ?_, ?_⟩ <;> simp
theorem def_H {s s' : Src} {ts r : List Tok} (h : defM s ts = .ok s' r) : ∃ t, defH t s ts = .ok s' r ∧ ∀ z, defM z ts = defH t z ts := by
  cases ts with
  | nil => cases h
  | cons x p =>
    simp only [defM] at h
    split at h
    · rename_i hk; exact ⟨x.text, h, fun z => by simp only [defM, hk, if_true]⟩
    · cases h
theorem parse_le : ∀ (n : Nat) (s x : Src) (ts r : List Tok), parseL n s ts = .ok x r → s.le x
  | n, s, x, [], r, h => by rw [parseL_nil] at h; cases h; exact .refl _
  | 0, s, x, t :: p, r, h => by cases h
  | n + 1, s, x, t :: p, r, h => by
    rw [parseL_cons, bind_eq] at h
    cases e : defM s (t :: p) with
    | ok s1 r1 =>
      rw [e] at h
      obtain ⟨t, h1, _⟩ := def_H e
      exact (defH_le h1).trans (parse_le n s1 x r1 r h)
    | err a b => rw [e] at h; cases h
theorem one_app {α : Type} {n m k : Nat} {body : M α} {g g' : α → Src} {ts r : List Tok} {y' : Src} (h : oneM n m body g ts = .ok y' r) : ∃ a, y' = g a ∧ oneM k m body g' ts = if k = m then .err ts 2 else .ok (g' a) r := by
  obtain ⟨_, a, hb, rfl⟩ := oneM_ok h
  refine ⟨a, rfl, ?_⟩
  by_cases e : k = m
  · simp only [oneM, bind_eq, roomM, e, if_true]
  · simp only [oneM, bind_eq, roomM, e, if_false, hb, pure_eq]
theorem defH_app (x : Src) {t : B} {y y' : Src} {ts r : List Tok} (h : defH t y ts = .ok y' r) :
    (defH t (x.app y) ts = .ok (x.app y') r) ∨ (defH t (x.app y) ts = .err ts 2 ∧ ¬ Few (x.app y')) := by
  unfold defH at h ⊢
  have key : ∀ {k m : Nat} {a b : R Src} {fw : Prop}, (k = m → fw) → ((if k = m then a else b) = b ∨ ((if k = m then a else b) = a ∧ fw)) := by
    intro k m a b fw hf
    by_cases e : k = m
    · exact .inr ⟨by rw [if_pos e], hf e⟩
    · exact .inl (by rw [if_neg e])
  split at h
  · rename_i h0
    rw [if_pos h0]
    rw [issuer_eq] at h ⊢
    obtain ⟨a, rfl, e⟩ := one_app (k := (x.app y).issuers.length) (g' := fun a => { x.app y with issuers := (x.app y).issuers ++ [a] }) h
    rw [e]
    have := key (a := .err ts 2) (b := .ok (x.app { y with issuers := y.issuers ++ [a] }) r) (fw := ¬ Few (x.app { y with issuers := y.issuers ++ [a] })) (fun (e : (x.app y).issuers.length = 8) (hf : Few (x.app { y with issuers := y.issuers ++ [a] })) => by
      have := hf.issuers; simp [Src.app] at this e; omega)
    simpa [Src.app] using this
  rename_i h0; rw [if_neg h0]
  split at h
  · rename_i h0
    rw [if_pos h0]
    rw [unit_eq] at h ⊢
    obtain ⟨a, rfl, e⟩ := one_app (k := (x.app y).units.length) (g' := fun a => { x.app y with units := (x.app y).units ++ [a] }) h
    rw [e]
    have := key (a := .err ts 2) (b := .ok (x.app { y with units := y.units ++ [a] }) r) (fw := ¬ Few (x.app { y with units := y.units ++ [a] })) (fun (e : (x.app y).units.length = 16) (hf : Few (x.app { y with units := y.units ++ [a] })) => by
      have := hf.units; simp [Src.app] at this e; omega)
    simpa [Src.app] using this
  rename_i h0; rw [if_neg h0]
  split at h
  · rename_i h0
    rw [if_pos h0]
    rw [schema_eq] at h ⊢
    obtain ⟨a, rfl, e⟩ := one_app (k := (x.app y).schemas.length) (g' := fun a => { x.app y with schemas := (x.app y).schemas ++ [a] }) h
    rw [e]
    have := key (a := .err ts 2) (b := .ok (x.app { y with schemas := y.schemas ++ [a] }) r) (fw := ¬ Few (x.app { y with schemas := y.schemas ++ [a] })) (fun (e : (x.app y).schemas.length = 16) (hf : Few (x.app { y with schemas := y.schemas ++ [a] })) => by
      have := hf.schemas; simp [Src.app] at this e; omega)
    simpa [Src.app] using this
  rename_i h0; rw [if_neg h0]
  split at h
  · rename_i h0
    rw [if_pos h0]
    rw [rule_eq] at h ⊢
    obtain ⟨a, rfl, e⟩ := one_app (k := (x.app y).rules.length) (g' := fun a => { x.app y with rules := (x.app y).rules ++ [a] }) h
    rw [e]
    have := key (a := .err ts 2) (b := .ok (x.app { y with rules := y.rules ++ [a] }) r) (fw := ¬ Few (x.app { y with rules := y.rules ++ [a] })) (fun (e : (x.app y).rules.length = 16) (hf : Few (x.app { y with rules := y.rules ++ [a] })) => by
      have := hf.rules; simp [Src.app] at this e; omega)
    simpa [Src.app] using this
  rename_i h0; rw [if_neg h0]
  split at h
  · rename_i h0
    rw [if_pos h0]
    rw [convert_eq] at h ⊢
    obtain ⟨a, rfl, e⟩ := one_app (k := (x.app y).converts.length) (g' := fun a => { x.app y with converts := (x.app y).converts ++ [a] }) h
    rw [e]
    have := key (a := .err ts 2) (b := .ok (x.app { y with converts := y.converts ++ [a] }) r) (fw := ¬ Few (x.app { y with converts := y.converts ++ [a] })) (fun (e : (x.app y).converts.length = 16) (hf : Few (x.app { y with converts := y.converts ++ [a] })) => by
      have := hf.converts; simp [Src.app] at this e; omega)
    simpa [Src.app] using this
  rename_i h0; rw [if_neg h0]
  split at h
  · rename_i h0
    rw [if_pos h0]
    rw [purpose_eq] at h ⊢
    obtain ⟨a, rfl, e⟩ := one_app (k := (x.app y).purposes.length) (g' := fun a => { x.app y with purposes := (x.app y).purposes ++ [a] }) h
    rw [e]
    have := key (a := .err ts 2) (b := .ok (x.app { y with purposes := y.purposes ++ [a] }) r) (fw := ¬ Few (x.app { y with purposes := y.purposes ++ [a] })) (fun (e : (x.app y).purposes.length = 8) (hf : Few (x.app { y with purposes := y.purposes ++ [a] })) => by
      have := hf.purposes; simp [Src.app] at this e; omega)
    simpa [Src.app] using this
  · cases h
theorem few_le {x y z : Src} (h : y.le z) (hf : Few (x.app z)) : Few (x.app y) := by
  obtain ⟨f1, f2, f3, f4, f5, f6⟩ := hf
  obtain ⟨h1, h2, h3, h4, h5, h6⟩ := h
  simp only [Src.app, List.length_append] at f1 f2 f3 f4 f5 f6
  refine ⟨?_, ?_, ?_, ?_, ?_, ?_⟩ <;> simp only [Src.app, List.length_append] <;> omega
theorem parse_behind (x : Src) : ∀ (n : Nat) (y y' : Src) (ts : List Tok), parseL n y ts = .ok y' [] →
    (Few (x.app y') → parseL n (x.app y) ts = .ok (x.app y') []) ∧ (¬ Few (x.app y') → Few (x.app y) → ∃ t r, t :: r <:+ ts ∧ parseL n (x.app y) ts = .err (t :: r) 2)
  | n, y, y', [], h => by
    rw [parseL_nil] at h
    cases h
    exact ⟨fun _ => by rw [parseL_nil], fun h1 h2 => absurd h2 h1⟩
  | 0, y, y', t :: p, h => by cases h
  | n + 1, y, y', t :: p, h => by
    rw [parseL_cons, bind_eq] at h
    rw [parseL_cons, bind_eq]
    cases e : defM y (t :: p) with
    | err a b => rw [e] at h; cases h
    | ok y1 r1 =>
      rw [e] at h
      obtain ⟨w, h1, h2⟩ := def_H e
      rw [h2]
      have hsx : r1 <:+ t :: p := (good_def y).ok e
      rcases defH_app x h1 with h3 | ⟨h3, h4⟩
      · rw [h3]
        obtain ⟨i1, i2⟩ := parse_behind x n y1 y' r1 h
        refine ⟨i1, fun hn hf => ?_⟩
        obtain ⟨t', r', h5, h6⟩ := i2 hn (defH_few hf h3)
        exact ⟨t', r', h5.trans hsx, h6⟩
      · rw [h3]
        exact ⟨fun hf => absurd (few_le (parse_le n y1 y' r1 [] h) hf) h4, fun _ _ => ⟨t, p, List.suffix_rfl, rfl⟩⟩
theorem mv_sh (d : Nat) : Mv (shT d) := fun _ => ⟨rfl, rfl, rfl⟩
theorem join_lex {a b : B} {l m : List Tok} (h : lexR a 0 = .ok l) (h2 : lexR b 0 = .ok m) : lexR (a ++ 10 :: b) 0 = .ok (l ++ m.map (shT (a.length + 1))) := by
  have h3 := lexR_shift (a.length + 1) b 0
  rw [h2] at h3
  rw [lexR_join, h]
  simp only [Nat.zero_add] at h3 ⊢
  first | (rw [h3]; rfl) | (simp [h3, shR, appT])
theorem at_ge' : ∀ s off, ∀ l, lexR s off = .ok l → ∀ t ∈ l, (off : Int) ≤ t.at_ := by
  apply lex_ind
  · intro off l h t ht; rw [lexR_nil'] at h; cases h; cases ht
  · intro c r n off h hn ih l hl t ht
    rw [lexR_skip h] at hl
    have := ih l hl t ht
    omega
  · intro c r k t m n off h hn ih l hl u hu
    rw [lexR_tok h] at hl
    cases hr : lexR (r.drop n) (off + n + 1) with
    | err e => rw [hr] at hl; cases hl
    | ok l' =>
      rw [hr] at hl
      simp only [addT, Res.ok.injEq] at hl
      subst hl
      rcases List.mem_cons.1 hu with rfl | hu
      · exact Int.le_refl _
      · have := ih l' hr u hu
        omega
  · intro c r off h l hl; rw [lexR_err h] at hl; cases hl
theorem few_parse : ∀ (n : Nat) (s x : Src) (ts r : List Tok), Few s → parseL n s ts = .ok x r → Few x
  | n, s, x, [], r, hs, h => by rw [parseL_nil] at h; cases h; exact hs
  | 0, s, x, t :: p, r, hs, h => by cases h
  | n + 1, s, x, t :: p, r, hs, h => by
    rw [parseL_cons, bind_eq] at h
    cases e : defM s (t :: p) with
    | ok s1 r1 =>
      rw [e] at h
      obtain ⟨t, h1, _⟩ := def_H e
      exact few_parse n s1 x r1 r (defH_few hs h1) h
    | err a b => rw [e] at h; cases h
theorem joins {a b : B} {l m : List Tok} {x y : Src} {r r' : List Tok} (hl : lexR a 0 = .ok l) (hm : lexR b 0 = .ok m) (hx : parseR l = .ok x r) (hy : parseR m = .ok y r') :
    ∃ q, lexR (a ++ 10 :: b) 0 = .ok q ∧ ((Few (x.app y) ∧ parseR q = .ok (x.app y) []) ∨ (¬ Few (x.app y) ∧ ∃ t p, parseR q = .err (t :: p) 2 ∧ (a.length : Int) < t.at_)) := by
  refine ⟨_, join_lex hl hm, ?_⟩
  obtain rfl := parse_ok_nil _ _ _ _ _ hx
  obtain rfl := parse_ok_nil _ _ _ _ _ hy
  have e1 : parseR (l ++ m.map (shT (a.length + 1))) = parseL m.length x (m.map (shT (a.length + 1))) := by
    have := parse_app (m.map (shT (a.length + 1))) l.length src0 x l (Nat.le_refl _) hx (l ++ m.map (shT (a.length + 1))).length (by simp)
    rw [parseR, this, List.length_map]
  have e2 : parseL m.length src0 (m.map (shT (a.length + 1))) = .ok y [] := by
    rw [(good_parse _ _).mv _ (mv_sh _)]
    rw [parseR] at hy
    rw [hy]; rfl
  have e3 : x.app src0 = x := by simp [Src.app]
  have fx : Few (x.app src0) := by
    rw [e3]
    exact few_parse _ _ _ _ _ few0 hx
  obtain ⟨i1, i2⟩ := parse_behind x _ _ _ _ e2
  rw [e3] at i1 i2
  rw [e1]
  by_cases hf : Few (x.app y)
  · exact .inl ⟨hf, i1 hf⟩
  · refine .inr ⟨hf, ?_⟩
    obtain ⟨t, p, h1, h2⟩ := i2 hf (by rw [e3] at fx; exact fx)
    refine ⟨t, p, h2, ?_⟩
    have ht : t ∈ m.map (shT (a.length + 1)) := h1.mem (by simp)
    obtain ⟨u, hu, rfl⟩ := List.mem_map.1 ht
    have := at_ge' _ _ _ hm u hu
    simp only [shT]
    omega
end Go.Sx
/- What the parser of sources yields is well formed. No program. -/
namespace Go.Sx
open Go Go.Ab Go.Lx
def nm (b : B) : Prop := nameB b = true
def numIn (lo hi n : Int) : Prop := lo ≤ n ∧ n ≤ hi
instance (lo hi n : Int) : Decidable (numIn lo hi n) := by unfold numIn; exact inferInstance
def Term.wf : Term → Prop
  | .num n => numIn 0 1048576 n
  | .path a b => nm a ∧ nm b
def optWf {α : Type} (p : α → Prop) : Option α → Prop
  | none => True
  | some x => p x
structure From.wf (f : From) : Prop where
  name : nm f.name
  kind : nm f.kind
  of_ : optWf (fun x => nm x.1 ∧ nm x.2) f.of_
structure Atom.wf (f : Atom) : Prop where
  op : numIn 1 4 f.op
  a : f.a.wf
  b : f.b.wf
structure SetT.wf (f : SetT) : Prop where
  path : nm f.path
  term : f.term.wf
structure Move.wf (f : Move) : Prop where
  to_ : nm f.to_
  from_ : nm f.from_
  shift : numIn (-1048576) 1048576 f.shift
structure Ref.wf (f : Ref) : Prop where
  name : nm f.name
  path : nm f.path
def namesWf (most : Nat) (l : List B) : Prop := l ≠ [] ∧ l.length ≤ most ∧ ∀ x ∈ l, nm x
def TypeT.wf : TypeT → Prop
  | .num lo hi of_ => numIn 0 1048576 lo ∧ numIn 0 1048576 hi ∧ optWf nm of_
  | .date => True
  | .person => True
  | .choice l => namesWf 16 l
structure Field.wf (f : Field) : Prop where
  name : nm f.name
  type : f.type.wf
  four : f.weights.length = 4
  weights : ∀ x ∈ f.weights, numIn 0 9 x
structure Depend.wf (f : Depend) : Prop where
  names : namesWf 11 f.names
  name : nm f.name
structure UnitT.wf (f : UnitT) : Prop where
  name : nm f.name
  of_ : optWf (fun x => numIn 2 1000 x.1 ∧ nm x.2) f.of_
structure Schema.wf (f : Schema) : Prop where
  name : nm f.name
  by_ : nm f.by_
  version : numIn 1 255 f.version
  self : ∃ w r, f.fields = ⟨[115, 101, 108, 102], .person, w⟩ :: r
  few : f.fields.length ≤ 12
  fields : ∀ x ∈ f.fields, x.wf
  less : f.depends.length ≤ 8
  depends : ∀ x ∈ f.depends, x.wf
structure Rule.wf (f : Rule) : Prop where
  head : nm f.head
  some_ : f.froms ≠ []
  few : f.froms.length ≤ 3
  froms : ∀ x ∈ f.froms, x.wf
  less : f.wheres.length ≤ 8
  wheres : ∀ x ∈ f.wheres, x.wf
  least : f.sets.length ≤ 11
  sets : ∀ x ∈ f.sets, x.wf
structure Convert.wf (f : Convert) : Prop where
  from_ : nm f.from_
  to_ : nm f.to_
  few : f.moves.length ≤ 11
  moves : ∀ x ∈ f.moves, x.wf
structure Purpose.wf (f : Purpose) : Prop where
  name : nm f.name
  few : f.may.length ≤ 32
  may : ∀ x ∈ f.may, x.wf
  most : numIn 0 32 f.most
structure Src.wf (s : Src) : Prop where
  few : Few s
  issuers : ∀ x ∈ s.issuers, nm x
  units : ∀ x ∈ s.units, x.wf
  schemas : ∀ x ∈ s.schemas, x.wf
  rules : ∀ x ∈ s.rules, x.wf
  converts : ∀ x ∈ s.converts, x.wf
  purposes : ∀ x ∈ s.purposes, x.wf
def Gives {α : Type} (m : M α) (p : α → Prop) : Prop := ∀ ts a r, (∀ t ∈ ts, validB t = true) → m ts = .ok a r → p a
section
variable {α β : Type} {p : α → Prop} {q : β → Prop}
theorem Gives.pure {a : α} (h : p a) : Gives (pure a : M α) p := fun _ _ _ _ e => by cases e; exact h
theorem Gives.fail (e : Int) : Gives (fail e : M α) p := fun _ _ _ _ e => by cases e
theorem Gives.bind {m : M α} {f : α → M β} (g : Good m) (hm : Gives m p) (hf : ∀ a, p a → Gives (f a) q) : Gives (m >>= f) q := fun ts b r hv h => by
  rw [bind_eq] at h
  cases e : m ts with
  | err a b => rw [e] at h; cases h
  | ok a r1 =>
    rw [e] at h
    exact hf a (hm _ _ _ hv e) _ _ _ (fun t ht => hv t ((g.ok e).mem ht)) h
theorem Gives.ite {c : Prop} [Decidable c] {a b : M α} (ha : Gives a p) (hb : Gives b p) : Gives (if c then a else b) p := by split <;> assumption
theorem Gives.ifM {c : List Tok → Bool} {a b : M α} (ha : Gives a p) (hb : Gives b p) : Gives (ifM c a b) p := fun ts x r hv h => by
  simp only [Sx.ifM] at h
  split at h
  · exact ha _ _ _ hv h
  · exact hb _ _ _ hv h
theorem Gives.any {m : M α} : Gives m fun _ => True := fun _ _ _ _ _ => trivial
end
theorem v_name : Gives nameM nm := fun ts a r hv h => by
  rw [name_eq] at h
  cases ts with
  | nil => simp [nextB] at h
  | cons x p =>
    simp only at h
    split at h
    · rename_i hc
      cases h
      have := hv x (by simp)
      simp [nextB] at hc
      simp [validB, hc] at this
      exact this.1
    · cases h
theorem v_number (lo hi : Int) : Gives (numberM lo hi) (numIn lo hi) := fun ts a r _ h => numberM_ok h
theorem v_room (n m : Nat) : Gives (roomM n m) fun _ => n ≠ m := fun ts a r _ h => by
  simp only [roomM] at h
  split at h
  · cases h
  · assumption
theorem v_list {α : Type} {p : α → Prop} {k : Int} {t : B} {read : M α} (g : Good read) (e : Eats read) (h : Gives read p) : ∀ n, Gives (listM (nextB k t) read n) fun l => l.length ≤ n ∧ ∀ x ∈ l, p x
  | 0 => fun ts a r hv hh => by
    simp only [listM] at hh
    split at hh
    · cases hh
    · cases hh; simp
  | n + 1 => fun ts a r hv hh => by
    simp only [listM] at hh
    split at hh
    · exact (h.bind g fun a ha => (v_list g e h n).bind (good_list g e n) fun l hl => Gives.pure (p := fun l : List α => l.length ≤ n + 1 ∧ ∀ x ∈ l, p x) (a := a :: l) ⟨by simp; exact hl.1, by simp; exact ⟨ha, hl.2⟩⟩) ts a r hv hh
    · cases hh; simp
theorem v_path : Gives pathM fun x => nm x.1 ∧ nm x.2 := v_name.bind good_name fun _ h1 => Gives.any.bind (good_sign _) fun _ _ => v_name.bind good_name fun _ h2 => .pure ⟨h1, h2⟩
theorem v_term : Gives termM Term.wf := fun ts a r hv h => by
  simp only [termM] at h
  split at h
  · exact ((v_number 0 1048576).bind (good_number _ _) fun n hn => Gives.pure (p := Term.wf) (a := .num n) hn) ts a r hv h
  · exact (v_path.bind good_path fun x hx => Gives.pure (p := Term.wf) (a := .path x.1 x.2) hx) ts a r hv h
theorem v_from : Gives fromM From.wf := Gives.any.bind (good_word _) fun _ _ => v_name.bind good_name fun _ h1 => v_name.bind good_name fun _ h2 => Gives.any.bind (good_accept _ _) fun _ _ => .ite (v_path.bind good_path fun _ h3 => Gives.any.bind (good_sign _) fun _ _ => .pure ⟨h1, h2, h3⟩) (Gives.any.bind (good_sign _) fun _ _ => .pure ⟨h1, h2, trivial⟩)
theorem v_op : Gives opM (numIn 1 4) := Gives.any.bind (good_accept _ _) fun _ _ => .ite (.pure (by decide)) (Gives.any.bind (good_accept _ _) fun _ _ => .ite (Gives.any.bind (good_accept _ _) fun _ _ => .pure (by split <;> decide)) (Gives.any.bind (good_sign _) fun _ _ => Gives.any.bind (good_sign _) fun _ _ => .pure (by decide)))
theorem v_where : Gives whereM Atom.wf := Gives.any.bind (good_word _) fun _ _ => v_term.bind good_term fun _ h1 => v_op.bind good_op fun _ h2 => v_term.bind good_term fun _ h3 => Gives.any.bind (good_sign _) fun _ _ => .pure ⟨h2, h1, h3⟩
theorem v_set : Gives setM SetT.wf := Gives.any.bind (good_word _) fun _ _ => v_name.bind good_name fun _ h1 => Gives.any.bind (good_sign _) fun _ _ => v_term.bind good_term fun _ h2 => Gives.any.bind (good_sign _) fun _ _ => .pure ⟨h1, h2⟩
theorem v_shift : Gives shiftM (numIn (-1048576) 1048576) := Gives.any.bind (good_accept _ _) fun _ _ => .ite (fun ts a r hv h => by have := v_number _ _ _ _ _ hv h; unfold numIn at this ⊢; omega)
  (Gives.any.bind (good_accept _ _) fun _ _ => .ite ((v_number 0 1048576).bind (good_number _ _) fun _ h => .pure (by unfold numIn at h ⊢; omega)) (.pure (by decide)))
theorem v_move : Gives moveM Move.wf := v_name.bind good_name fun _ h1 => Gives.any.bind (good_sign _) fun _ _ => v_name.bind good_name fun _ h2 => v_shift.bind good_shift fun _ h3 => Gives.any.bind (good_sign _) fun _ _ => .pure ⟨h1, h2, h3⟩
theorem v_may : Gives mayM Ref.wf := Gives.any.bind (good_word _) fun _ _ => v_path.bind good_path fun _ h1 => Gives.any.bind (good_sign _) fun _ _ => .pure ⟨h1.1, h1.2⟩
theorem v_rep : ∀ n, Gives (repM n) fun l => l.length = n ∧ ∀ x ∈ l, numIn 0 9 x
  | 0 => .pure (by simp)
  | n + 1 => (v_number 0 9).bind (good_number _ _) fun a ha => (v_rep n).bind (good_rep n) fun l hl => .pure ⟨by simp [hl.1], by simp; exact ⟨ha, hl.2⟩⟩
theorem v_listed (n : Nat) (hn : 1 ≤ n) : Gives (listedM n) (namesWf n) := v_name.bind good_name fun a ha => (v_list (p := nm) ((good_sign _).bind fun _ => good_name) ((eats_sign _).bind fun _ => good_name) (Gives.any.bind (good_sign _) fun _ _ => v_name) (n - 1)).bind (good_list ((good_sign _).bind fun _ => good_name) ((eats_sign _).bind fun _ => good_name) _) fun l hl => .pure ⟨by simp, by simp; omega, by simp; exact ⟨ha, hl.2⟩⟩
theorem v_kind : Gives kindM TypeT.wf := Gives.any.bind (good_accept _ _) fun _ _ => .ite
  ((v_number 0 1048576).bind (good_number _ _) fun _ h1 => Gives.any.bind (good_word _) fun _ _ => (v_number 0 1048576).bind (good_number _ _) fun _ h2 => Gives.any.bind (good_accept _ _) fun _ _ => .ite (v_name.bind good_name fun _ h3 => .pure ⟨h1, h2, h3⟩) (.pure ⟨h1, h2, trivial⟩))
  (Gives.any.bind (good_accept _ _) fun _ _ => .ite (.pure trivial) (Gives.any.bind (good_accept _ _) fun _ _ => .ite (.pure trivial) (Gives.any.bind (good_accept _ _) fun _ _ => .ite ((v_listed 16 (by decide)).bind (good_listed _) fun _ h => .pure h) (.fail _))))
theorem v_field : Gives fieldM Field.wf := Gives.any.bind (good_word _) fun _ _ => v_name.bind good_name fun _ h1 => Gives.any.bind (good_sign _) fun _ _ => v_kind.bind good_kind fun _ h2 => (v_rep 4).bind (good_rep 4) fun _ h3 => Gives.any.bind (good_sign _) fun _ _ => .pure ⟨h1, h2, h3.1, h3.2⟩
theorem v_depend : Gives dependM Depend.wf := Gives.any.bind (good_word _) fun _ _ => (v_listed 11 (by decide)).bind (good_listed _) fun _ h1 => Gives.any.bind (good_word _) fun _ _ => v_name.bind good_name fun _ h2 => Gives.any.bind (good_sign _) fun _ _ => .pure ⟨h1, h2⟩
theorem v_body : ∀ n s, s.wf → Gives (bodyM n s) Schema.wf
  | 0, _, _ => .fail _
  | n + 1, s, hs => Gives.any.bind (good_accept _ _) fun _ _ => .ite (.pure hs) (.ifM
      ((v_room _ _).bind (good_room _ _) fun _ hr => v_field.bind good_field fun f hf => v_body n _ (by
        obtain ⟨h1, h2, h3, ⟨w, r, h4⟩, h5, h6, h7, h8⟩ := hs
        refine ⟨h1, h2, h3, ⟨w, r ++ [f], by simp [h4]⟩, by simp; omega, ?_, h7, h8⟩
        intro x hx
        rcases List.mem_append.1 hx with hx | hx
        · exact h6 x hx
        · rw [List.mem_singleton.1 hx]; exact hf))
      (.ifM ((v_room _ _).bind (good_room _ _) fun _ hr => v_depend.bind good_depend fun f hf => v_body n _ (by
        obtain ⟨h1, h2, h3, h4, h5, h6, h7, h8⟩ := hs
        refine ⟨h1, h2, h3, h4, h5, h6, by simp; omega, ?_⟩
        intro x hx
        rcases List.mem_append.1 hx with hx | hx
        · exact h8 x hx
        · rw [List.mem_singleton.1 hx]; exact hf)) (.fail _)))
theorem nm_self : nm [115, 101, 108, 102] := by unfold nm; decide
theorem v_issuerB : Gives issuerB nm := Gives.any.bind (good_word _) fun _ _ => v_name.bind good_name fun _ h => Gives.any.bind (good_sign _) fun _ _ => .pure h
theorem v_unitB : Gives unitB UnitT.wf := Gives.any.bind (good_word _) fun _ _ => v_name.bind good_name fun _ h1 => Gives.any.bind (good_accept _ _) fun _ _ => .ite ((v_number 2 1000).bind (good_number _ _) fun _ h2 => v_name.bind good_name fun _ h3 => Gives.any.bind (good_sign _) fun _ _ => .pure ⟨h1, h2, h3⟩) (Gives.any.bind (good_sign _) fun _ _ => .pure ⟨h1, trivial⟩)
theorem v_schemaB : Gives schemaB Schema.wf := Gives.any.bind (good_word _) fun _ _ => v_name.bind good_name fun _ h1 => Gives.any.bind (good_word _) fun _ _ => v_name.bind good_name fun _ h2 => Gives.any.bind (good_word _) fun _ _ => (v_number 1 255).bind (good_number _ _) fun _ h3 => Gives.any.bind (good_word _) fun _ _ => (v_rep 4).bind (good_rep 4) fun w h4 => Gives.any.bind (good_sign _) fun _ _ =>
  v_body _ _ ⟨h1, h2, h3, ⟨w, [], rfl⟩, by simp, by
    intro x hx
    rw [List.mem_singleton.1 hx]
    exact ⟨nm_self, trivial, h4.1, h4.2⟩, by simp, by simp⟩
theorem v_ruleB : Gives ruleB Rule.wf := Gives.any.bind (good_word _) fun _ _ => v_name.bind good_name fun _ h1 => Gives.any.bind (good_sign _) fun _ _ => fun ts a r hv h => by
  simp only [ifM] at h
  split at h
  · rename_i hc
    have hf : ∀ l r, listM (nextB 1 [102, 114, 111, 109]) fromM 3 ts = .ok l r → l ≠ [] := by
      intro l r hl e
      subst e
      simp only [listM, hc, if_true] at hl
      rw [bind_eq] at hl
      cases e1 : fromM ts with
      | err a b => rw [e1] at hl; cases hl
      | ok f r1 =>
        rw [e1] at hl
        simp only [bind_eq] at hl
        split at hl
        · cases hl
        · cases hl
    have v1 : Gives (fun t => if t = ts then listM (nextB 1 [102, 114, 111, 109]) fromM 3 ts else listM (nextB 1 [102, 114, 111, 109]) fromM 3 t) fun l => l.length ≤ 3 ∧ ∀ x ∈ l, x.wf := fun t l r hv hl => by
      have : listM (nextB 1 [102, 114, 111, 109]) fromM 3 t = .ok l r := by
        simp only at hl
        split at hl
        · rename_i e; rw [e]; exact hl
        · exact hl
      exact v_list good_from eats_from v_from 3 t l r hv this
    rw [bind_eq] at h
    cases e1 : listM (nextB 1 [102, 114, 111, 109]) fromM 3 ts with
    | err a b => rw [e1] at h; cases h
    | ok l r1 =>
      rw [e1] at h
      have hl := v_list good_from eats_from v_from 3 ts l r1 hv e1
      exact ((v_list good_where eats_where v_where 8).bind (good_list good_where eats_where 8) fun w hw => (v_list good_set eats_set v_set 11).bind (good_list good_set eats_set 11) fun t ht => Gives.any.bind (good_sign _) fun _ _ => Gives.pure (p := Rule.wf) ⟨h1, hf l r1 e1, hl.1, hl.2, hw.1, hw.2, ht.1, ht.2⟩) r1 a r (fun t ht => hv t (((good_list good_from eats_from 3).ok e1).mem ht)) h
  · cases h
theorem v_convertB : Gives convertB Convert.wf := Gives.any.bind (good_word _) fun _ _ => v_name.bind good_name fun _ h1 => Gives.any.bind (good_word _) fun _ _ => v_name.bind good_name fun _ h2 => Gives.any.bind (good_sign _) fun _ _ => (v_list good_move eats_move v_move 11).bind (good_list good_move eats_move 11) fun _ h3 => Gives.any.bind (good_sign _) fun _ _ => .pure ⟨h1, h2, h3.1, h3.2⟩
theorem v_purposeB : Gives purposeB Purpose.wf := Gives.any.bind (good_word _) fun _ _ => v_name.bind good_name fun _ h1 => Gives.any.bind (good_sign _) fun _ _ => (v_list good_may eats_may v_may 32).bind (good_list good_may eats_may 32) fun _ h2 => Gives.any.bind (good_word _) fun _ _ => (v_number 0 32).bind (good_number _ _) fun _ h3 => Gives.any.bind (good_sign _) fun _ _ => Gives.any.bind (good_sign _) fun _ _ => .pure ⟨h1, h2.1, h2.2, h3⟩
theorem app1 {α : Type} {p : α → Prop} {l : List α} {a : α} (h : ∀ x ∈ l, p x) (ha : p a) : ∀ x ∈ l ++ [a], p x := fun x hx => by
  rcases List.mem_append.1 hx with hx | hx
  · exact h x hx
  · rw [List.mem_singleton.1 hx]; exact ha
theorem v_defH {t : B} {s : Src} (hs : s.wf) : Gives (defH t s) Src.wf := fun ts s' r hv h => by
  have hfew := defH_few hs.few h
  unfold defH at h
  split at h
  · rw [issuer_eq] at h; obtain ⟨_, a, hb, rfl⟩ := oneM_ok h
    exact ⟨hfew, app1 hs.issuers (v_issuerB _ _ _ hv hb), hs.units, hs.schemas, hs.rules, hs.converts, hs.purposes⟩
  split at h
  · rw [unit_eq] at h; obtain ⟨_, a, hb, rfl⟩ := oneM_ok h
    exact ⟨hfew, hs.issuers, app1 hs.units (v_unitB _ _ _ hv hb), hs.schemas, hs.rules, hs.converts, hs.purposes⟩
  split at h
  · rw [schema_eq] at h; obtain ⟨_, a, hb, rfl⟩ := oneM_ok h
    exact ⟨hfew, hs.issuers, hs.units, app1 hs.schemas (v_schemaB _ _ _ hv hb), hs.rules, hs.converts, hs.purposes⟩
  split at h
  · rw [rule_eq] at h; obtain ⟨_, a, hb, rfl⟩ := oneM_ok h
    exact ⟨hfew, hs.issuers, hs.units, hs.schemas, app1 hs.rules (v_ruleB _ _ _ hv hb), hs.converts, hs.purposes⟩
  split at h
  · rw [convert_eq] at h; obtain ⟨_, a, hb, rfl⟩ := oneM_ok h
    exact ⟨hfew, hs.issuers, hs.units, hs.schemas, hs.rules, app1 hs.converts (v_convertB _ _ _ hv hb), hs.purposes⟩
  split at h
  · rw [purpose_eq] at h; obtain ⟨_, a, hb, rfl⟩ := oneM_ok h
    exact ⟨hfew, hs.issuers, hs.units, hs.schemas, hs.rules, hs.converts, app1 hs.purposes (v_purposeB _ _ _ hv hb)⟩
  · cases h
theorem v_parse : ∀ n s, s.wf → Gives (parseL n s) Src.wf
  | n, s, hs => fun ts x r hv h => by
    match n, ts, h, hv with
    | n, [], h, _ => rw [parseL_nil] at h; cases h; exact hs
    | 0, t :: p, h, _ => cases h
    | n + 1, t :: p, h, hv =>
      rw [parseL_cons, bind_eq] at h
      cases e : defM s (t :: p) with
      | err a b => rw [e] at h; cases h
      | ok s1 r1 =>
        rw [e] at h
        have hv1 : ∀ t ∈ r1, validB t = true := fun u hu => hv u (((good_def s).ok e).mem hu)
        simp only [defM] at e
        split at e
        · exact v_parse n s1 (v_defH hs _ _ _ hv e) r1 x r hv1 h
        · cases e
theorem wf0 : src0.wf := ⟨few0, by simp, by simp, by simp, by simp, by simp, by simp⟩
theorem parse_wf {l r : List Tok} {x : Src} (hv : ∀ t ∈ l, validB t = true) (h : parseR l = .ok x r) : x.wf := v_parse _ _ wf0 _ _ _ hv h
end Go.Sx
/- Nil slices taken as empty ones, at any depth of data. Over any program; no condition. -/
namespace Go.Ab
open Go
mutual
def D.le : D → D → Prop
  | .nils, y => y = .nils ∨ ∃ sz, y = .list sz []
  | .agg xs, y => ∃ ys, y = .agg ys ∧ D.les xs ys
  | .list a xs, y => ∃ ys, y = .list a ys ∧ D.les xs ys
  | .int k n, y => y = .int k n
  | .bool b, y => y = .bool b
  | .str s, y => y = .str s
  | .nili, y => y = .nili
  | .nilp, y => y = .nilp
  | .nilf, y => y = .nilf
  | .nilm, y => y = .nilm
  | .ref x, y => y = .ref x
  | .iface t x, y => y = .iface t x
  | .fn f a b, y => y = .fn f a b
def D.les : List D → List D → Prop
  | [], l => l = []
  | x :: r, l => ∃ y s, l = y :: s ∧ D.le x y ∧ D.les r s
end
mutual
theorem D.le.same : ∀ {x y : D}, D.le x y → y.sz = x.sz ∧ y.isAgg = x.isAgg
  | .nils, y, h => by
    simp only [D.le] at h
    rcases h with rfl | ⟨_, rfl⟩ <;> exact ⟨by simp [D.sz], rfl⟩
  | .agg xs, y, h => by
    simp only [D.le] at h
    obtain ⟨ys, rfl, h⟩ := h
    exact ⟨by simp only [D.sz]; exact D.les.same h, rfl⟩
  | .list a xs, y, h => by
    simp only [D.le] at h
    obtain ⟨ys, rfl, h⟩ := h
    exact ⟨by simp only [D.sz], rfl⟩
  | .int .., y, h | .bool .., y, h | .str .., y, h | .nili, y, h | .nilp, y, h | .nilf, y, h | .nilm, y, h | .ref .., y, h | .iface .., y, h | .fn .., y, h => by
    simp only [D.le] at h; subst h; exact ⟨rfl, rfl⟩
theorem D.les.same : ∀ {xs ys : List D}, D.les xs ys → D.szs ys = D.szs xs
  | [], ys, h => by simp only [D.les] at h; subst h; rfl
  | x :: r, ys, h => by
    simp only [D.les] at h
    obtain ⟨y, s, rfl, h1, h2⟩ := h
    simp only [D.szs, h1.same.1, h2.same]
end
theorem D.les.length : ∀ {xs ys : List D}, D.les xs ys → ys.length = xs.length
  | [], ys, h => by simp only [D.les] at h; subst h; rfl
  | x :: r, ys, h => by
    simp only [D.les] at h
    obtain ⟨y, s, rfl, h1, h2⟩ := h
    simp [D.les.length h2]
theorem D.les.szAll : ∀ {xs ys : List D} {n : Nat}, D.les xs ys → (∀ x ∈ xs, x.sz = n) → ∀ y ∈ ys, y.sz = n
  | [], ys, n, h, _ => by simp only [D.les] at h; subst h; simp
  | x :: r, ys, n, h, hx => by
    simp only [D.les] at h
    obtain ⟨y, s, rfl, h1, h2⟩ := h
    intro z hz
    rcases List.mem_cons.1 hz with rfl | hz
    · rw [h1.same.1]; exact hx x (by simp)
    · exact D.les.szAll h2 (fun u hu => hx u (by simp [hu])) z hz
section
variable {w : World} {ow : Nat → Prop}
mutual
theorem D.le.rep : ∀ {x y : D} {cs : List Value}, D.le x y → x.rep w ow cs → y.rep w ow cs
  | .nils, y, cs, h, hr => by
    simp only [D.le] at h
    rcases h with rfl | ⟨sz, rfl⟩
    · exact hr
    · simp only [D.rep] at hr ⊢; exact .inl ⟨trivial, hr⟩
  | .agg xs, y, cs, h, hr => by
    simp only [D.le] at h
    obtain ⟨ys, rfl, h⟩ := h
    simp only [D.rep] at hr ⊢
    exact D.les.rep h hr
  | .list a xs, y, cs, h, hr => by
    simp only [D.le] at h
    obtain ⟨ys, rfl, h⟩ := h
    simp only [D.rep] at hr ⊢
    have hl := h.length
    rcases hr with ⟨rfl, hr⟩ | ⟨ad, cap, vs, h1, h2, h3, h4, h5⟩
    · refine .inl ⟨?_, hr⟩
      simpa using hl
    · exact .inr ⟨ad, cap, vs, by rw [hl]; exact h1, by rw [hl]; exact h2, h3, D.les.rep h h4, h.szAll h5⟩
  | .int .., y, cs, h, hr | .bool .., y, cs, h, hr | .str .., y, cs, h, hr | .nili, y, cs, h, hr | .nilp, y, cs, h, hr | .nilf, y, cs, h, hr | .nilm, y, cs, h, hr | .ref .., y, cs, h, hr | .iface .., y, cs, h, hr | .fn .., y, cs, h, hr => by
    simp only [D.le] at h; subst h; exact hr
theorem D.les.rep : ∀ {xs ys : List D} {cs : List Value}, D.les xs ys → D.repL w ow xs cs → D.repL w ow ys cs
  | [], ys, cs, h, hr => by simp only [D.les] at h; subst h; exact hr
  | x :: r, ys, cs, h, hr => by
    simp only [D.les] at h
    obtain ⟨y, s, rfl, h1, h2⟩ := h
    simp only [D.repL] at hr ⊢
    obtain ⟨c1, c2, e, r1, r2⟩ := hr
    exact ⟨c1, c2, e, D.le.rep h1 r1, D.les.rep h2 r2⟩
end
end
mutual
theorem D.le.refl : ∀ x : D, D.le x x
  | .nils => by simp [D.le]
  | .agg xs => by simp only [D.le]; exact ⟨_, rfl, D.les.refl xs⟩
  | .list a xs => by simp only [D.le]; exact ⟨_, rfl, D.les.refl xs⟩
  | .int .. | .bool .. | .str .. | .nili | .nilp | .nilf | .nilm | .ref .. | .iface .. | .fn .. => by simp only [D.le]
theorem D.les.refl : ∀ xs : List D, D.les xs xs
  | [] => by simp only [D.les]
  | x :: r => by simp only [D.les]; exact ⟨_, _, rfl, D.le.refl x, D.les.refl r⟩
end
theorem D.le.nil (sz : Nat) : D.le .nils (.list sz []) := by simp [D.le]
theorem D.le.agg {xs ys : List D} (h : D.les xs ys) : D.le (.agg xs) (.agg ys) := by simp only [D.le]; exact ⟨_, rfl, h⟩
theorem D.le.list {sz : Nat} {xs ys : List D} (h : D.les xs ys) : D.le (.list sz xs) (.list sz ys) := by simp only [D.le]; exact ⟨_, rfl, h⟩
theorem D.les.nil : D.les [] [] := by simp only [D.les]
theorem D.les.cons {x y : D} {r s : List D} (h : D.le x y) (h' : D.les r s) : D.les (x :: r) (y :: s) := by simp only [D.les]; exact ⟨_, _, rfl, h, h'⟩
theorem D.les.map {α : Type} {f g : α → D} : ∀ {l : List α}, (∀ x ∈ l, D.le (f x) (g x)) → D.les (l.map f) (l.map g)
  | [], _ => D.les.nil
  | x :: r, h => D.les.cons (h x (by simp)) (D.les.map fun y hy => h y (by simp [hy]))
theorem reps_le {w : World} {ρ : Env} : ∀ {xs ys : List D} {us : List Value}, D.les xs ys → V.reps w ρ (xs.map .d) us → V.reps w ρ (ys.map .d) us
  | [], ys, us, h, hr => by simp only [D.les] at h; subst h; exact hr
  | x :: r, ys, us, h, hr => by
    simp only [D.les] at h
    obtain ⟨y, s, rfl, h1, h2⟩ := h
    simp only [List.map_cons] at hr ⊢
    cases us with
    | nil => simp [V.reps] at hr
    | cons u us =>
      simp only [V.reps] at hr ⊢
      obtain ⟨u1, us1, e, hu, hus⟩ := hr
      cases e
      refine ⟨_, _, rfl, ?_, reps_le h2 hus⟩
      rcases rep_d.1 hu with ⟨p, ds, q, hd⟩ | ⟨p, hd⟩
      · exact rep_d.2 (.inl ⟨by rw [h1.same.2]; exact p, ds, q, h1.rep hd⟩)
      · exact rep_d.2 (.inr ⟨by rw [h1.same.2]; exact p, h1.rep hd⟩)
theorem PCall.le {P : Prg} {f : Nat} {ob : Objs} {xs ys : List D} {K : V → Prop} (h : D.les xs ys) (hc : PCall P f (ys.map .d) ob K) : PCall P f (xs.map .d) ob K :=
  ⟨fun w ρ args ho hg hr => hc.run w ρ args ho hg (reps_le h hr)⟩
end Go.Ab
/- Sources as they are held in memory, with all their numbers: plain structures and what they read as. No program. -/
namespace Go.Sx
open Go Go.Ab Go.Lx
structure RTerm where
  name : B
  path : B
  var : Int
  field : Int
  n : Int
structure RFrom where
  name : B
  kind : B
  schema : Int
  of_ : RTerm
structure RAtom where
  op : Int
  a : RTerm
  b : RTerm
structure RSet where
  path : B
  field : Int
  term : RTerm
structure RRule where
  head : B
  schema : Int
  froms : List RFrom
  wheres : List RAtom
  sets : List RSet
structure RMove where
  to_ : B
  from_ : B
  b : Int
  a : Int
  shift : Int
structure RConvert where
  from_ : B
  to_ : B
  a : Int
  b : Int
  moves : List RMove
structure RRef where
  name : B
  path : B
  schema : Int
  field : Int
structure RPurpose where
  name : B
  may : List RRef
  most : Int
structure RUnit where
  name : B
  of_ : B
  factor : Int
  base : Int
  scale : Int
structure RType where
  kind : Int
  lo : Int
  hi : Int
  of_ : B
  unit : Int
  names : List B
structure RField where
  name : B
  type : RType
  w0 : Int
  w1 : Int
  w2 : Int
  w3 : Int
structure RDepend where
  names : List B
  name : B
  from_ : List Int
  to_ : Int
structure RSchema where
  name : B
  by_ : B
  issuer : Int
  version : Int
  fields : List RField
  depends : List RDepend
structure RSrc where
  issuers : List B
  units : List RUnit
  schemas : List RSchema
  rules : List RRule
  converts : List RConvert
  purposes : List RPurpose
def intsD (l : List Int) : D := .list 1 (l.map iD)
def RTerm.enc (t : RTerm) : D := .agg [.str t.name, .str t.path, iD t.var, iD t.field, iD t.n]
def RFrom.enc (f : RFrom) : D := .agg [.str f.name, .str f.kind, iD f.schema, f.of_.enc]
def RAtom.enc (a : RAtom) : D := .agg [iD a.op, a.a.enc, a.b.enc]
def RSet.enc (s : RSet) : D := .agg [.str s.path, iD s.field, s.term.enc]
def RRule.enc (r : RRule) : D := .agg [.str r.head, iD r.schema, .list 8 (r.froms.map RFrom.enc), .list 11 (r.wheres.map RAtom.enc), .list 7 (r.sets.map RSet.enc)]
def RMove.enc (m : RMove) : D := .agg [.str m.to_, .str m.from_, iD m.b, iD m.a, iD m.shift]
def RConvert.enc (c : RConvert) : D := .agg [.str c.from_, .str c.to_, iD c.a, iD c.b, .list 5 (c.moves.map RMove.enc)]
def RRef.enc (r : RRef) : D := .agg [.str r.name, .str r.path, iD r.schema, iD r.field]
def RPurpose.enc (p : RPurpose) : D := .agg [.str p.name, .list 4 (p.may.map RRef.enc), iD p.most]
def RUnit.enc (u : RUnit) : D := .agg [.str u.name, .str u.of_, iD u.factor, iD u.base, iD u.scale]
def RType.enc (t : RType) : D := .agg [iD t.kind, iD t.lo, iD t.hi, .str t.of_, iD t.unit, strsD t.names]
def RField.enc (f : RField) : D := .agg [.str f.name, f.type.enc, .agg [iD f.w0, iD f.w1, iD f.w2, iD f.w3]]
def RDepend.enc (d : RDepend) : D := .agg [strsD d.names, .str d.name, intsD d.from_, iD d.to_]
def RSchema.enc (s : RSchema) : D := .agg [.str s.name, .str s.by_, iD s.issuer, iD s.version, .list 11 (s.fields.map RField.enc), .list 4 (s.depends.map RDepend.enc)]
def RSrc.enc (s : RSrc) : D := .agg [strsD s.issuers, .list 5 (s.units.map RUnit.enc), .list 6 (s.schemas.map RSchema.enc), .list 5 (s.rules.map RRule.enc), .list 5 (s.converts.map RConvert.enc), .list 3 (s.purposes.map RPurpose.enc)]

structure RRule.small (r : RRule) : Prop where
  froms : r.froms.length ≤ 1152921504606846976
  wheres : r.wheres.length ≤ 1152921504606846976
  sets : r.sets.length ≤ 1152921504606846976
structure RDepend.small (r : RDepend) : Prop where
  names : r.names.length ≤ 1152921504606846976
  from_ : r.from_.length ≤ 1152921504606846976
structure RSchema.small (r : RSchema) : Prop where
  fields : r.fields.length ≤ 1152921504606846976
  depends : r.depends.length ≤ 1152921504606846976
  names : ∀ f ∈ r.fields, f.type.names.length ≤ 1152921504606846976
  deps : ∀ d ∈ r.depends, d.small
structure RSrc.small (s : RSrc) : Prop where
  issuers : s.issuers.length ≤ 1152921504606846976
  units : s.units.length ≤ 1152921504606846976
  schemas : s.schemas.length ≤ 1152921504606846976
  rules : s.rules.length ≤ 1152921504606846976
  converts : s.converts.length ≤ 1152921504606846976
  purposes : s.purposes.length ≤ 1152921504606846976
  schema : ∀ x ∈ s.schemas, x.small
  rule : ∀ x ∈ s.rules, x.small
  moves : ∀ x ∈ s.converts, x.moves.length ≤ 1152921504606846976
  may : ∀ x ∈ s.purposes, x.may.length ≤ 1152921504606846976
def Term.raw : Term → RTerm
  | .num n => ⟨[], [], -1, 0, n⟩
  | .path a b => ⟨a, b, 0, 0, 0⟩
def From.raw (f : From) : RFrom := ⟨f.name, f.kind, 0, match f.of_ with | none => ⟨[], [], 0, 0, 0⟩ | some x => ⟨x.1, x.2, 0, 0, 0⟩⟩
def Atom.raw (a : Atom) : RAtom := ⟨a.op, a.a.raw, a.b.raw⟩
def SetT.raw (s : SetT) : RSet := ⟨s.path, 0, s.term.raw⟩
def Rule.raw (r : Rule) : RRule := ⟨r.head, 0, r.froms.map From.raw, r.wheres.map Atom.raw, r.sets.map SetT.raw⟩
def Move.raw (m : Move) : RMove := ⟨m.to_, m.from_, 0, 0, m.shift⟩
def Convert.raw (c : Convert) : RConvert := ⟨c.from_, c.to_, 0, 0, c.moves.map Move.raw⟩
def Ref.raw (r : Ref) : RRef := ⟨r.name, r.path, 0, 0⟩
def Purpose.raw (p : Purpose) : RPurpose := ⟨p.name, p.may.map Ref.raw, p.most⟩
def UnitT.raw (u : UnitT) : RUnit := match u.of_ with
  | none => ⟨u.name, [], 0, 0, 0⟩
  | some x => ⟨u.name, x.2, x.1, 0, 0⟩
def TypeT.raw : TypeT → RType
  | .num lo hi of_ => ⟨1, lo, hi, of_.getD [], 0, []⟩
  | .date => ⟨2, 0, 1023, [], 0, []⟩
  | .person => ⟨3, 0, 4095, [], 0, []⟩
  | .choice l => ⟨4, 0, l.length - 1, [], 0, l⟩
def Field.raw (f : Field) : RField := ⟨f.name, f.type.raw, f.weights.getD 0 0, f.weights.getD 1 0, f.weights.getD 2 0, f.weights.getD 3 0⟩
def Depend.raw (d : Depend) : RDepend := ⟨d.names, d.name, [], 0⟩
def Schema.raw (s : Schema) : RSchema := ⟨s.name, s.by_, 0, s.version, s.fields.map Field.raw, s.depends.map Depend.raw⟩
def Src.raw (s : Src) : RSrc := ⟨s.issuers, s.units.map UnitT.raw, s.schemas.map Schema.raw, s.rules.map Rule.raw, s.converts.map Convert.raw, s.purposes.map Purpose.raw⟩
theorem Term.raw_enc (t : Term) : t.raw.enc = t.enc := by cases t <;> rfl
theorem From.raw_enc (t : From) : t.raw.enc = t.enc := by obtain ⟨a, b, c⟩ := t; cases c <;> rfl
theorem Atom.raw_enc (t : Atom) : t.raw.enc = t.enc := by simp only [Atom.raw, RAtom.enc, Term.raw_enc, Atom.enc]
theorem SetT.raw_enc (t : SetT) : t.raw.enc = t.enc := by simp only [SetT.raw, RSet.enc, Term.raw_enc, SetT.enc]
theorem Move.raw_enc (t : Move) : t.raw.enc = t.enc := rfl
theorem Ref.raw_enc (t : Ref) : t.raw.enc = t.enc := rfl
theorem UnitT.raw_enc (t : UnitT) : t.raw.enc = t.enc := by obtain ⟨a, b⟩ := t; cases b <;> rfl
theorem mapEq {α β : Type} {f : α → β} {g : β → D} {h : α → D} (e : ∀ x, g (f x) = h x) (l : List α) : (l.map f).map g = l.map h := by
  rw [List.map_map]; exact List.map_congr_left fun x _ => e x
theorem Rule.raw_enc (t : Rule) : t.raw.enc = t.enc := by simp only [Rule.raw, RRule.enc, Rule.enc, mapEq From.raw_enc, mapEq Atom.raw_enc, mapEq SetT.raw_enc]
theorem Convert.raw_enc (t : Convert) : t.raw.enc = t.enc := by simp only [Convert.raw, RConvert.enc, Convert.enc, mapEq Move.raw_enc]
theorem Purpose.raw_enc (t : Purpose) : t.raw.enc = t.enc := by simp only [Purpose.raw, RPurpose.enc, Purpose.enc, mapEq Ref.raw_enc]
theorem TypeT.raw_le (t : TypeT) : D.le t.enc t.raw.enc := by
  have key : ∀ {a b c d e x y : D}, D.le x y → D.le (.agg [a, b, c, d, e, x]) (.agg [a, b, c, d, e, y]) := fun h => D.le.agg (.cons (D.le.refl _) (.cons (D.le.refl _) (.cons (D.le.refl _) (.cons (D.le.refl _) (.cons (D.le.refl _) (.cons h .nil))))))
  cases t with
  | choice l => exact D.le.refl _
  | _ => exact key (D.le.nil _)
theorem Field.raw_le {f : Field} (h : f.weights.length = 4) : D.le f.enc f.raw.enc := by
  obtain ⟨n, t, w⟩ := f
  match w, h with
  | [a, b, c, d], _ =>
    exact D.le.agg (.cons (D.le.refl _) (.cons (TypeT.raw_le t) (.cons (D.le.refl _) .nil)))
theorem Depend.raw_le (d : Depend) : D.le d.enc d.raw.enc := D.le.agg (.cons (D.le.refl _) (.cons (D.le.refl _) (.cons (D.le.nil _) (.cons (D.le.refl _) .nil))))
theorem les_map2 {α β : Type} {f : α → D} {g : β → D} {r : α → β} : ∀ {l : List α}, (∀ x ∈ l, D.le (f x) (g (r x))) → D.les (l.map f) ((l.map r).map g)
  | [], _ => D.les.nil
  | x :: q, h => D.les.cons (h x (by simp)) (les_map2 fun y hy => h y (by simp [hy]))
theorem Schema.raw_le {s : Schema} (h : ∀ f ∈ s.fields, f.weights.length = 4) : D.le s.enc s.raw.enc :=
  D.le.agg (.cons (D.le.refl _) (.cons (D.le.refl _) (.cons (D.le.refl _) (.cons (D.le.refl _) (.cons (D.le.list (les_map2 fun x hx => Field.raw_le (h x hx))) (.cons (D.le.list (les_map2 fun x _ => Depend.raw_le x)) .nil))))))
theorem Src.raw_le {s : Src} (h : ∀ x ∈ s.schemas, ∀ f ∈ x.fields, f.weights.length = 4) : D.le s.enc s.raw.enc := by
  have e : ∀ {α β : Type} {f : α → D} {g : β → D} {r : α → β} {l : List α}, (∀ x, g (r x) = f x) → D.les (l.map f) ((l.map r).map g) := fun hh => les_map2 fun x _ => by rw [hh]; exact D.le.refl _
  exact D.le.agg (.cons (D.le.refl _) (.cons (D.le.list (e UnitT.raw_enc)) (.cons (D.le.list (les_map2 fun x hx => Schema.raw_le (h x hx))) (.cons (D.le.list (e Rule.raw_enc)) (.cons (D.le.list (e Convert.raw_enc)) (.cons (D.le.list (e Purpose.raw_enc)) .nil))))))
end Go.Sx
/- The abstract statements that stand for the code of these functions, written by a program from the translation; that they do is checked by the kernel. No condition. -/
namespace Go.Proofs.YtanpgmgkmfckaaaGreatDoor
open Go Go.Ab
set_option maxRecDepth 100000
def ir29_l0 : S := .seq (.seq (.rg [] [.op (some 104) (.c (.mv (.t 6))),
   .op (some 105) (.c (.fldA 5 5 (.t 2))),
   .op (some 106) (.c (.ld 1 false (.t 105))),
   .op (some 107) (.c (.lenL (.t 106))),
   .op (some 108) (.c (.bin .lss (.t 104) (.t 107)))] [2, 3, 6, 108] [])
 (.cond (.t 108) (.skip) (.exit 2)))
 (.seq (.block 3 (.seq (.rg [] [.op (some 111) (.c (.fldA 5 5 (.t 2))),
   .op (some 112) (.c (.ld 1 false (.t 111))),
   .op (some 113) (.c (.mv (.t 6))),
   .op (some 114) (.c (.idxA 4 (.t 112) (.t 113))),
   .op (some 115) (.c (.ld 4 true (.t 114))),
   .op (some 7) (.alloc 96 (.agg [.nils, .str [], .nils, .int .i64 0])),
   .op none (.st 4 (.t 7) (.t 115))] [2, 3, 6, 7] [])
 (.seq (.rg [] [.op (some 116) (.c (.fldA 5 5 (.t 3))),
   .op (some 117) (.c (.ld 1 false (.t 116))),
   .op (some 118) (.c (.mv (.t 6))),
   .op (some 119) (.c (.idxA 4 (.t 117) (.t 118))),
   .op (some 120) (.c (.ld 4 true (.t 119))),
   .op (some 8) (.alloc 96 (.agg [.nils, .str [], .nils, .int .i64 0])),
   .op none (.st 4 (.t 8) (.t 120))] [2, 3, 6, 7, 8] [])
 (.seq (.rg [] [.op (some 121) (.c (.fldA 1 1 (.t 7))),
   .op (some 122) (.c (.ld 1 false (.t 121))),
   .op (some 123) (.c (.fldA 1 1 (.t 8))),
   .op (some 124) (.c (.ld 1 false (.t 123))),
   .op (some 125) (.c (.bin .neq (.t 122) (.t 124))),
   .op (some 126) (.c (.mv (.t 125))),
   .gop 126 false (some 127) (.c (.fldA 3 3 (.t 7))),
   .gop 126 false (some 128) (.c (.ld 1 false (.t 127))),
   .gop 126 false (some 129) (.c (.fldA 3 3 (.t 8))),
   .gop 126 false (some 130) (.c (.ld 1 false (.t 129))),
   .gop 126 false (some 131) (.c (.bin .neq (.t 128) (.t 130))),
   .op (some 132) (.c (.pick (.t 126) (.bool true) (.t 131))),
   .op (some 133) (.c (.mv (.t 132))),
   .gop 133 false (some 134) (.c (.fldA 0 0 (.t 7))),
   .gop 133 false (some 135) (.c (.ld 1 false (.t 134))),
   .gop 133 false (some 136) (.c (.fldA 0 0 (.t 8))),
   .gop 133 false (some 137) (.c (.ld 1 false (.t 136))),
   .gop 133 false (some 138) (.pcall 28 [(.t 135), (.t 137)]),
   .gop 133 false (some 139) (.c (.not (.t 138))),
   .op (some 140) (.c (.pick (.t 133) (.bool true) (.t 139))),
   .op (some 141) (.c (.mv (.t 140))),
   .gop 141 false (some 142) (.c (.fldA 2 2 (.t 7))),
   .gop 141 false (some 143) (.c (.ld 1 false (.t 142))),
   .gop 141 false (some 144) (.c (.fldA 2 2 (.t 8))),
   .gop 141 false (some 145) (.c (.ld 1 false (.t 144))),
   .gop 141 false (some 146) (.pcall 98 [(.t 143), (.t 145)]),
   .gop 141 false (some 147) (.c (.not (.t 146))),
   .op (some 148) (.c (.pick (.t 141) (.bool true) (.t 147)))] [2, 3, 6, 148] [])
 (.cond (.t 148) (.seq (.rg [] [.op (some 4) (.c (.mv (.bool false)))] [4] [])
 (.ret)) (.skip))))))
 (.rg [] [.op (some 109) (.c (.mv (.t 6))),
   .op (some 110) (.c (.bin .add (.t 109) (.int .i64 1))),
   .op (some 6) (.c (.mv (.t 110)))] [2, 3, 6] []))
def ir29_l1 : S := .seq (.seq (.rg [] [.op (some 53) (.c (.mv (.t 5))),
   .op (some 54) (.c (.fldA 4 4 (.t 2))),
   .op (some 55) (.c (.ld 1 false (.t 54))),
   .op (some 56) (.c (.lenL (.t 55))),
   .op (some 57) (.c (.bin .lss (.t 53) (.t 56)))] [2, 3, 5, 57] [])
 (.cond (.t 57) (.skip) (.exit 0)))
 (.seq (.block 1 (.seq (.rg [0, 2, 6, 8, 1, 3, 4, 5, 7, 9, 10, 11, 12, 13, 14, 16, 20, 22, 15, 17, 18, 19, 21, 23, 24, 25, 26, 27, 28, 29, 31, 35, 37, 30, 32, 33, 34, 36, 38, 39, 40, 41, 42, 43] [.op (some 60) (.c (.fldA 4 4 (.t 2))),
   .op (some 62) (.c (.mv (.t 5))),
   .op (some 66) (.c (.fldA 4 4 (.t 3))),
   .op (some 68) (.c (.mv (.t 5))),
   .op (some 61) (.c (.ld 1 false (.t 60))),
   .op (some 63) (.c (.idxA 11 (.t 61) (.t 62))),
   .op (some 64) (.c (.fldA 0 0 (.t 63))),
   .op (some 65) (.c (.ld 1 false (.t 64))),
   .op (some 67) (.c (.ld 1 false (.t 66))),
   .op (some 69) (.c (.idxA 11 (.t 67) (.t 68))),
   .op (some 70) (.c (.fldA 0 0 (.t 69))),
   .op (some 71) (.c (.ld 1 false (.t 70))),
   .op (some 72) (.c (.bin .neq (.t 65) (.t 71))),
   .op (some 73) (.c (.mv (.t 72))),
   .gop 73 false (some 74) (.c (.fldA 4 4 (.t 2))),
   .gop 73 false (some 76) (.c (.mv (.t 5))),
   .gop 73 false (some 80) (.c (.fldA 4 4 (.t 3))),
   .gop 73 false (some 82) (.c (.mv (.t 5))),
   .gop 73 false (some 75) (.c (.ld 1 false (.t 74))),
   .gop 73 false (some 77) (.c (.idxA 11 (.t 75) (.t 76))),
   .gop 73 false (some 78) (.c (.fldA 2 7 (.t 77))),
   .gop 73 false (some 79) (.c (.ld 4 true (.t 78))),
   .gop 73 false (some 81) (.c (.ld 1 false (.t 80))),
   .gop 73 false (some 83) (.c (.idxA 11 (.t 81) (.t 82))),
   .gop 73 false (some 84) (.c (.fldA 2 7 (.t 83))),
   .gop 73 false (some 85) (.c (.ld 4 true (.t 84))),
   .gop 73 false (some 86) (.c (.eqD (.ar 4 (.int .i64)) false (.t 79) (.t 85))),
   .op (some 87) (.c (.pick (.t 73) (.bool true) (.t 86))),
   .op (some 88) (.c (.mv (.t 87))),
   .gop 88 false (some 89) (.c (.fldA 4 4 (.t 2))),
   .gop 88 false (some 91) (.c (.mv (.t 5))),
   .gop 88 false (some 95) (.c (.fldA 4 4 (.t 3))),
   .gop 88 false (some 97) (.c (.mv (.t 5))),
   .gop 88 false (some 90) (.c (.ld 1 false (.t 89))),
   .gop 88 false (some 92) (.c (.idxA 11 (.t 90) (.t 91))),
   .gop 88 false (some 93) (.c (.fldA 1 1 (.t 92))),
   .gop 88 false (some 94) (.c (.ld 6 true (.t 93))),
   .gop 88 false (some 96) (.c (.ld 1 false (.t 95))),
   .gop 88 false (some 98) (.c (.idxA 11 (.t 96) (.t 97))),
   .gop 88 false (some 99) (.c (.fldA 1 1 (.t 98))),
   .gop 88 false (some 100) (.c (.ld 6 true (.t 99))),
   .gop 88 false (some 101) (.pcall 97 [(.t 94), (.t 100)]),
   .gop 88 false (some 102) (.c (.not (.t 101))),
   .op (some 103) (.c (.pick (.t 88) (.bool true) (.t 102)))] [2, 3, 5, 103] [])
 (.cond (.t 103) (.seq (.rg [] [.op (some 4) (.c (.mv (.bool false)))] [4] [])
 (.ret)) (.skip))))
 (.rg [] [.op (some 58) (.c (.mv (.t 5))),
   .op (some 59) (.c (.bin .add (.t 58) (.int .i64 1))),
   .op (some 5) (.c (.mv (.t 59)))] [2, 3, 5] []))
def ir29 : S := .seq (.rg [] [.op (some 2) (.box 79 (.t 0)),
   .op (some 3) (.box 79 (.t 1)),
   .op (some 4) (.c (.mv (.bool false)))] [2, 3] [])
 (.seq (.seq (.rg [] [.op (some 9) (.c (.fldA 0 0 (.t 2))),
   .op (some 10) (.c (.ld 1 false (.t 9))),
   .op (some 11) (.c (.fldA 0 0 (.t 3))),
   .op (some 12) (.c (.ld 1 false (.t 11))),
   .op (some 13) (.c (.bin .neq (.t 10) (.t 12))),
   .op (some 14) (.c (.mv (.t 13))),
   .gop 14 false (some 15) (.c (.fldA 1 1 (.t 2))),
   .gop 14 false (some 16) (.c (.ld 1 false (.t 15))),
   .gop 14 false (some 17) (.c (.fldA 1 1 (.t 3))),
   .gop 14 false (some 18) (.c (.ld 1 false (.t 17))),
   .gop 14 false (some 19) (.c (.bin .neq (.t 16) (.t 18))),
   .op (some 20) (.c (.pick (.t 14) (.bool true) (.t 19))),
   .op (some 21) (.c (.mv (.t 20))),
   .gop 21 false (some 22) (.c (.fldA 2 2 (.t 2))),
   .gop 21 false (some 23) (.c (.ld 1 false (.t 22))),
   .gop 21 false (some 24) (.c (.fldA 2 2 (.t 3))),
   .gop 21 false (some 25) (.c (.ld 1 false (.t 24))),
   .gop 21 false (some 26) (.c (.bin .neq (.t 23) (.t 25))),
   .op (some 27) (.c (.pick (.t 21) (.bool true) (.t 26))),
   .op (some 28) (.c (.mv (.t 27))),
   .gop 28 false (some 29) (.c (.fldA 3 3 (.t 2))),
   .gop 28 false (some 30) (.c (.ld 1 false (.t 29))),
   .gop 28 false (some 31) (.c (.fldA 3 3 (.t 3))),
   .gop 28 false (some 32) (.c (.ld 1 false (.t 31))),
   .gop 28 false (some 33) (.c (.bin .neq (.t 30) (.t 32))),
   .op (some 34) (.c (.pick (.t 28) (.bool true) (.t 33))),
   .op (some 35) (.c (.mv (.t 34))),
   .gop 35 false (some 36) (.c (.fldA 4 4 (.t 2))),
   .gop 35 false (some 37) (.c (.ld 1 false (.t 36))),
   .gop 35 false (some 38) (.c (.lenL (.t 37))),
   .gop 35 false (some 39) (.c (.fldA 4 4 (.t 3))),
   .gop 35 false (some 40) (.c (.ld 1 false (.t 39))),
   .gop 35 false (some 41) (.c (.lenL (.t 40))),
   .gop 35 false (some 42) (.c (.bin .neq (.t 38) (.t 41))),
   .op (some 43) (.c (.pick (.t 35) (.bool true) (.t 42))),
   .op (some 44) (.c (.mv (.t 43))),
   .gop 44 false (some 45) (.c (.fldA 5 5 (.t 2))),
   .gop 44 false (some 46) (.c (.ld 1 false (.t 45))),
   .gop 44 false (some 47) (.c (.lenL (.t 46))),
   .gop 44 false (some 48) (.c (.fldA 5 5 (.t 3))),
   .gop 44 false (some 49) (.c (.ld 1 false (.t 48))),
   .gop 44 false (some 50) (.c (.lenL (.t 49))),
   .gop 44 false (some 51) (.c (.bin .neq (.t 47) (.t 50))),
   .op (some 52) (.c (.pick (.t 44) (.bool true) (.t 51)))] [2, 3, 52] [])
 (.cond (.t 52) (.seq (.rg [] [.op (some 4) (.c (.mv (.bool false)))] [4] [])
 (.ret)) (.skip)))
 (.seq (.seq (.rg [] [.op (some 5) (.c (.mv (.int .i64 0)))] [2, 3, 5] [])
 (.block 0 (.loop [2, 3, 5] ir29_l1)))
 (.seq (.seq (.rg [] [.op (some 6) (.c (.mv (.int .i64 0)))] [2, 3, 6] [])
 (.block 2 (.loop [2, 3, 6] ir29_l0)))
 (.seq (.rg [] [.op (some 4) (.c (.mv (.bool true)))] [4] [])
 (.ret)))))
theorem ok29 : fnOk Tryz.prog 29 2 ir29 [.t 4] = true := by kernel_rfl
def ir31_l0 : S := .seq (.seq (.rg [] [.op (some 41) (.c (.mv (.t 5))),
   .op (some 42) (.c (.fldA 4 4 (.t 2))),
   .op (some 43) (.c (.ld 1 false (.t 42))),
   .op (some 44) (.c (.lenL (.t 43))),
   .op (some 45) (.c (.bin .lss (.t 41) (.t 44)))] [2, 3, 5, 45] [])
 (.cond (.t 45) (.skip) (.exit 0)))
 (.seq (.block 1 (.seq (.rg [0, 2, 5, 7, 1, 3, 4, 6, 8, 9, 10] [.op (some 48) (.c (.fldA 4 4 (.t 2))),
   .op (some 50) (.c (.mv (.t 5))),
   .op (some 53) (.c (.fldA 4 4 (.t 3))),
   .op (some 55) (.c (.mv (.t 5))),
   .op (some 49) (.c (.ld 1 false (.t 48))),
   .op (some 51) (.c (.idxA 5 (.t 49) (.t 50))),
   .op (some 52) (.c (.ld 5 true (.t 51))),
   .op (some 54) (.c (.ld 1 false (.t 53))),
   .op (some 56) (.c (.idxA 5 (.t 54) (.t 55))),
   .op (some 57) (.c (.ld 5 true (.t 56))),
   .op (some 58) (.c (.eqD (.st [.str, .str, .int .i64, .int .i64, .int .i64]) false (.t 52) (.t 57)))] [2, 3, 5, 58] [])
 (.cond (.t 58) (.seq (.rg [] [.op (some 4) (.c (.mv (.bool false)))] [4] [])
 (.ret)) (.skip))))
 (.rg [] [.op (some 46) (.c (.mv (.t 5))),
   .op (some 47) (.c (.bin .add (.t 46) (.int .i64 1))),
   .op (some 5) (.c (.mv (.t 47)))] [2, 3, 5] []))
def ir31 : S := .seq (.rg [] [.op (some 2) (.box 84 (.t 0)),
   .op (some 3) (.box 84 (.t 1)),
   .op (some 4) (.c (.mv (.bool false)))] [2, 3] [])
 (.seq (.seq (.rg [] [.op (some 6) (.c (.fldA 0 0 (.t 2))),
   .op (some 7) (.c (.ld 1 false (.t 6))),
   .op (some 8) (.c (.fldA 0 0 (.t 3))),
   .op (some 9) (.c (.ld 1 false (.t 8))),
   .op (some 10) (.c (.bin .neq (.t 7) (.t 9))),
   .op (some 11) (.c (.mv (.t 10))),
   .gop 11 false (some 12) (.c (.fldA 1 1 (.t 2))),
   .gop 11 false (some 13) (.c (.ld 1 false (.t 12))),
   .gop 11 false (some 14) (.c (.fldA 1 1 (.t 3))),
   .gop 11 false (some 15) (.c (.ld 1 false (.t 14))),
   .gop 11 false (some 16) (.c (.bin .neq (.t 13) (.t 15))),
   .op (some 17) (.c (.pick (.t 11) (.bool true) (.t 16))),
   .op (some 18) (.c (.mv (.t 17))),
   .gop 18 false (some 19) (.c (.fldA 2 2 (.t 2))),
   .gop 18 false (some 20) (.c (.ld 1 false (.t 19))),
   .gop 18 false (some 21) (.c (.fldA 2 2 (.t 3))),
   .gop 18 false (some 22) (.c (.ld 1 false (.t 21))),
   .gop 18 false (some 23) (.c (.bin .neq (.t 20) (.t 22))),
   .op (some 24) (.c (.pick (.t 18) (.bool true) (.t 23))),
   .op (some 25) (.c (.mv (.t 24))),
   .gop 25 false (some 26) (.c (.fldA 3 3 (.t 2))),
   .gop 25 false (some 27) (.c (.ld 1 false (.t 26))),
   .gop 25 false (some 28) (.c (.fldA 3 3 (.t 3))),
   .gop 25 false (some 29) (.c (.ld 1 false (.t 28))),
   .gop 25 false (some 30) (.c (.bin .neq (.t 27) (.t 29))),
   .op (some 31) (.c (.pick (.t 25) (.bool true) (.t 30))),
   .op (some 32) (.c (.mv (.t 31))),
   .gop 32 false (some 33) (.c (.fldA 4 4 (.t 2))),
   .gop 32 false (some 34) (.c (.ld 1 false (.t 33))),
   .gop 32 false (some 35) (.c (.lenL (.t 34))),
   .gop 32 false (some 36) (.c (.fldA 4 4 (.t 3))),
   .gop 32 false (some 37) (.c (.ld 1 false (.t 36))),
   .gop 32 false (some 38) (.c (.lenL (.t 37))),
   .gop 32 false (some 39) (.c (.bin .neq (.t 35) (.t 38))),
   .op (some 40) (.c (.pick (.t 32) (.bool true) (.t 39)))] [2, 3, 40] [])
 (.cond (.t 40) (.seq (.rg [] [.op (some 4) (.c (.mv (.bool false)))] [4] [])
 (.ret)) (.skip)))
 (.seq (.seq (.rg [] [.op (some 5) (.c (.mv (.int .i64 0)))] [2, 3, 5] [])
 (.block 0 (.loop [2, 3, 5] ir31_l0)))
 (.seq (.rg [] [.op (some 4) (.c (.mv (.bool true)))] [4] [])
 (.ret))))
theorem ok31 : fnOk Tryz.prog 31 2 ir31 [.t 4] = true := by kernel_rfl
def ir32_l0 : S := .seq (.seq (.rg [] [.op (some 27) (.c (.mv (.t 5))),
   .op (some 28) (.c (.fldA 1 1 (.t 2))),
   .op (some 29) (.c (.ld 1 false (.t 28))),
   .op (some 30) (.c (.lenL (.t 29))),
   .op (some 31) (.c (.bin .lss (.t 27) (.t 30)))] [2, 3, 5, 31] [])
 (.cond (.t 31) (.skip) (.exit 0)))
 (.seq (.block 1 (.seq (.rg [0, 2, 5, 7, 1, 3, 4, 6, 8, 9, 10] [.op (some 34) (.c (.fldA 1 1 (.t 2))),
   .op (some 36) (.c (.mv (.t 5))),
   .op (some 39) (.c (.fldA 1 1 (.t 3))),
   .op (some 41) (.c (.mv (.t 5))),
   .op (some 35) (.c (.ld 1 false (.t 34))),
   .op (some 37) (.c (.idxA 4 (.t 35) (.t 36))),
   .op (some 38) (.c (.ld 4 true (.t 37))),
   .op (some 40) (.c (.ld 1 false (.t 39))),
   .op (some 42) (.c (.idxA 4 (.t 40) (.t 41))),
   .op (some 43) (.c (.ld 4 true (.t 42))),
   .op (some 44) (.c (.eqD (.st [.str, .str, .int .i64, .int .i64]) false (.t 38) (.t 43)))] [2, 3, 5, 44] [])
 (.cond (.t 44) (.seq (.rg [] [.op (some 4) (.c (.mv (.bool false)))] [4] [])
 (.ret)) (.skip))))
 (.rg [] [.op (some 32) (.c (.mv (.t 5))),
   .op (some 33) (.c (.bin .add (.t 32) (.int .i64 1))),
   .op (some 5) (.c (.mv (.t 33)))] [2, 3, 5] []))
def ir32 : S := .seq (.rg [] [.op (some 2) (.box 88 (.t 0)),
   .op (some 3) (.box 88 (.t 1)),
   .op (some 4) (.c (.mv (.bool false)))] [2, 3] [])
 (.seq (.seq (.rg [] [.op (some 6) (.c (.fldA 0 0 (.t 2))),
   .op (some 7) (.c (.ld 1 false (.t 6))),
   .op (some 8) (.c (.fldA 0 0 (.t 3))),
   .op (some 9) (.c (.ld 1 false (.t 8))),
   .op (some 10) (.c (.bin .neq (.t 7) (.t 9))),
   .op (some 11) (.c (.mv (.t 10))),
   .gop 11 false (some 12) (.c (.fldA 2 2 (.t 2))),
   .gop 11 false (some 13) (.c (.ld 1 false (.t 12))),
   .gop 11 false (some 14) (.c (.fldA 2 2 (.t 3))),
   .gop 11 false (some 15) (.c (.ld 1 false (.t 14))),
   .gop 11 false (some 16) (.c (.bin .neq (.t 13) (.t 15))),
   .op (some 17) (.c (.pick (.t 11) (.bool true) (.t 16))),
   .op (some 18) (.c (.mv (.t 17))),
   .gop 18 false (some 19) (.c (.fldA 1 1 (.t 2))),
   .gop 18 false (some 20) (.c (.ld 1 false (.t 19))),
   .gop 18 false (some 21) (.c (.lenL (.t 20))),
   .gop 18 false (some 22) (.c (.fldA 1 1 (.t 3))),
   .gop 18 false (some 23) (.c (.ld 1 false (.t 22))),
   .gop 18 false (some 24) (.c (.lenL (.t 23))),
   .gop 18 false (some 25) (.c (.bin .neq (.t 21) (.t 24))),
   .op (some 26) (.c (.pick (.t 18) (.bool true) (.t 25)))] [2, 3, 26] [])
 (.cond (.t 26) (.seq (.rg [] [.op (some 4) (.c (.mv (.bool false)))] [4] [])
 (.ret)) (.skip)))
 (.seq (.seq (.rg [] [.op (some 5) (.c (.mv (.int .i64 0)))] [2, 3, 5] [])
 (.block 0 (.loop [2, 3, 5] ir32_l0)))
 (.seq (.rg [] [.op (some 4) (.c (.mv (.bool true)))] [4] [])
 (.ret))))
theorem ok32 : fnOk Tryz.prog 32 2 ir32 [.t 4] = true := by kernel_rfl
def ir97 : S := .seq (.rg [] [.op (some 2) (.box 90 (.t 0)),
   .op (some 3) (.box 90 (.t 1)),
   .op (some 4) (.c (.mv (.bool false)))] [2, 3] [])
 (.seq (.rg [] [.op (some 5) (.c (.fldA 0 0 (.t 2))),
   .op (some 6) (.c (.ld 1 false (.t 5))),
   .op (some 7) (.c (.fldA 0 0 (.t 3))),
   .op (some 8) (.c (.ld 1 false (.t 7))),
   .op (some 9) (.c (.bin .eql (.t 6) (.t 8))),
   .op (some 10) (.c (.mv (.t 9))),
   .gop 10 true (some 11) (.c (.fldA 1 1 (.t 2))),
   .gop 10 true (some 12) (.c (.ld 1 false (.t 11))),
   .gop 10 true (some 13) (.c (.fldA 1 1 (.t 3))),
   .gop 10 true (some 14) (.c (.ld 1 false (.t 13))),
   .gop 10 true (some 15) (.c (.bin .eql (.t 12) (.t 14))),
   .op (some 16) (.c (.pick (.t 10) (.t 15) (.bool false))),
   .op (some 17) (.c (.mv (.t 16))),
   .gop 17 true (some 18) (.c (.fldA 2 2 (.t 2))),
   .gop 17 true (some 19) (.c (.ld 1 false (.t 18))),
   .gop 17 true (some 20) (.c (.fldA 2 2 (.t 3))),
   .gop 17 true (some 21) (.c (.ld 1 false (.t 20))),
   .gop 17 true (some 22) (.c (.bin .eql (.t 19) (.t 21))),
   .op (some 23) (.c (.pick (.t 17) (.t 22) (.bool false))),
   .op (some 24) (.c (.mv (.t 23))),
   .gop 24 true (some 25) (.c (.fldA 3 3 (.t 2))),
   .gop 24 true (some 26) (.c (.ld 1 false (.t 25))),
   .gop 24 true (some 27) (.c (.fldA 3 3 (.t 3))),
   .gop 24 true (some 28) (.c (.ld 1 false (.t 27))),
   .gop 24 true (some 29) (.c (.bin .eql (.t 26) (.t 28))),
   .op (some 30) (.c (.pick (.t 24) (.t 29) (.bool false))),
   .op (some 31) (.c (.mv (.t 30))),
   .gop 31 true (some 32) (.c (.fldA 4 4 (.t 2))),
   .gop 31 true (some 33) (.c (.ld 1 false (.t 32))),
   .gop 31 true (some 34) (.c (.fldA 4 4 (.t 3))),
   .gop 31 true (some 35) (.c (.ld 1 false (.t 34))),
   .gop 31 true (some 36) (.c (.bin .eql (.t 33) (.t 35))),
   .op (some 37) (.c (.pick (.t 31) (.t 36) (.bool false))),
   .op (some 38) (.c (.mv (.t 37))),
   .gop 38 true (some 39) (.c (.fldA 5 5 (.t 2))),
   .gop 38 true (some 40) (.c (.ld 1 false (.t 39))),
   .gop 38 true (some 41) (.c (.fldA 5 5 (.t 3))),
   .gop 38 true (some 42) (.c (.ld 1 false (.t 41))),
   .gop 38 true (some 43) (.pcall 28 [(.t 40), (.t 42)]),
   .op (some 44) (.c (.pick (.t 38) (.t 43) (.bool false))),
   .op (some 4) (.c (.mv (.t 44)))] [4] [])
 (.ret))
theorem ok97 : fnOk Tryz.prog 97 2 ir97 [.t 4] = true := by kernel_rfl
def ir98_l0 : S := .seq (.seq (.rg [] [.op (some 11) (.c (.mv (.t 5))),
   .op (some 12) (.c (.mv (.t 0))),
   .op (some 13) (.c (.lenL (.t 12))),
   .op (some 14) (.c (.bin .lss (.t 11) (.t 13)))] [0, 1, 5, 14] [])
 (.cond (.t 14) (.skip) (.exit 0)))
 (.seq (.block 1 (.seq (.rg [0, 1, 2, 4, 5, 6, 3, 7, 8] [.op (some 17) (.c (.mv (.t 0))),
   .op (some 18) (.c (.mv (.t 5))),
   .op (some 19) (.c (.idxA 1 (.t 17) (.t 18))),
   .op (some 21) (.c (.mv (.t 1))),
   .op (some 22) (.c (.mv (.t 5))),
   .op (some 23) (.c (.idxA 1 (.t 21) (.t 22))),
   .op (some 20) (.c (.ld 1 false (.t 19))),
   .op (some 24) (.c (.ld 1 false (.t 23))),
   .op (some 25) (.c (.bin .neq (.t 20) (.t 24)))] [0, 1, 5, 25] [])
 (.cond (.t 25) (.seq (.rg [] [.op (some 4) (.c (.mv (.bool false)))] [4] [])
 (.ret)) (.skip))))
 (.rg [] [.op (some 15) (.c (.mv (.t 5))),
   .op (some 16) (.c (.bin .add (.t 15) (.int .i64 1))),
   .op (some 5) (.c (.mv (.t 16)))] [0, 1, 5] []))
def ir98 : S := .seq (.rg [] [.op (some 4) (.c (.mv (.bool false)))] [0, 1] [])
 (.seq (.seq (.rg [] [.op (some 6) (.c (.mv (.t 0))),
   .op (some 7) (.c (.lenL (.t 6))),
   .op (some 8) (.c (.mv (.t 1))),
   .op (some 9) (.c (.lenL (.t 8))),
   .op (some 10) (.c (.bin .neq (.t 7) (.t 9)))] [0, 1, 10] [])
 (.cond (.t 10) (.seq (.rg [] [.op (some 4) (.c (.mv (.bool false)))] [4] [])
 (.ret)) (.skip)))
 (.seq (.seq (.rg [] [.op (some 5) (.c (.mv (.int .i64 0)))] [0, 1, 5] [])
 (.block 0 (.loop [0, 1, 5] ir98_l0)))
 (.seq (.rg [] [.op (some 4) (.c (.mv (.bool true)))] [4] [])
 (.ret))))
theorem ok98 : fnOk Tryz.prog 98 2 ir98 [.t 4] = true := by kernel_rfl
end Go.Proofs.YtanpgmgkmfckaaaGreatDoor
/- The same statements with their regions folded into expressions, printed by the fold itself; that they are that is checked by the kernel. No condition. -/
namespace Go.Proofs.YtanpgmgkmfckaaaGreatDoor
open Go Go.Ab
set_option maxRecDepth 100000
def lt11_l0 : S2 := .seq (.seq (.rg [] [(2, (.a (.t 2))), (3, (.a (.t 3))), (9, (.a (.t 9))), (140, (.b (.bin .lss (.t 0) (.t 1)) (.a (.t 9)) (.u (.lenL (.t 0)) (.u (.ld 1 false (.t 0)) (.u (.fldA 5 5 (.t 0)) (.a (.t 2)))))))] [])
 (.cond (.t 140) (.skip) (.exit 8)))
 (.seq (.block 9 (.seq (.rg [.chk [] (.u (.ld 3 true (.t 0)) (.b (.idxA 3 (.t 0) (.t 1)) (.u (.ld 1 false (.t 0)) (.u (.fldA 5 5 (.t 0)) (.a (.t 3)))) (.a (.t 9)))), .chk [] (.u (.ld 3 true (.t 0)) (.b (.idxA 3 (.t 0) (.t 1)) (.u (.ld 1 false (.t 0)) (.u (.fldA 5 5 (.t 0)) (.a (.t 2)))) (.a (.t 9)))), .lt 152 [] (.u (.ld 3 true (.t 0)) (.b (.idxA 3 (.t 0) (.t 1)) (.u (.ld 1 false (.t 0)) (.u (.fldA 5 5 (.t 0)) (.a (.t 3)))) (.a (.t 9)))), .lt 147 [] (.u (.ld 3 true (.t 0)) (.b (.idxA 3 (.t 0) (.t 1)) (.u (.ld 1 false (.t 0)) (.u (.fldA 5 5 (.t 0)) (.a (.t 2)))) (.a (.t 9)))), .op (some 153) (.pcall 32 [(.t 147), (.t 152)])] [(2, (.a (.t 2))), (3, (.a (.t 3))), (9, (.a (.t 9))), (154, (.u (.not (.t 0)) (.a (.t 153))))] [])
 (.cond (.t 154) (.seq (.rg [] [(4, (.a (.bool false)))] [])
 (.ret)) (.skip))))
 (.rg [] [(2, (.a (.t 2))), (3, (.a (.t 3))), (9, (.b (.bin .add (.t 0) (.t 1)) (.a (.t 9)) (.a (.int .i64 1))))] []))
def lt11_l1 : S2 := .seq (.seq (.rg [] [(2, (.a (.t 2))), (3, (.a (.t 3))), (8, (.a (.t 8))), (121, (.b (.bin .lss (.t 0) (.t 1)) (.a (.t 8)) (.u (.lenL (.t 0)) (.u (.ld 1 false (.t 0)) (.u (.fldA 4 4 (.t 0)) (.a (.t 2)))))))] [])
 (.cond (.t 121) (.skip) (.exit 6)))
 (.seq (.block 7 (.seq (.rg [.chk [] (.u (.ld 5 true (.t 0)) (.b (.idxA 5 (.t 0) (.t 1)) (.u (.ld 1 false (.t 0)) (.u (.fldA 4 4 (.t 0)) (.a (.t 3)))) (.a (.t 8)))), .chk [] (.u (.ld 5 true (.t 0)) (.b (.idxA 5 (.t 0) (.t 1)) (.u (.ld 1 false (.t 0)) (.u (.fldA 4 4 (.t 0)) (.a (.t 2)))) (.a (.t 8)))), .lt 133 [] (.u (.ld 5 true (.t 0)) (.b (.idxA 5 (.t 0) (.t 1)) (.u (.ld 1 false (.t 0)) (.u (.fldA 4 4 (.t 0)) (.a (.t 3)))) (.a (.t 8)))), .lt 128 [] (.u (.ld 5 true (.t 0)) (.b (.idxA 5 (.t 0) (.t 1)) (.u (.ld 1 false (.t 0)) (.u (.fldA 4 4 (.t 0)) (.a (.t 2)))) (.a (.t 8)))), .op (some 134) (.pcall 31 [(.t 128), (.t 133)])] [(2, (.a (.t 2))), (3, (.a (.t 3))), (8, (.a (.t 8))), (135, (.u (.not (.t 0)) (.a (.t 134))))] [])
 (.cond (.t 135) (.seq (.rg [] [(4, (.a (.bool false)))] [])
 (.ret)) (.skip))))
 (.rg [] [(2, (.a (.t 2))), (3, (.a (.t 3))), (8, (.b (.bin .add (.t 0) (.t 1)) (.a (.t 8)) (.a (.int .i64 1))))] []))
def lt11_l2 : S2 := .seq (.seq (.rg [] [(2, (.a (.t 2))), (3, (.a (.t 3))), (7, (.a (.t 7))), (102, (.b (.bin .lss (.t 0) (.t 1)) (.a (.t 7)) (.u (.lenL (.t 0)) (.u (.ld 1 false (.t 0)) (.u (.fldA 3 3 (.t 0)) (.a (.t 2)))))))] [])
 (.cond (.t 102) (.skip) (.exit 4)))
 (.seq (.block 5 (.seq (.rg [.chk [] (.u (.ld 5 true (.t 0)) (.b (.idxA 5 (.t 0) (.t 1)) (.u (.ld 1 false (.t 0)) (.u (.fldA 3 3 (.t 0)) (.a (.t 3)))) (.a (.t 7)))), .chk [] (.u (.ld 5 true (.t 0)) (.b (.idxA 5 (.t 0) (.t 1)) (.u (.ld 1 false (.t 0)) (.u (.fldA 3 3 (.t 0)) (.a (.t 2)))) (.a (.t 7)))), .lt 114 [] (.u (.ld 5 true (.t 0)) (.b (.idxA 5 (.t 0) (.t 1)) (.u (.ld 1 false (.t 0)) (.u (.fldA 3 3 (.t 0)) (.a (.t 3)))) (.a (.t 7)))), .lt 109 [] (.u (.ld 5 true (.t 0)) (.b (.idxA 5 (.t 0) (.t 1)) (.u (.ld 1 false (.t 0)) (.u (.fldA 3 3 (.t 0)) (.a (.t 2)))) (.a (.t 7)))), .op (some 115) (.pcall 30 [(.t 109), (.t 114)])] [(2, (.a (.t 2))), (3, (.a (.t 3))), (7, (.a (.t 7))), (116, (.u (.not (.t 0)) (.a (.t 115))))] [])
 (.cond (.t 116) (.seq (.rg [] [(4, (.a (.bool false)))] [])
 (.ret)) (.skip))))
 (.rg [] [(2, (.a (.t 2))), (3, (.a (.t 3))), (7, (.b (.bin .add (.t 0) (.t 1)) (.a (.t 7)) (.a (.int .i64 1))))] []))
def lt11_l3 : S2 := .seq (.seq (.rg [] [(2, (.a (.t 2))), (3, (.a (.t 3))), (6, (.a (.t 6))), (83, (.b (.bin .lss (.t 0) (.t 1)) (.a (.t 6)) (.u (.lenL (.t 0)) (.u (.ld 1 false (.t 0)) (.u (.fldA 2 2 (.t 0)) (.a (.t 2)))))))] [])
 (.cond (.t 83) (.skip) (.exit 2)))
 (.seq (.block 3 (.seq (.rg [.chk [] (.u (.ld 6 true (.t 0)) (.b (.idxA 6 (.t 0) (.t 1)) (.u (.ld 1 false (.t 0)) (.u (.fldA 2 2 (.t 0)) (.a (.t 3)))) (.a (.t 6)))), .chk [] (.u (.ld 6 true (.t 0)) (.b (.idxA 6 (.t 0) (.t 1)) (.u (.ld 1 false (.t 0)) (.u (.fldA 2 2 (.t 0)) (.a (.t 2)))) (.a (.t 6)))), .lt 95 [] (.u (.ld 6 true (.t 0)) (.b (.idxA 6 (.t 0) (.t 1)) (.u (.ld 1 false (.t 0)) (.u (.fldA 2 2 (.t 0)) (.a (.t 3)))) (.a (.t 6)))), .lt 90 [] (.u (.ld 6 true (.t 0)) (.b (.idxA 6 (.t 0) (.t 1)) (.u (.ld 1 false (.t 0)) (.u (.fldA 2 2 (.t 0)) (.a (.t 2)))) (.a (.t 6)))), .op (some 96) (.pcall 29 [(.t 90), (.t 95)])] [(2, (.a (.t 2))), (3, (.a (.t 3))), (6, (.a (.t 6))), (97, (.u (.not (.t 0)) (.a (.t 96))))] [])
 (.cond (.t 97) (.seq (.rg [] [(4, (.a (.bool false)))] [])
 (.ret)) (.skip))))
 (.rg [] [(2, (.a (.t 2))), (3, (.a (.t 3))), (6, (.b (.bin .add (.t 0) (.t 1)) (.a (.t 6)) (.a (.int .i64 1))))] []))
def lt11_l4 : S2 := .seq (.seq (.rg [] [(2, (.a (.t 2))), (3, (.a (.t 3))), (5, (.a (.t 5))), (65, (.b (.bin .lss (.t 0) (.t 1)) (.a (.t 5)) (.u (.lenL (.t 0)) (.u (.ld 1 false (.t 0)) (.u (.fldA 1 1 (.t 0)) (.a (.t 2)))))))] [])
 (.cond (.t 65) (.skip) (.exit 0)))
 (.seq (.block 1 (.seq (.rg [] [(2, (.a (.t 2))), (3, (.a (.t 3))), (5, (.a (.t 5))), (78, (.b (.eqD (.st [.str, .str, (.int .i64), (.int .i64), (.int .i64)]) false (.t 0) (.t 1)) (.u (.ld 5 true (.t 0)) (.b (.idxA 5 (.t 0) (.t 1)) (.u (.ld 1 false (.t 0)) (.u (.fldA 1 1 (.t 0)) (.a (.t 2)))) (.a (.t 5)))) (.u (.ld 5 true (.t 0)) (.b (.idxA 5 (.t 0) (.t 1)) (.u (.ld 1 false (.t 0)) (.u (.fldA 1 1 (.t 0)) (.a (.t 3)))) (.a (.t 5))))))] [])
 (.cond (.t 78) (.seq (.rg [] [(4, (.a (.bool false)))] [])
 (.ret)) (.skip))))
 (.rg [] [(2, (.a (.t 2))), (3, (.a (.t 3))), (5, (.b (.bin .add (.t 0) (.t 1)) (.a (.t 5)) (.a (.int .i64 1))))] []))
def lt11 : S2 := .seq (.rg [.op (some 2) (.box 30 (.t 0)), .op (some 3) (.box 30 (.t 1))] [(2, (.a (.t 2))), (3, (.a (.t 3)))] [])
 (.seq (.seq (.rg [] [(2, (.a (.t 2))), (3, (.a (.t 3))), (60, (.ite (.ite (.ite (.ite (.ite (.u (.not (.t 0)) (.call 28 (.cons (.u (.ld 1 false (.t 0)) (.u (.fldA 0 0 (.t 0)) (.a (.t 2)))) (.cons (.u (.ld 1 false (.t 0)) (.u (.fldA 0 0 (.t 0)) (.a (.t 3)))) .nil)))) (.a (.bool true)) (.b (.bin .neq (.t 0) (.t 1)) (.u (.lenL (.t 0)) (.u (.ld 1 false (.t 0)) (.u (.fldA 1 1 (.t 0)) (.a (.t 2))))) (.u (.lenL (.t 0)) (.u (.ld 1 false (.t 0)) (.u (.fldA 1 1 (.t 0)) (.a (.t 3))))))) (.a (.bool true)) (.b (.bin .neq (.t 0) (.t 1)) (.u (.lenL (.t 0)) (.u (.ld 1 false (.t 0)) (.u (.fldA 2 2 (.t 0)) (.a (.t 2))))) (.u (.lenL (.t 0)) (.u (.ld 1 false (.t 0)) (.u (.fldA 2 2 (.t 0)) (.a (.t 3))))))) (.a (.bool true)) (.b (.bin .neq (.t 0) (.t 1)) (.u (.lenL (.t 0)) (.u (.ld 1 false (.t 0)) (.u (.fldA 3 3 (.t 0)) (.a (.t 2))))) (.u (.lenL (.t 0)) (.u (.ld 1 false (.t 0)) (.u (.fldA 3 3 (.t 0)) (.a (.t 3))))))) (.a (.bool true)) (.b (.bin .neq (.t 0) (.t 1)) (.u (.lenL (.t 0)) (.u (.ld 1 false (.t 0)) (.u (.fldA 4 4 (.t 0)) (.a (.t 2))))) (.u (.lenL (.t 0)) (.u (.ld 1 false (.t 0)) (.u (.fldA 4 4 (.t 0)) (.a (.t 3))))))) (.a (.bool true)) (.b (.bin .neq (.t 0) (.t 1)) (.u (.lenL (.t 0)) (.u (.ld 1 false (.t 0)) (.u (.fldA 5 5 (.t 0)) (.a (.t 2))))) (.u (.lenL (.t 0)) (.u (.ld 1 false (.t 0)) (.u (.fldA 5 5 (.t 0)) (.a (.t 3))))))))] [])
 (.cond (.t 60) (.seq (.rg [] [(4, (.a (.bool false)))] [])
 (.ret)) (.skip)))
 (.seq (.seq (.rg [] [(2, (.a (.t 2))), (3, (.a (.t 3))), (5, (.a (.int .i64 0)))] [])
 (.block 0 (.loop [2, 3, 5] lt11_l4)))
 (.seq (.seq (.rg [] [(2, (.a (.t 2))), (3, (.a (.t 3))), (6, (.a (.int .i64 0)))] [])
 (.block 2 (.loop [2, 3, 6] lt11_l3)))
 (.seq (.seq (.rg [] [(2, (.a (.t 2))), (3, (.a (.t 3))), (7, (.a (.int .i64 0)))] [])
 (.block 4 (.loop [2, 3, 7] lt11_l2)))
 (.seq (.seq (.rg [] [(2, (.a (.t 2))), (3, (.a (.t 3))), (8, (.a (.int .i64 0)))] [])
 (.block 6 (.loop [2, 3, 8] lt11_l1)))
 (.seq (.seq (.rg [] [(2, (.a (.t 2))), (3, (.a (.t 3))), (9, (.a (.int .i64 0)))] [])
 (.block 8 (.loop [2, 3, 9] lt11_l0)))
 (.seq (.rg [] [(4, (.a (.bool true)))] [])
 (.ret))))))))
theorem lf11 : ir11.lift [28] = some lt11 := by kernel_rfl
def lt28_l0 : S2 := .seq (.seq (.rg [] [(0, (.a (.t 0))), (1, (.a (.t 1))), (5, (.a (.t 5))), (14, (.b (.bin .lss (.t 0) (.t 1)) (.a (.t 5)) (.u (.lenL (.t 0)) (.a (.t 0)))))] [])
 (.cond (.t 14) (.skip) (.exit 0)))
 (.seq (.block 1 (.seq (.rg [] [(0, (.a (.t 0))), (1, (.a (.t 1))), (5, (.a (.t 5))), (25, (.b (.bin .neq (.t 0) (.t 1)) (.u (.ld 1 false (.t 0)) (.b (.idxA 1 (.t 0) (.t 1)) (.a (.t 0)) (.a (.t 5)))) (.u (.ld 1 false (.t 0)) (.b (.idxA 1 (.t 0) (.t 1)) (.a (.t 1)) (.a (.t 5))))))] [])
 (.cond (.t 25) (.seq (.rg [] [(4, (.a (.bool false)))] [])
 (.ret)) (.skip))))
 (.rg [] [(0, (.a (.t 0))), (1, (.a (.t 1))), (5, (.b (.bin .add (.t 0) (.t 1)) (.a (.t 5)) (.a (.int .i64 1))))] []))
def lt28 : S2 := .seq (.rg [] [(0, (.a (.t 0))), (1, (.a (.t 1)))] [])
 (.seq (.seq (.rg [] [(0, (.a (.t 0))), (1, (.a (.t 1))), (10, (.b (.bin .neq (.t 0) (.t 1)) (.u (.lenL (.t 0)) (.a (.t 0))) (.u (.lenL (.t 0)) (.a (.t 1)))))] [])
 (.cond (.t 10) (.seq (.rg [] [(4, (.a (.bool false)))] [])
 (.ret)) (.skip)))
 (.seq (.seq (.rg [] [(0, (.a (.t 0))), (1, (.a (.t 1))), (5, (.a (.int .i64 0)))] [])
 (.block 0 (.loop [0, 1, 5] lt28_l0)))
 (.seq (.rg [] [(4, (.a (.bool true)))] [])
 (.ret))))
theorem lf28 : ir28.lift [] = some lt28 := by kernel_rfl
def lt30_l0 : S2 := .seq (.seq (.rg [] [(2, (.a (.t 2))), (3, (.a (.t 3))), (7, (.a (.t 7))), (87, (.b (.bin .lss (.t 0) (.t 1)) (.a (.t 7)) (.u (.lenL (.t 0)) (.u (.ld 1 false (.t 0)) (.u (.fldA 4 4 (.t 0)) (.a (.t 2)))))))] [])
 (.cond (.t 87) (.skip) (.exit 4)))
 (.seq (.block 5 (.seq (.rg [] [(2, (.a (.t 2))), (3, (.a (.t 3))), (7, (.a (.t 7))), (100, (.b (.eqD (.st [.str, (.int .i64), (.st [.str, .str, (.int .i64), (.int .i64), (.int .i64)])]) false (.t 0) (.t 1)) (.u (.ld 7 true (.t 0)) (.b (.idxA 7 (.t 0) (.t 1)) (.u (.ld 1 false (.t 0)) (.u (.fldA 4 4 (.t 0)) (.a (.t 2)))) (.a (.t 7)))) (.u (.ld 7 true (.t 0)) (.b (.idxA 7 (.t 0) (.t 1)) (.u (.ld 1 false (.t 0)) (.u (.fldA 4 4 (.t 0)) (.a (.t 3)))) (.a (.t 7))))))] [])
 (.cond (.t 100) (.seq (.rg [] [(4, (.a (.bool false)))] [])
 (.ret)) (.skip))))
 (.rg [] [(2, (.a (.t 2))), (3, (.a (.t 3))), (7, (.b (.bin .add (.t 0) (.t 1)) (.a (.t 7)) (.a (.int .i64 1))))] []))
def lt30_l1 : S2 := .seq (.seq (.rg [] [(2, (.a (.t 2))), (3, (.a (.t 3))), (6, (.a (.t 6))), (69, (.b (.bin .lss (.t 0) (.t 1)) (.a (.t 6)) (.u (.lenL (.t 0)) (.u (.ld 1 false (.t 0)) (.u (.fldA 3 3 (.t 0)) (.a (.t 2)))))))] [])
 (.cond (.t 69) (.skip) (.exit 2)))
 (.seq (.block 3 (.seq (.rg [] [(2, (.a (.t 2))), (3, (.a (.t 3))), (6, (.a (.t 6))), (82, (.b (.eqD (.st [(.int .i64), (.st [.str, .str, (.int .i64), (.int .i64), (.int .i64)]), (.st [.str, .str, (.int .i64), (.int .i64), (.int .i64)])]) false (.t 0) (.t 1)) (.u (.ld 11 true (.t 0)) (.b (.idxA 11 (.t 0) (.t 1)) (.u (.ld 1 false (.t 0)) (.u (.fldA 3 3 (.t 0)) (.a (.t 2)))) (.a (.t 6)))) (.u (.ld 11 true (.t 0)) (.b (.idxA 11 (.t 0) (.t 1)) (.u (.ld 1 false (.t 0)) (.u (.fldA 3 3 (.t 0)) (.a (.t 3)))) (.a (.t 6))))))] [])
 (.cond (.t 82) (.seq (.rg [] [(4, (.a (.bool false)))] [])
 (.ret)) (.skip))))
 (.rg [] [(2, (.a (.t 2))), (3, (.a (.t 3))), (6, (.b (.bin .add (.t 0) (.t 1)) (.a (.t 6)) (.a (.int .i64 1))))] []))
def lt30_l2 : S2 := .seq (.seq (.rg [] [(2, (.a (.t 2))), (3, (.a (.t 3))), (5, (.a (.t 5))), (51, (.b (.bin .lss (.t 0) (.t 1)) (.a (.t 5)) (.u (.lenL (.t 0)) (.u (.ld 1 false (.t 0)) (.u (.fldA 2 2 (.t 0)) (.a (.t 2)))))))] [])
 (.cond (.t 51) (.skip) (.exit 0)))
 (.seq (.block 1 (.seq (.rg [] [(2, (.a (.t 2))), (3, (.a (.t 3))), (5, (.a (.t 5))), (64, (.b (.eqD (.st [.str, .str, (.int .i64), (.st [.str, .str, (.int .i64), (.int .i64), (.int .i64)])]) false (.t 0) (.t 1)) (.u (.ld 8 true (.t 0)) (.b (.idxA 8 (.t 0) (.t 1)) (.u (.ld 1 false (.t 0)) (.u (.fldA 2 2 (.t 0)) (.a (.t 2)))) (.a (.t 5)))) (.u (.ld 8 true (.t 0)) (.b (.idxA 8 (.t 0) (.t 1)) (.u (.ld 1 false (.t 0)) (.u (.fldA 2 2 (.t 0)) (.a (.t 3)))) (.a (.t 5))))))] [])
 (.cond (.t 64) (.seq (.rg [] [(4, (.a (.bool false)))] [])
 (.ret)) (.skip))))
 (.rg [] [(2, (.a (.t 2))), (3, (.a (.t 3))), (5, (.b (.bin .add (.t 0) (.t 1)) (.a (.t 5)) (.a (.int .i64 1))))] []))
def lt30 : S2 := .seq (.rg [.op (some 2) (.box 50 (.t 0)), .op (some 3) (.box 50 (.t 1))] [(2, (.a (.t 2))), (3, (.a (.t 3)))] [])
 (.seq (.seq (.rg [] [(2, (.a (.t 2))), (3, (.a (.t 3))), (46, (.ite (.ite (.ite (.ite (.b (.bin .neq (.t 0) (.t 1)) (.u (.ld 1 false (.t 0)) (.u (.fldA 0 0 (.t 0)) (.a (.t 2)))) (.u (.ld 1 false (.t 0)) (.u (.fldA 0 0 (.t 0)) (.a (.t 3))))) (.a (.bool true)) (.b (.bin .neq (.t 0) (.t 1)) (.u (.ld 1 false (.t 0)) (.u (.fldA 1 1 (.t 0)) (.a (.t 2)))) (.u (.ld 1 false (.t 0)) (.u (.fldA 1 1 (.t 0)) (.a (.t 3)))))) (.a (.bool true)) (.b (.bin .neq (.t 0) (.t 1)) (.u (.lenL (.t 0)) (.u (.ld 1 false (.t 0)) (.u (.fldA 2 2 (.t 0)) (.a (.t 2))))) (.u (.lenL (.t 0)) (.u (.ld 1 false (.t 0)) (.u (.fldA 2 2 (.t 0)) (.a (.t 3))))))) (.a (.bool true)) (.b (.bin .neq (.t 0) (.t 1)) (.u (.lenL (.t 0)) (.u (.ld 1 false (.t 0)) (.u (.fldA 3 3 (.t 0)) (.a (.t 2))))) (.u (.lenL (.t 0)) (.u (.ld 1 false (.t 0)) (.u (.fldA 3 3 (.t 0)) (.a (.t 3))))))) (.a (.bool true)) (.b (.bin .neq (.t 0) (.t 1)) (.u (.lenL (.t 0)) (.u (.ld 1 false (.t 0)) (.u (.fldA 4 4 (.t 0)) (.a (.t 2))))) (.u (.lenL (.t 0)) (.u (.ld 1 false (.t 0)) (.u (.fldA 4 4 (.t 0)) (.a (.t 3))))))))] [])
 (.cond (.t 46) (.seq (.rg [] [(4, (.a (.bool false)))] [])
 (.ret)) (.skip)))
 (.seq (.seq (.rg [] [(2, (.a (.t 2))), (3, (.a (.t 3))), (5, (.a (.int .i64 0)))] [])
 (.block 0 (.loop [2, 3, 5] lt30_l2)))
 (.seq (.seq (.rg [] [(2, (.a (.t 2))), (3, (.a (.t 3))), (6, (.a (.int .i64 0)))] [])
 (.block 2 (.loop [2, 3, 6] lt30_l1)))
 (.seq (.seq (.rg [] [(2, (.a (.t 2))), (3, (.a (.t 3))), (7, (.a (.int .i64 0)))] [])
 (.block 4 (.loop [2, 3, 7] lt30_l0)))
 (.seq (.rg [] [(4, (.a (.bool true)))] [])
 (.ret))))))
theorem lf30 : ir30.lift [] = some lt30 := by kernel_rfl
def lt29_l0 : S2 := .seq (.seq (.rg [] [(2, (.a (.t 2))), (3, (.a (.t 3))), (6, (.a (.t 6))), (108, (.b (.bin .lss (.t 0) (.t 1)) (.a (.t 6)) (.u (.lenL (.t 0)) (.u (.ld 1 false (.t 0)) (.u (.fldA 5 5 (.t 0)) (.a (.t 2)))))))] [])
 (.cond (.t 108) (.skip) (.exit 2)))
 (.seq (.block 3 (.seq (.rg [.chk [] (.u (.ld 4 true (.t 0)) (.b (.idxA 4 (.t 0) (.t 1)) (.u (.ld 1 false (.t 0)) (.u (.fldA 5 5 (.t 0)) (.a (.t 2)))) (.a (.t 6)))), .lt 115 [] (.u (.ld 4 true (.t 0)) (.b (.idxA 4 (.t 0) (.t 1)) (.u (.ld 1 false (.t 0)) (.u (.fldA 5 5 (.t 0)) (.a (.t 2)))) (.a (.t 6)))), .op (some 7) (.alloc 96 (.agg [.nils, (.str []), .nils, (.int .i64 0)])), .op none (.st 4 (.t 7) (.t 115))] [(2, (.a (.t 2))), (3, (.a (.t 3))), (6, (.a (.t 6))), (7, (.a (.t 7)))] [])
 (.seq (.rg [.chk [] (.u (.ld 4 true (.t 0)) (.b (.idxA 4 (.t 0) (.t 1)) (.u (.ld 1 false (.t 0)) (.u (.fldA 5 5 (.t 0)) (.a (.t 3)))) (.a (.t 6)))), .lt 120 [] (.u (.ld 4 true (.t 0)) (.b (.idxA 4 (.t 0) (.t 1)) (.u (.ld 1 false (.t 0)) (.u (.fldA 5 5 (.t 0)) (.a (.t 3)))) (.a (.t 6)))), .op (some 8) (.alloc 96 (.agg [.nils, (.str []), .nils, (.int .i64 0)])), .op none (.st 4 (.t 8) (.t 120))] [(2, (.a (.t 2))), (3, (.a (.t 3))), (6, (.a (.t 6))), (7, (.a (.t 7))), (8, (.a (.t 8)))] [])
 (.seq (.rg [] [(2, (.a (.t 2))), (3, (.a (.t 3))), (6, (.a (.t 6))), (148, (.ite (.ite (.ite (.b (.bin .neq (.t 0) (.t 1)) (.u (.ld 1 false (.t 0)) (.u (.fldA 1 1 (.t 0)) (.a (.t 7)))) (.u (.ld 1 false (.t 0)) (.u (.fldA 1 1 (.t 0)) (.a (.t 8))))) (.a (.bool true)) (.b (.bin .neq (.t 0) (.t 1)) (.u (.ld 1 false (.t 0)) (.u (.fldA 3 3 (.t 0)) (.a (.t 7)))) (.u (.ld 1 false (.t 0)) (.u (.fldA 3 3 (.t 0)) (.a (.t 8)))))) (.a (.bool true)) (.u (.not (.t 0)) (.call 28 (.cons (.u (.ld 1 false (.t 0)) (.u (.fldA 0 0 (.t 0)) (.a (.t 7)))) (.cons (.u (.ld 1 false (.t 0)) (.u (.fldA 0 0 (.t 0)) (.a (.t 8)))) .nil))))) (.a (.bool true)) (.u (.not (.t 0)) (.call 98 (.cons (.u (.ld 1 false (.t 0)) (.u (.fldA 2 2 (.t 0)) (.a (.t 7)))) (.cons (.u (.ld 1 false (.t 0)) (.u (.fldA 2 2 (.t 0)) (.a (.t 8)))) .nil))))))] [])
 (.cond (.t 148) (.seq (.rg [] [(4, (.a (.bool false)))] [])
 (.ret)) (.skip))))))
 (.rg [] [(2, (.a (.t 2))), (3, (.a (.t 3))), (6, (.b (.bin .add (.t 0) (.t 1)) (.a (.t 6)) (.a (.int .i64 1))))] []))
def lt29_l1 : S2 := .seq (.seq (.rg [] [(2, (.a (.t 2))), (3, (.a (.t 3))), (5, (.a (.t 5))), (57, (.b (.bin .lss (.t 0) (.t 1)) (.a (.t 5)) (.u (.lenL (.t 0)) (.u (.ld 1 false (.t 0)) (.u (.fldA 4 4 (.t 0)) (.a (.t 2)))))))] [])
 (.cond (.t 57) (.skip) (.exit 0)))
 (.seq (.block 1 (.seq (.rg [] [(2, (.a (.t 2))), (3, (.a (.t 3))), (5, (.a (.t 5))), (103, (.ite (.ite (.b (.bin .neq (.t 0) (.t 1)) (.u (.ld 1 false (.t 0)) (.u (.fldA 0 0 (.t 0)) (.b (.idxA 11 (.t 0) (.t 1)) (.u (.ld 1 false (.t 0)) (.u (.fldA 4 4 (.t 0)) (.a (.t 2)))) (.a (.t 5))))) (.u (.ld 1 false (.t 0)) (.u (.fldA 0 0 (.t 0)) (.b (.idxA 11 (.t 0) (.t 1)) (.u (.ld 1 false (.t 0)) (.u (.fldA 4 4 (.t 0)) (.a (.t 3)))) (.a (.t 5)))))) (.a (.bool true)) (.b (.eqD (.ar 4 (.int .i64)) false (.t 0) (.t 1)) (.u (.ld 4 true (.t 0)) (.u (.fldA 2 7 (.t 0)) (.b (.idxA 11 (.t 0) (.t 1)) (.u (.ld 1 false (.t 0)) (.u (.fldA 4 4 (.t 0)) (.a (.t 2)))) (.a (.t 5))))) (.u (.ld 4 true (.t 0)) (.u (.fldA 2 7 (.t 0)) (.b (.idxA 11 (.t 0) (.t 1)) (.u (.ld 1 false (.t 0)) (.u (.fldA 4 4 (.t 0)) (.a (.t 3)))) (.a (.t 5))))))) (.a (.bool true)) (.u (.not (.t 0)) (.call 97 (.cons (.u (.ld 6 true (.t 0)) (.u (.fldA 1 1 (.t 0)) (.b (.idxA 11 (.t 0) (.t 1)) (.u (.ld 1 false (.t 0)) (.u (.fldA 4 4 (.t 0)) (.a (.t 2)))) (.a (.t 5))))) (.cons (.u (.ld 6 true (.t 0)) (.u (.fldA 1 1 (.t 0)) (.b (.idxA 11 (.t 0) (.t 1)) (.u (.ld 1 false (.t 0)) (.u (.fldA 4 4 (.t 0)) (.a (.t 3)))) (.a (.t 5))))) .nil))))))] [])
 (.cond (.t 103) (.seq (.rg [] [(4, (.a (.bool false)))] [])
 (.ret)) (.skip))))
 (.rg [] [(2, (.a (.t 2))), (3, (.a (.t 3))), (5, (.b (.bin .add (.t 0) (.t 1)) (.a (.t 5)) (.a (.int .i64 1))))] []))
def lt29 : S2 := .seq (.rg [.op (some 2) (.box 79 (.t 0)), .op (some 3) (.box 79 (.t 1))] [(2, (.a (.t 2))), (3, (.a (.t 3)))] [])
 (.seq (.seq (.rg [] [(2, (.a (.t 2))), (3, (.a (.t 3))), (52, (.ite (.ite (.ite (.ite (.ite (.b (.bin .neq (.t 0) (.t 1)) (.u (.ld 1 false (.t 0)) (.u (.fldA 0 0 (.t 0)) (.a (.t 2)))) (.u (.ld 1 false (.t 0)) (.u (.fldA 0 0 (.t 0)) (.a (.t 3))))) (.a (.bool true)) (.b (.bin .neq (.t 0) (.t 1)) (.u (.ld 1 false (.t 0)) (.u (.fldA 1 1 (.t 0)) (.a (.t 2)))) (.u (.ld 1 false (.t 0)) (.u (.fldA 1 1 (.t 0)) (.a (.t 3)))))) (.a (.bool true)) (.b (.bin .neq (.t 0) (.t 1)) (.u (.ld 1 false (.t 0)) (.u (.fldA 2 2 (.t 0)) (.a (.t 2)))) (.u (.ld 1 false (.t 0)) (.u (.fldA 2 2 (.t 0)) (.a (.t 3)))))) (.a (.bool true)) (.b (.bin .neq (.t 0) (.t 1)) (.u (.ld 1 false (.t 0)) (.u (.fldA 3 3 (.t 0)) (.a (.t 2)))) (.u (.ld 1 false (.t 0)) (.u (.fldA 3 3 (.t 0)) (.a (.t 3)))))) (.a (.bool true)) (.b (.bin .neq (.t 0) (.t 1)) (.u (.lenL (.t 0)) (.u (.ld 1 false (.t 0)) (.u (.fldA 4 4 (.t 0)) (.a (.t 2))))) (.u (.lenL (.t 0)) (.u (.ld 1 false (.t 0)) (.u (.fldA 4 4 (.t 0)) (.a (.t 3))))))) (.a (.bool true)) (.b (.bin .neq (.t 0) (.t 1)) (.u (.lenL (.t 0)) (.u (.ld 1 false (.t 0)) (.u (.fldA 5 5 (.t 0)) (.a (.t 2))))) (.u (.lenL (.t 0)) (.u (.ld 1 false (.t 0)) (.u (.fldA 5 5 (.t 0)) (.a (.t 3))))))))] [])
 (.cond (.t 52) (.seq (.rg [] [(4, (.a (.bool false)))] [])
 (.ret)) (.skip)))
 (.seq (.seq (.rg [] [(2, (.a (.t 2))), (3, (.a (.t 3))), (5, (.a (.int .i64 0)))] [])
 (.block 0 (.loop [2, 3, 5] lt29_l1)))
 (.seq (.seq (.rg [] [(2, (.a (.t 2))), (3, (.a (.t 3))), (6, (.a (.int .i64 0)))] [])
 (.block 2 (.loop [2, 3, 6] lt29_l0)))
 (.seq (.rg [] [(4, (.a (.bool true)))] [])
 (.ret)))))
theorem lf29 : ir29.lift [28, 97, 98] = some lt29 := by kernel_rfl
def lt31_l0 : S2 := .seq (.seq (.rg [] [(2, (.a (.t 2))), (3, (.a (.t 3))), (5, (.a (.t 5))), (45, (.b (.bin .lss (.t 0) (.t 1)) (.a (.t 5)) (.u (.lenL (.t 0)) (.u (.ld 1 false (.t 0)) (.u (.fldA 4 4 (.t 0)) (.a (.t 2)))))))] [])
 (.cond (.t 45) (.skip) (.exit 0)))
 (.seq (.block 1 (.seq (.rg [] [(2, (.a (.t 2))), (3, (.a (.t 3))), (5, (.a (.t 5))), (58, (.b (.eqD (.st [.str, .str, (.int .i64), (.int .i64), (.int .i64)]) false (.t 0) (.t 1)) (.u (.ld 5 true (.t 0)) (.b (.idxA 5 (.t 0) (.t 1)) (.u (.ld 1 false (.t 0)) (.u (.fldA 4 4 (.t 0)) (.a (.t 2)))) (.a (.t 5)))) (.u (.ld 5 true (.t 0)) (.b (.idxA 5 (.t 0) (.t 1)) (.u (.ld 1 false (.t 0)) (.u (.fldA 4 4 (.t 0)) (.a (.t 3)))) (.a (.t 5))))))] [])
 (.cond (.t 58) (.seq (.rg [] [(4, (.a (.bool false)))] [])
 (.ret)) (.skip))))
 (.rg [] [(2, (.a (.t 2))), (3, (.a (.t 3))), (5, (.b (.bin .add (.t 0) (.t 1)) (.a (.t 5)) (.a (.int .i64 1))))] []))
def lt31 : S2 := .seq (.rg [.op (some 2) (.box 84 (.t 0)), .op (some 3) (.box 84 (.t 1))] [(2, (.a (.t 2))), (3, (.a (.t 3)))] [])
 (.seq (.seq (.rg [] [(2, (.a (.t 2))), (3, (.a (.t 3))), (40, (.ite (.ite (.ite (.ite (.b (.bin .neq (.t 0) (.t 1)) (.u (.ld 1 false (.t 0)) (.u (.fldA 0 0 (.t 0)) (.a (.t 2)))) (.u (.ld 1 false (.t 0)) (.u (.fldA 0 0 (.t 0)) (.a (.t 3))))) (.a (.bool true)) (.b (.bin .neq (.t 0) (.t 1)) (.u (.ld 1 false (.t 0)) (.u (.fldA 1 1 (.t 0)) (.a (.t 2)))) (.u (.ld 1 false (.t 0)) (.u (.fldA 1 1 (.t 0)) (.a (.t 3)))))) (.a (.bool true)) (.b (.bin .neq (.t 0) (.t 1)) (.u (.ld 1 false (.t 0)) (.u (.fldA 2 2 (.t 0)) (.a (.t 2)))) (.u (.ld 1 false (.t 0)) (.u (.fldA 2 2 (.t 0)) (.a (.t 3)))))) (.a (.bool true)) (.b (.bin .neq (.t 0) (.t 1)) (.u (.ld 1 false (.t 0)) (.u (.fldA 3 3 (.t 0)) (.a (.t 2)))) (.u (.ld 1 false (.t 0)) (.u (.fldA 3 3 (.t 0)) (.a (.t 3)))))) (.a (.bool true)) (.b (.bin .neq (.t 0) (.t 1)) (.u (.lenL (.t 0)) (.u (.ld 1 false (.t 0)) (.u (.fldA 4 4 (.t 0)) (.a (.t 2))))) (.u (.lenL (.t 0)) (.u (.ld 1 false (.t 0)) (.u (.fldA 4 4 (.t 0)) (.a (.t 3))))))))] [])
 (.cond (.t 40) (.seq (.rg [] [(4, (.a (.bool false)))] [])
 (.ret)) (.skip)))
 (.seq (.seq (.rg [] [(2, (.a (.t 2))), (3, (.a (.t 3))), (5, (.a (.int .i64 0)))] [])
 (.block 0 (.loop [2, 3, 5] lt31_l0)))
 (.seq (.rg [] [(4, (.a (.bool true)))] [])
 (.ret))))
theorem lf31 : ir31.lift [] = some lt31 := by kernel_rfl
def lt32_l0 : S2 := .seq (.seq (.rg [] [(2, (.a (.t 2))), (3, (.a (.t 3))), (5, (.a (.t 5))), (31, (.b (.bin .lss (.t 0) (.t 1)) (.a (.t 5)) (.u (.lenL (.t 0)) (.u (.ld 1 false (.t 0)) (.u (.fldA 1 1 (.t 0)) (.a (.t 2)))))))] [])
 (.cond (.t 31) (.skip) (.exit 0)))
 (.seq (.block 1 (.seq (.rg [] [(2, (.a (.t 2))), (3, (.a (.t 3))), (5, (.a (.t 5))), (44, (.b (.eqD (.st [.str, .str, (.int .i64), (.int .i64)]) false (.t 0) (.t 1)) (.u (.ld 4 true (.t 0)) (.b (.idxA 4 (.t 0) (.t 1)) (.u (.ld 1 false (.t 0)) (.u (.fldA 1 1 (.t 0)) (.a (.t 2)))) (.a (.t 5)))) (.u (.ld 4 true (.t 0)) (.b (.idxA 4 (.t 0) (.t 1)) (.u (.ld 1 false (.t 0)) (.u (.fldA 1 1 (.t 0)) (.a (.t 3)))) (.a (.t 5))))))] [])
 (.cond (.t 44) (.seq (.rg [] [(4, (.a (.bool false)))] [])
 (.ret)) (.skip))))
 (.rg [] [(2, (.a (.t 2))), (3, (.a (.t 3))), (5, (.b (.bin .add (.t 0) (.t 1)) (.a (.t 5)) (.a (.int .i64 1))))] []))
def lt32 : S2 := .seq (.rg [.op (some 2) (.box 88 (.t 0)), .op (some 3) (.box 88 (.t 1))] [(2, (.a (.t 2))), (3, (.a (.t 3)))] [])
 (.seq (.seq (.rg [] [(2, (.a (.t 2))), (3, (.a (.t 3))), (26, (.ite (.ite (.b (.bin .neq (.t 0) (.t 1)) (.u (.ld 1 false (.t 0)) (.u (.fldA 0 0 (.t 0)) (.a (.t 2)))) (.u (.ld 1 false (.t 0)) (.u (.fldA 0 0 (.t 0)) (.a (.t 3))))) (.a (.bool true)) (.b (.bin .neq (.t 0) (.t 1)) (.u (.ld 1 false (.t 0)) (.u (.fldA 2 2 (.t 0)) (.a (.t 2)))) (.u (.ld 1 false (.t 0)) (.u (.fldA 2 2 (.t 0)) (.a (.t 3)))))) (.a (.bool true)) (.b (.bin .neq (.t 0) (.t 1)) (.u (.lenL (.t 0)) (.u (.ld 1 false (.t 0)) (.u (.fldA 1 1 (.t 0)) (.a (.t 2))))) (.u (.lenL (.t 0)) (.u (.ld 1 false (.t 0)) (.u (.fldA 1 1 (.t 0)) (.a (.t 3))))))))] [])
 (.cond (.t 26) (.seq (.rg [] [(4, (.a (.bool false)))] [])
 (.ret)) (.skip)))
 (.seq (.seq (.rg [] [(2, (.a (.t 2))), (3, (.a (.t 3))), (5, (.a (.int .i64 0)))] [])
 (.block 0 (.loop [2, 3, 5] lt32_l0)))
 (.seq (.rg [] [(4, (.a (.bool true)))] [])
 (.ret))))
theorem lf32 : ir32.lift [] = some lt32 := by kernel_rfl
def lt97 : S2 := .seq (.rg [.op (some 2) (.box 90 (.t 0)), .op (some 3) (.box 90 (.t 1))] [(2, (.a (.t 2))), (3, (.a (.t 3)))] [])
 (.seq (.rg [] [(4, (.ite (.ite (.ite (.ite (.ite (.b (.bin .eql (.t 0) (.t 1)) (.u (.ld 1 false (.t 0)) (.u (.fldA 0 0 (.t 0)) (.a (.t 2)))) (.u (.ld 1 false (.t 0)) (.u (.fldA 0 0 (.t 0)) (.a (.t 3))))) (.b (.bin .eql (.t 0) (.t 1)) (.u (.ld 1 false (.t 0)) (.u (.fldA 1 1 (.t 0)) (.a (.t 2)))) (.u (.ld 1 false (.t 0)) (.u (.fldA 1 1 (.t 0)) (.a (.t 3))))) (.a (.bool false))) (.b (.bin .eql (.t 0) (.t 1)) (.u (.ld 1 false (.t 0)) (.u (.fldA 2 2 (.t 0)) (.a (.t 2)))) (.u (.ld 1 false (.t 0)) (.u (.fldA 2 2 (.t 0)) (.a (.t 3))))) (.a (.bool false))) (.b (.bin .eql (.t 0) (.t 1)) (.u (.ld 1 false (.t 0)) (.u (.fldA 3 3 (.t 0)) (.a (.t 2)))) (.u (.ld 1 false (.t 0)) (.u (.fldA 3 3 (.t 0)) (.a (.t 3))))) (.a (.bool false))) (.b (.bin .eql (.t 0) (.t 1)) (.u (.ld 1 false (.t 0)) (.u (.fldA 4 4 (.t 0)) (.a (.t 2)))) (.u (.ld 1 false (.t 0)) (.u (.fldA 4 4 (.t 0)) (.a (.t 3))))) (.a (.bool false))) (.call 28 (.cons (.u (.ld 1 false (.t 0)) (.u (.fldA 5 5 (.t 0)) (.a (.t 2)))) (.cons (.u (.ld 1 false (.t 0)) (.u (.fldA 5 5 (.t 0)) (.a (.t 3)))) .nil))) (.a (.bool false))))] [])
 (.ret))
theorem lf97 : ir97.lift [28] = some lt97 := by kernel_rfl
def lt98_l0 : S2 := .seq (.seq (.rg [] [(0, (.a (.t 0))), (1, (.a (.t 1))), (5, (.a (.t 5))), (14, (.b (.bin .lss (.t 0) (.t 1)) (.a (.t 5)) (.u (.lenL (.t 0)) (.a (.t 0)))))] [])
 (.cond (.t 14) (.skip) (.exit 0)))
 (.seq (.block 1 (.seq (.rg [] [(0, (.a (.t 0))), (1, (.a (.t 1))), (5, (.a (.t 5))), (25, (.b (.bin .neq (.t 0) (.t 1)) (.u (.ld 1 false (.t 0)) (.b (.idxA 1 (.t 0) (.t 1)) (.a (.t 0)) (.a (.t 5)))) (.u (.ld 1 false (.t 0)) (.b (.idxA 1 (.t 0) (.t 1)) (.a (.t 1)) (.a (.t 5))))))] [])
 (.cond (.t 25) (.seq (.rg [] [(4, (.a (.bool false)))] [])
 (.ret)) (.skip))))
 (.rg [] [(0, (.a (.t 0))), (1, (.a (.t 1))), (5, (.b (.bin .add (.t 0) (.t 1)) (.a (.t 5)) (.a (.int .i64 1))))] []))
def lt98 : S2 := .seq (.rg [] [(0, (.a (.t 0))), (1, (.a (.t 1)))] [])
 (.seq (.seq (.rg [] [(0, (.a (.t 0))), (1, (.a (.t 1))), (10, (.b (.bin .neq (.t 0) (.t 1)) (.u (.lenL (.t 0)) (.a (.t 0))) (.u (.lenL (.t 0)) (.a (.t 1)))))] [])
 (.cond (.t 10) (.seq (.rg [] [(4, (.a (.bool false)))] [])
 (.ret)) (.skip)))
 (.seq (.seq (.rg [] [(0, (.a (.t 0))), (1, (.a (.t 1))), (5, (.a (.int .i64 0)))] [])
 (.block 0 (.loop [0, 1, 5] lt98_l0)))
 (.seq (.rg [] [(4, (.a (.bool true)))] [])
 (.ret))))
theorem lf98 : ir98.lift [] = some lt98 := by kernel_rfl
end Go.Proofs.YtanpgmgkmfckaaaGreatDoor
/- Further equations of folded expressions; loops that count. Over any program; no condition. -/
namespace Go.Ab
open Go
section
variable (T : Tab) (sl : Slots) (ob : Objs) (x y : E) (n z : Nat) (b : Bool) (ty : KT)
@[simp] theorem v_eqD : E.val T sl ob (.b (.eqD ty b (.t 0) (.t 1)) x y) = eqDV b (x.val T sl ob) (y.val T sl ob) := by simp [E.val]
@[simp] theorem o_eqD : E.ok T sl ob (.b (.eqD ty b (.t 0) (.t 1)) x y) = (x.ok T sl ob ∧ y.ok T sl ob ∧ eqDS ty (x.val T sl ob) (y.val T sl ob)) := by simp [E.ok]
end
end Go.Ab
