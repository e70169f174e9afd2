/- The abstract statements that stand for the code of these functions, written by a program from the translation; that they do is checked by the kernel. No condition. -/
import Derived.Test.YtlkpnkkgkjkmbaaDoorAb24
import Derived.Test.YtlkpnkkgkjkmbaaDoorProg
import Derived.KernelRfl
namespace Go.Proofs.YtlkpnkkgkjkmbaaDoor
open Go Go.Ab
set_option maxRecDepth 100000
/- testamur.testamurlaw09.LexSpec -/
def ir3 : S := .seq (.rg [] [.op (some 2) (.c (.mv (.bool false)))] [0] [])
 (.seq (.seq (.rg [] [.op (some 9) (.pcall 11 []),
   .op (some 10) (.c (.not (.t 9)))] [0, 10] [])
 (.cond (.t 10) (.seq (.rg [] [.op (some 2) (.c (.mv (.bool false)))] [2] [])
 (.ret)) (.skip)))
 (.seq (.seq (.rg [] [.op (some 11) (.c (.mv (.t 0))),
   .op (some 12) (.c (.lenS (.t 11))),
   .op (some 13) (.c (.bin .gtr (.t 12) (.int .i64 70000)))] [0, 13] [])
 (.cond (.t 13) (.seq (.rg [] [.op (some 2) (.c (.mv (.bool true)))] [2] [])
 (.ret)) (.skip)))
 (.seq (.rg [] [.op (some 15) (.c (.mv (.t 0))),
   .op (some 16) (.pcall 12 [(.t 15)]),
   .op (some 14) (.c (.mv (.t 16))),
   .op (some 17) (.c (.ext (.t 14) 0)),
   .op (some 18) (.c (.ext (.t 14) 1)),
   .op (some 19) (.c (.ext (.t 14) 2)),
   .op (some 3) (.c (.mv (.t 17))),
   .op (some 4) (.c (.mv (.t 18))),
   .op (some 5) (.c (.mv (.t 19)))] [0, 3, 4, 5] [])
 (.seq (.rg [] [.op (some 21) (.c (.mv (.t 0))),
   .op (some 22) (.pcall 13 [(.t 21)]),
   .op (some 20) (.c (.mv (.t 22))),
   .op (some 23) (.c (.ext (.t 20) 0)),
   .op (some 24) (.c (.ext (.t 20) 1)),
   .op (some 25) (.c (.ext (.t 20) 2)),
   .op (some 6) (.c (.mv (.t 23))),
   .op (some 7) (.c (.mv (.t 24))),
   .op (some 8) (.c (.mv (.t 25)))] [3, 4, 5, 6, 7, 8] [])
 (.seq (.rg [] [.op (some 26) (.c (.mv (.t 3))),
   .op (some 27) (.c (.mv (.t 6))),
   .op (some 28) (.pcall 14 [(.t 26), (.t 27)]),
   .op (some 29) (.c (.mv (.t 28))),
   .gop 29 true (some 30) (.c (.mv (.t 4))),
   .gop 29 true (some 31) (.c (.mv (.t 7))),
   .gop 29 true (some 32) (.c (.bin .eql (.t 30) (.t 31))),
   .op (some 33) (.c (.pick (.t 29) (.t 32) (.bool false))),
   .op (some 34) (.c (.mv (.t 33))),
   .gop 34 true (some 35) (.c (.mv (.t 5))),
   .gop 34 true (some 36) (.c (.mv (.t 8))),
   .gop 34 true (some 37) (.c (.bin .eql (.t 35) (.t 36))),
   .op (some 38) (.c (.pick (.t 34) (.t 37) (.bool false))),
   .op (some 2) (.c (.mv (.t 38)))] [2] [])
 (.ret))))))
theorem ok3 : fnOk Tryd.prog 3 1 ir3 [.t 2] = true := by kernel_rfl
/- testamur.testamurlaw09.LexTextSpec -/
def ir4 : S := .seq (.rg [] [.op (some 6) (.c (.mv (.bool false)))] [0, 1, 2] [])
 (.seq (.seq (.rg [] [.op (some 11) (.pcall 11 []),
   .op (some 12) (.c (.not (.t 11)))] [0, 1, 2, 12] [])
 (.cond (.t 12) (.seq (.rg [] [.op (some 6) (.c (.mv (.bool false)))] [6] [])
 (.ret)) (.skip)))
 (.seq (.seq (.rg [] [.op (some 13) (.c (.mv (.t 0))),
   .op (some 14) (.pcall 15 [(.t 13)]),
   .op (some 15) (.c (.not (.t 14))),
   .op (some 16) (.c (.mv (.t 15))),
   .gop 16 false (some 17) (.c (.mv (.t 1))),
   .gop 16 false (some 18) (.pcall 15 [(.t 17)]),
   .gop 16 false (some 19) (.c (.not (.t 18))),
   .op (some 20) (.c (.pick (.t 16) (.bool true) (.t 19))),
   .op (some 21) (.c (.mv (.t 20))),
   .gop 21 false (some 22) (.c (.mv (.t 2))),
   .gop 21 false (some 23) (.c (.lenS (.t 22))),
   .gop 21 false (some 24) (.c (.bin .gtr (.t 23) (.int .i64 1000))),
   .op (some 25) (.c (.pick (.t 21) (.bool true) (.t 24)))] [0, 1, 2, 25] [])
 (.cond (.t 25) (.seq (.rg [] [.op (some 6) (.c (.mv (.bool true)))] [6] [])
 (.ret)) (.skip)))
 (.seq (.rg [] [.op (some 27) (.c (.mv (.t 0))),
   .op (some 28) (.pcall 16 [(.t 27)]),
   .op (some 26) (.c (.mv (.t 28))),
   .op (some 29) (.c (.ext (.t 26) 0)),
   .op (some 30) (.c (.ext (.t 26) 1)),
   .op (some 7) (.c (.mv (.t 29))),
   .op (some 8) (.c (.mv (.t 30)))] [0, 1, 2, 7, 8] [])
 (.seq (.rg [] [.op (some 32) (.c (.mv (.t 0))),
   .op (some 33) (.pcall 17 [(.t 32)]),
   .op (some 31) (.c (.mv (.t 33))),
   .op (some 34) (.c (.ext (.t 31) 0)),
   .op (some 35) (.c (.ext (.t 31) 1)),
   .op (some 9) (.c (.mv (.t 34))),
   .op (some 10) (.c (.mv (.t 35)))] [0, 1, 2, 7, 8, 9, 10] [])
 (.seq (.rg [] [.op (some 36) (.c (.mv (.t 7))),
   .op (some 37) (.c (.mv (.t 9))),
   .op (some 38) (.c (.bin .eql (.t 36) (.t 37))),
   .op (some 39) (.c (.mv (.t 38))),
   .gop 39 true (some 40) (.c (.mv (.t 8))),
   .gop 39 true (some 41) (.c (.mv (.t 10))),
   .gop 39 true (some 42) (.c (.bin .eql (.t 40) (.t 41))),
   .op (some 43) (.c (.pick (.t 39) (.t 42) (.bool false))),
   .op (some 44) (.c (.mv (.t 43))),
   .gop 44 true (some 45) (.c (.mv (.t 0))),
   .gop 44 true (some 46) (.c (.mv (.t 1))),
   .gop 44 true (some 47) (.pcall 18 [(.t 45), (.t 46)]),
   .gop 44 true (some 48) (.c (.mv (.t 0))),
   .gop 44 true (some 49) (.c (.mv (.t 1))),
   .gop 44 true (some 50) (.pcall 19 [(.t 48), (.t 49)]),
   .gop 44 true (some 51) (.c (.beq true (.t 47) (.t 50))),
   .op (some 52) (.c (.pick (.t 44) (.t 51) (.bool false))),
   .op (some 53) (.c (.mv (.t 52))),
   .gop 53 true (some 54) (.c (.mv (.t 0))),
   .gop 53 true (some 55) (.c (.mv (.t 0))),
   .gop 53 true (some 56) (.pcall 18 [(.t 54), (.t 55)]),
   .op (some 57) (.c (.pick (.t 53) (.t 56) (.bool false))),
   .op (some 58) (.c (.mv (.t 57))),
   .gop 58 true (some 59) (.c (.mv (.t 2))),
   .gop 58 true (some 60) (.pcall 20 [(.t 59)]),
   .gop 58 true (some 61) (.c (.mv (.t 2))),
   .gop 58 true (some 62) (.pcall 21 [(.t 61)]),
   .gop 58 true (some 63) (.c (.beq true (.t 60) (.t 62))),
   .op (some 64) (.c (.pick (.t 58) (.t 63) (.bool false))),
   .op (some 6) (.c (.mv (.t 64)))] [6] [])
 (.ret))))))
theorem ok4 : fnOk Tryd.prog 4 3 ir4 [.t 6] = true := by kernel_rfl
/- testamur.testamurlaw09.LexBack -/
def ir5_s0 : S := .seq (.rg [] [.op (some 54) (.c (.mv (.t 1))),
   .op (some 55) (.pcall 12 [(.t 54)]),
   .op (some 53) (.c (.mv (.t 55))),
   .op (some 56) (.c (.ext (.t 53) 0)),
   .op (some 57) (.c (.ext (.t 53) 1)),
   .op (some 58) (.c (.ext (.t 53) 2)),
   .op (some 10) (.c (.mv (.t 56))),
   .op (some 11) (.c (.mv (.t 57))),
   .op (some 12) (.c (.mv (.t 58)))] [10, 12] [])
 (.seq (.seq (.rg [] [.op (some 59) (.c (.mv (.t 12))),
   .op (some 60) (.c (.bin .neq (.t 59) (.int .i64 0)))] [10, 60] [])
 (.cond (.t 60) (.seq (.rg [] [.op (some 61) (.c (.mv (.t 10))),
   .op (some 62) (.c (.lenL (.t 61))),
   .op (some 63) (.c (.bin .eql (.t 62) (.int .i64 0))),
   .op (some 4) (.c (.mv (.t 63)))] [4] [])
 (.ret)) (.skip)))
 (.seq (.rg [] [.op (some 65) (.c (.mv (.t 10))),
   .op (some 66) (.pcall 16 [(.t 65)]),
   .op (some 64) (.c (.mv (.t 66))),
   .op (some 67) (.c (.ext (.t 64) 0)),
   .op (some 68) (.c (.ext (.t 64) 1)),
   .op (some 13) (.c (.mv (.t 67))),
   .op (some 14) (.c (.mv (.t 68)))] [10, 13, 14] [])
 (.seq (.rg [] [.op (some 70) (.c (.mv (.t 13))),
   .op (some 71) (.pcall 12 [(.t 70)]),
   .op (some 69) (.c (.mv (.t 71))),
   .op (some 72) (.c (.ext (.t 69) 0)),
   .op (some 73) (.c (.ext (.t 69) 1)),
   .op (some 74) (.c (.ext (.t 69) 2)),
   .op (some 15) (.c (.mv (.t 72))),
   .op (some 16) (.c (.mv (.t 73))),
   .op (some 17) (.c (.mv (.t 74)))] [10, 14, 15, 17] [])
 (.seq (.rg [] [.op (some 75) (.c (.mv (.t 14))),
   .op (some 76) (.c (.bin .eql (.t 75) (.int .i64 0))),
   .op (some 77) (.c (.mv (.t 76))),
   .gop 77 true (some 78) (.c (.mv (.t 17))),
   .gop 77 true (some 79) (.c (.bin .eql (.t 78) (.int .i64 0))),
   .op (some 80) (.c (.pick (.t 77) (.t 79) (.bool false))),
   .op (some 81) (.c (.mv (.t 80))),
   .gop 81 true (some 82) (.c (.mv (.t 10))),
   .gop 81 true (some 83) (.c (.mv (.t 15))),
   .gop 81 true (some 84) (.pcall 18 [(.t 82), (.t 83)]),
   .op (some 85) (.c (.pick (.t 81) (.t 84) (.bool false))),
   .op (some 4) (.c (.mv (.t 85)))] [4] [])
 (.ret)))))
def ir5 : S := .seq (.rg [] [.op (some 4) (.c (.mv (.bool false)))] [0, 1] [])
 (.seq (.seq (.rg [] [.op (some 18) (.pcall 11 []),
   .op (some 19) (.c (.not (.t 18)))] [0, 1, 19] [])
 (.cond (.t 19) (.seq (.rg [] [.op (some 4) (.c (.mv (.bool false)))] [4] [])
 (.ret)) (.skip)))
 (.seq (.seq (.rg [] [.op (some 20) (.c (.mv (.t 0))),
   .op (some 21) (.pcall 15 [(.t 20)]),
   .op (some 22) (.c (.not (.t 21))),
   .op (some 23) (.c (.mv (.t 22))),
   .gop 23 false (some 24) (.c (.mv (.t 1))),
   .gop 23 false (some 25) (.c (.lenS (.t 24))),
   .gop 23 false (some 26) (.c (.bin .gtr (.t 25) (.int .i64 3000))),
   .op (some 27) (.c (.pick (.t 23) (.bool true) (.t 26)))] [0, 1, 27] [])
 (.cond (.t 27) (.seq (.rg [] [.op (some 4) (.c (.mv (.bool true)))] [4] [])
 (.ret)) (.skip)))
 (.seq (.rg [] [.op (some 29) (.c (.mv (.t 0))),
   .op (some 30) (.pcall 16 [(.t 29)]),
   .op (some 28) (.c (.mv (.t 30))),
   .op (some 31) (.c (.ext (.t 28) 0)),
   .op (some 32) (.c (.ext (.t 28) 1)),
   .op (some 5) (.c (.mv (.t 31))),
   .op (some 6) (.c (.mv (.t 32)))] [0, 1, 5, 6] [])
 (.seq (.seq (.rg [] [.op (some 33) (.c (.mv (.t 6))),
   .op (some 34) (.c (.bin .eql (.t 33) (.int .i64 0)))] [0, 1, 5, 34] [])
 (.cond (.t 34) (.seq (.rg [] [.op (some 36) (.c (.mv (.t 5))),
   .op (some 37) (.pcall 12 [(.t 36)]),
   .op (some 35) (.c (.mv (.t 37))),
   .op (some 38) (.c (.ext (.t 35) 0)),
   .op (some 39) (.c (.ext (.t 35) 1)),
   .op (some 40) (.c (.ext (.t 35) 2)),
   .op (some 7) (.c (.mv (.t 38))),
   .op (some 8) (.c (.mv (.t 39))),
   .op (some 9) (.c (.mv (.t 40)))] [0, 1, 7, 8, 9] [])
 (.seq (.rg [] [.op (some 41) (.c (.mv (.t 9))),
   .op (some 42) (.c (.bin .neq (.t 41) (.int .i64 0))),
   .op (some 43) (.c (.mv (.t 42))),
   .gop 43 false (some 44) (.c (.mv (.t 8))),
   .gop 43 false (some 45) (.c (.bin .neq (.t 44) (.int .i64 0))),
   .op (some 46) (.c (.pick (.t 43) (.bool true) (.t 45))),
   .op (some 47) (.c (.mv (.t 46))),
   .gop 47 false (some 48) (.c (.mv (.t 0))),
   .gop 47 false (some 49) (.c (.mv (.t 7))),
   .gop 47 false (some 50) (.pcall 18 [(.t 48), (.t 49)]),
   .gop 47 false (some 51) (.c (.not (.t 50))),
   .op (some 52) (.c (.pick (.t 47) (.bool true) (.t 51)))] [1, 52] [])
 (.cond (.t 52) (.seq (.rg [] [.op (some 4) (.c (.mv (.bool false)))] [4] [])
 (.ret)) (.skip)))) (.skip)))
 (ir5_s0)))))
theorem ok5 : fnOk Tryd.prog 5 2 ir5 [.t 4] = true := by kernel_rfl
/- testamur.testamurlaw09.LexPlaces -/
def ir6_s0 : S := .rg [] [.op (some 31) (.c (.mv (.t 7))),
   .op (some 32) (.c (.bin .add (.t 31) (.int .i64 1))),
   .op (some 7) (.c (.mv (.t 32)))] [0, 3, 6, 7] []
def ir6_l1 : S := .seq (.seq (.rg [] [.op (some 53) (.c (.mv (.t 6))),
   .op (some 54) (.c (.mv (.t 8))),
   .op (some 55) (.c (.bin .lss (.t 53) (.t 54)))] [0, 3, 6, 7, 8, 9, 55] [])
 (.cond (.t 55) (.skip) (.exit 2)))
 (.seq (.block 3 (.seq (.rg [] [.op (some 58) (.c (.mv (.t 0))),
   .op (some 59) (.c (.mv (.t 6))),
   .op (some 60) (.c (.idx (.t 58) (.t 59))),
   .op (some 61) (.c (.bin .neq (.t 60) (.int .u8 10))),
   .op (some 62) (.c (.mv (.t 61))),
   .gop 62 true (some 63) (.c (.mv (.t 9))),
   .gop 62 true (some 64) (.c (.mv (.t 63))),
   .gop 64 false (some 65) (.c (.mv (.t 0))),
   .gop 64 false (some 66) (.c (.mv (.t 6))),
   .gop 64 false (some 67) (.c (.idx (.t 65) (.t 66))),
   .gop 64 false (some 68) (.c (.bin .eql (.t 67) (.int .u8 47))),
   .gop 64 false (some 69) (.c (.mv (.t 68))),
   .gop 69 true (some 70) (.c (.mv (.t 6))),
   .gop 69 true (some 71) (.c (.bin .add (.t 70) (.int .i64 1))),
   .gop 69 true (some 72) (.c (.mv (.t 8))),
   .gop 69 true (some 73) (.c (.bin .lss (.t 71) (.t 72))),
   .gop 64 false (some 74) (.c (.pick (.t 69) (.t 73) (.bool false))),
   .gop 64 false (some 75) (.c (.mv (.t 74))),
   .gop 75 true (some 76) (.c (.mv (.t 0))),
   .gop 75 true (some 77) (.c (.mv (.t 6))),
   .gop 75 true (some 78) (.c (.bin .add (.t 77) (.int .i64 1))),
   .gop 75 true (some 79) (.c (.idx (.t 76) (.t 78))),
   .gop 75 true (some 80) (.c (.bin .eql (.t 79) (.int .u8 47))),
   .gop 64 false (some 81) (.c (.pick (.t 75) (.t 80) (.bool false))),
   .gop 62 true (some 82) (.c (.pick (.t 64) (.bool true) (.t 81))),
   .op (some 83) (.c (.pick (.t 62) (.t 82) (.bool false))),
   .op (some 9) (.c (.mv (.t 83)))] [0, 3, 6, 7, 8, 9] [])
 (.seq (.rg [] [.op (some 84) (.c (.mv (.t 9))),
   .op (some 85) (.c (.not (.t 84))),
   .op (some 86) (.c (.mv (.t 85))),
   .gop 86 true (some 87) (.c (.mv (.t 0))),
   .gop 86 true (some 88) (.c (.mv (.t 6))),
   .gop 86 true (some 89) (.c (.idx (.t 87) (.t 88))),
   .gop 86 true (some 90) (.pcall 22 [(.t 89)]),
   .gop 86 true (some 91) (.c (.not (.t 90))),
   .op (some 92) (.c (.pick (.t 86) (.t 91) (.bool false)))] [0, 3, 6, 7, 8, 9, 92] [])
 (.cond (.t 92) (.seq (.rg [] [.op (some 2) (.c (.mv (.bool false)))] [2] [])
 (.ret)) (.skip)))))
 (.rg [] [.op (some 56) (.c (.mv (.t 6))),
   .op (some 57) (.c (.bin .add (.t 56) (.int .i64 1))),
   .op (some 6) (.c (.mv (.t 57)))] [0, 3, 6, 7, 8, 9] []))
def ir6_s2 : S := .seq (.seq (.rg [] [.op (some 44) (.c (.mv (.t 8))),
   .op (some 45) (.c (.mv (.t 6))),
   .op (some 46) (.c (.bin .lss (.t 44) (.t 45))),
   .op (some 47) (.c (.mv (.t 46))),
   .gop 47 false (some 48) (.c (.mv (.t 8))),
   .gop 47 false (some 49) (.c (.mv (.t 0))),
   .gop 47 false (some 50) (.c (.lenS (.t 49))),
   .gop 47 false (some 51) (.c (.bin .gtr (.t 48) (.t 50))),
   .op (some 52) (.c (.pick (.t 47) (.bool true) (.t 51)))] [0, 3, 6, 7, 8, 52] [])
 (.cond (.t 52) (.seq (.rg [] [.op (some 2) (.c (.mv (.bool false)))] [2] [])
 (.ret)) (.skip)))
 (.seq (.rg [] [.op (some 9) (.c (.mv (.bool false)))] [0, 3, 6, 7, 8, 9] [])
 (.seq (.block 2 (.loop [0, 3, 6, 7, 8, 9] ir6_l1))
 (.seq (.seq (.rg [] [.op (some 93) (.c (.mv (.t 7))),
   .op (some 94) (.c (.mv (.t 3))),
   .op (some 95) (.c (.lenL (.t 94))),
   .op (some 96) (.c (.bin .eql (.t 93) (.t 95)))] [0, 3, 6, 7, 9, 96] [])
 (.cond (.t 96) (.exit 0) (.skip)))
 (.seq (.rg [] [.op (some 97) (.c (.mv (.t 3))),
   .op (some 98) (.c (.mv (.t 7))),
   .op (some 99) (.c (.idxA 4 (.t 97) (.t 98))),
   .op (some 100) (.c (.ld 4 true (.t 99))),
   .op (some 101) (.pcall 23 [(.t 100)]),
   .op (some 10) (.c (.mv (.t 101)))] [0, 3, 6, 7, 9, 10] [])
 (.seq (.seq (.rg [] [.op (some 102) (.c (.mv (.t 9))),
   .op (some 103) (.c (.mv (.t 102))),
   .gop 103 false (some 104) (.c (.mv (.t 10))),
   .gop 103 false (some 105) (.c (.lenS (.t 104))),
   .gop 103 false (some 106) (.c (.bin .eql (.t 105) (.int .i64 0))),
   .op (some 107) (.c (.pick (.t 103) (.bool true) (.t 106))),
   .op (some 108) (.c (.mv (.t 107))),
   .gop 108 false (some 109) (.c (.mv (.t 6))),
   .gop 108 false (some 110) (.c (.mv (.t 10))),
   .gop 108 false (some 111) (.c (.lenS (.t 110))),
   .gop 108 false (some 112) (.c (.bin .add (.t 109) (.t 111))),
   .gop 108 false (some 113) (.c (.mv (.t 0))),
   .gop 108 false (some 114) (.c (.lenS (.t 113))),
   .gop 108 false (some 115) (.c (.bin .gtr (.t 112) (.t 114))),
   .op (some 116) (.c (.pick (.t 108) (.bool true) (.t 115))),
   .op (some 117) (.c (.mv (.t 116))),
   .gop 117 false (some 118) (.c (.mv (.t 0))),
   .gop 117 false (some 119) (.c (.mv (.t 6))),
   .gop 117 false (some 120) (.c (.mv (.t 6))),
   .gop 117 false (some 121) (.c (.mv (.t 10))),
   .gop 117 false (some 122) (.c (.lenS (.t 121))),
   .gop 117 false (some 123) (.c (.bin .add (.t 120) (.t 122))),
   .gop 117 false (some 124) (.c (.slcS (.t 118) (some (.t 119)) (some (.t 123)))),
   .gop 117 false (some 125) (.c (.mv (.t 10))),
   .gop 117 false (some 126) (.c (.bin .neq (.t 124) (.t 125))),
   .op (some 127) (.c (.pick (.t 117) (.bool true) (.t 126)))] [0, 3, 6, 7, 10, 127] [])
 (.cond (.t 127) (.seq (.rg [] [.op (some 2) (.c (.mv (.bool false)))] [2] [])
 (.ret)) (.skip)))
 (.rg [] [.op (some 128) (.c (.mv (.t 6))),
   .op (some 129) (.c (.mv (.t 10))),
   .op (some 130) (.c (.lenS (.t 129))),
   .op (some 131) (.c (.bin .add (.t 128) (.t 130))),
   .op (some 6) (.c (.mv (.t 131)))] [0, 3, 6, 7] []))))))
def ir6_l3 : S := .seq (.seq (.rg [] [.op (some 27) (.c (.mv (.t 7))),
   .op (some 28) (.c (.mv (.t 3))),
   .op (some 29) (.c (.lenL (.t 28))),
   .op (some 30) (.c (.bin .leq (.t 27) (.t 29)))] [0, 3, 6, 7, 30] [])
 (.cond (.t 30) (.skip) (.exit 0)))
 (.seq (.block 1 (.seq (.rg [] [.op (some 33) (.c (.mv (.t 0))),
   .op (some 34) (.c (.lenS (.t 33))),
   .op (some 8) (.c (.mv (.t 34)))] [0, 3, 6, 7, 8] [])
 (.seq (.seq (.rg [] [.op (some 35) (.c (.mv (.t 7))),
   .op (some 36) (.c (.mv (.t 3))),
   .op (some 37) (.c (.lenL (.t 36))),
   .op (some 38) (.c (.bin .lss (.t 35) (.t 37)))] [0, 3, 6, 7, 8, 38] [])
 (.cond (.t 38) (.rg [] [.op (some 39) (.c (.mv (.t 3))),
   .op (some 40) (.c (.mv (.t 7))),
   .op (some 41) (.c (.idxA 4 (.t 39) (.t 40))),
   .op (some 42) (.c (.fldA 3 3 (.t 41))),
   .op (some 43) (.c (.ld 1 false (.t 42))),
   .op (some 8) (.c (.mv (.t 43)))] [0, 3, 6, 7, 8] []) (.skip)))
 (ir6_s2))))
 (ir6_s0))
def ir6 : S := .seq (.rg [] [.op (some 2) (.c (.mv (.bool false)))] [0] [])
 (.seq (.seq (.rg [] [.op (some 11) (.pcall 11 []),
   .op (some 12) (.c (.not (.t 11)))] [0, 12] [])
 (.cond (.t 12) (.seq (.rg [] [.op (some 2) (.c (.mv (.bool false)))] [2] [])
 (.ret)) (.skip)))
 (.seq (.seq (.rg [] [.op (some 13) (.c (.mv (.t 0))),
   .op (some 14) (.c (.lenS (.t 13))),
   .op (some 15) (.c (.bin .gtr (.t 14) (.int .i64 3000)))] [0, 15] [])
 (.cond (.t 15) (.seq (.rg [] [.op (some 2) (.c (.mv (.bool true)))] [2] [])
 (.ret)) (.skip)))
 (.seq (.rg [] [.op (some 17) (.c (.mv (.t 0))),
   .op (some 18) (.pcall 12 [(.t 17)]),
   .op (some 16) (.c (.mv (.t 18))),
   .op (some 19) (.c (.ext (.t 16) 0)),
   .op (some 20) (.c (.ext (.t 16) 1)),
   .op (some 21) (.c (.ext (.t 16) 2)),
   .op (some 3) (.c (.mv (.t 19))),
   .op (some 4) (.c (.mv (.t 20))),
   .op (some 5) (.c (.mv (.t 21)))] [0, 3, 5] [])
 (.seq (.seq (.rg [] [.op (some 22) (.c (.mv (.t 5))),
   .op (some 23) (.c (.bin .neq (.t 22) (.int .i64 0)))] [0, 3, 23] [])
 (.cond (.t 23) (.seq (.rg [] [.op (some 24) (.c (.mv (.t 3))),
   .op (some 25) (.c (.lenL (.t 24))),
   .op (some 26) (.c (.bin .eql (.t 25) (.int .i64 0))),
   .op (some 2) (.c (.mv (.t 26)))] [2] [])
 (.ret)) (.skip)))
 (.seq (.rg [] [.op (some 6) (.c (.mv (.int .i64 0)))] [0, 3, 6] [])
 (.seq (.seq (.rg [] [.op (some 7) (.c (.mv (.int .i64 0)))] [0, 3, 6, 7] [])
 (.block 0 (.loop [0, 3, 6, 7] ir6_l3)))
 (.seq (.rg [] [.op (some 2) (.c (.mv (.bool true)))] [2] [])
 (.ret))))))))
theorem ok6 : fnOk Tryd.prog 6 1 ir6 [.t 2] = true := by kernel_rfl
/- testamur.testamurlaw09.LexJoined -/
def ir7_l0 : S := .seq (.rg [] [.op (some 88) (.c (.bin .lss (.t 87) (.t 86)))] [0, 11, 12, 13, 14, 85, 86, 87, 88] [])
 (.seq (.cond (.t 88) (.skip) (.exit 1))
 (.seq (.block 2 (.seq (.rg [] [.op (some 89) (.c (.idxA 4 (.t 85) (.t 87))),
   .op (some 90) (.c (.ld 4 true (.t 89))),
   .op (some 16) (.alloc 35 (.agg [.int .i64 0, .str [], .int .i64 0, .int .i64 0])),
   .op none (.st 4 (.t 16) (.t 90))] [0, 11, 12, 13, 14, 16, 85, 86, 87] [])
 (.seq (.rg [] [.op (some 91) (.c (.fldA 3 3 (.t 16))),
   .op (some 92) (.c (.ld 1 false (.t 91))),
   .op (some 93) (.c (.mv (.t 0))),
   .op (some 94) (.c (.lenS (.t 93))),
   .op (some 95) (.c (.bin .add (.t 94) (.int .i64 1))),
   .op (some 96) (.c (.bin .add (.t 92) (.t 95))),
   .op (some 97) (.c (.fldA 3 3 (.t 16))),
   .op none (.st 1 (.t 97) (.t 96))] [0, 11, 12, 13, 14, 16, 85, 86, 87] [])
 (.rg [] [.op (some 98) (.c (.mv (.t 14))),
   .op (some 99) (.c (.ld 4 true (.t 16))),
   .op (some 100) (.bls 4 [.agg [.int .i64 0, .str [], .int .i64 0, .int .i64 0]] [(0, (.t 99))]),
   .op (some 101) (.app 35 4 40 (.t 98) (.t 100)),
   .op (some 14) (.c (.mv (.t 101)))] [0, 11, 12, 13, 14, 85, 86, 87] []))))
 (.rg [] [.op (some 102) (.c (.bin .add (.t 87) (.int .i64 1))),
   .op (some 87) (.c (.mv (.t 102)))] [0, 11, 12, 13, 14, 85, 86, 87] [])))
def ir7 : S := .seq (.rg [] [.op (some 4) (.c (.mv (.bool false)))] [0, 1] [])
 (.seq (.seq (.rg [] [.op (some 17) (.pcall 11 []),
   .op (some 18) (.c (.not (.t 17)))] [0, 1, 18] [])
 (.cond (.t 18) (.seq (.rg [] [.op (some 4) (.c (.mv (.bool false)))] [4] [])
 (.ret)) (.skip)))
 (.seq (.seq (.rg [] [.op (some 19) (.c (.mv (.t 0))),
   .op (some 20) (.c (.lenS (.t 19))),
   .op (some 21) (.c (.mv (.t 1))),
   .op (some 22) (.c (.lenS (.t 21))),
   .op (some 23) (.c (.bin .add (.t 20) (.t 22))),
   .op (some 24) (.c (.bin .gtr (.t 23) (.int .i64 3000)))] [0, 1, 24] [])
 (.cond (.t 24) (.seq (.rg [] [.op (some 4) (.c (.mv (.bool true)))] [4] [])
 (.ret)) (.skip)))
 (.seq (.rg [] [.op (some 26) (.c (.mv (.t 0))),
   .op (some 27) (.pcall 12 [(.t 26)]),
   .op (some 25) (.c (.mv (.t 27))),
   .op (some 28) (.c (.ext (.t 25) 0)),
   .op (some 29) (.c (.ext (.t 25) 1)),
   .op (some 30) (.c (.ext (.t 25) 2)),
   .op (some 5) (.c (.mv (.t 28))),
   .op (some 6) (.c (.mv (.t 29))),
   .op (some 7) (.c (.mv (.t 30)))] [0, 1, 5, 6, 7] [])
 (.seq (.rg [] [.op (some 32) (.c (.mv (.t 1))),
   .op (some 33) (.pcall 12 [(.t 32)]),
   .op (some 31) (.c (.mv (.t 33))),
   .op (some 34) (.c (.ext (.t 31) 0)),
   .op (some 35) (.c (.ext (.t 31) 1)),
   .op (some 36) (.c (.ext (.t 31) 2)),
   .op (some 8) (.c (.mv (.t 34))),
   .op (some 9) (.c (.mv (.t 35))),
   .op (some 10) (.c (.mv (.t 36)))] [0, 1, 5, 6, 7, 8, 9, 10] [])
 (.seq (.rg [] [.op (some 38) (.c (.mv (.t 0))),
   .op (some 39) (.c (.bin .add (.t 38) (.str [10]))),
   .op (some 40) (.c (.mv (.t 1))),
   .op (some 41) (.c (.bin .add (.t 39) (.t 40))),
   .op (some 42) (.pcall 12 [(.t 41)]),
   .op (some 37) (.c (.mv (.t 42))),
   .op (some 43) (.c (.ext (.t 37) 0)),
   .op (some 44) (.c (.ext (.t 37) 1)),
   .op (some 45) (.c (.ext (.t 37) 2)),
   .op (some 11) (.c (.mv (.t 43))),
   .op (some 12) (.c (.mv (.t 44))),
   .op (some 13) (.c (.mv (.t 45)))] [0, 5, 6, 7, 8, 9, 10, 11, 12, 13] [])
 (.seq (.block 0 (.seq (.rg [] [.op (some 47) (.c (.mv (.t 7))),
   .op (some 48) (.c (.bin .neq (.t 47) (.int .i64 0))),
   .op (some 46) (.c (.mv (.t 48)))] [0, 5, 6, 7, 8, 9, 10, 11, 12, 13, 46] [])
 (.cond (.t 46) (.seq (.rg [] [.op (some 49) (.c (.mv (.t 13))),
   .op (some 50) (.c (.mv (.t 7))),
   .op (some 51) (.c (.bin .eql (.t 49) (.t 50))),
   .op (some 52) (.c (.mv (.t 51))),
   .gop 52 true (some 53) (.c (.mv (.t 12))),
   .gop 52 true (some 54) (.c (.mv (.t 6))),
   .gop 52 true (some 55) (.c (.bin .eql (.t 53) (.t 54))),
   .op (some 56) (.c (.pick (.t 52) (.t 55) (.bool false))),
   .op (some 57) (.c (.mv (.t 56))),
   .gop 57 true (some 58) (.c (.mv (.t 11))),
   .gop 57 true (some 59) (.c (.lenL (.t 58))),
   .gop 57 true (some 60) (.c (.bin .eql (.t 59) (.int .i64 0))),
   .op (some 61) (.c (.pick (.t 57) (.t 60) (.bool false))),
   .op (some 4) (.c (.mv (.t 61)))] [4] [])
 (.ret)) (.seq (.rg [] [.op (some 63) (.c (.mv (.t 10))),
   .op (some 64) (.c (.bin .neq (.t 63) (.int .i64 0))),
   .op (some 62) (.c (.mv (.t 64)))] [0, 5, 8, 9, 10, 11, 12, 13, 62] [])
 (.cond (.t 62) (.seq (.rg [] [.op (some 65) (.c (.mv (.t 13))),
   .op (some 66) (.c (.mv (.t 10))),
   .op (some 67) (.c (.bin .eql (.t 65) (.t 66))),
   .op (some 68) (.c (.mv (.t 67))),
   .gop 68 true (some 69) (.c (.mv (.t 12))),
   .gop 68 true (some 70) (.c (.mv (.t 9))),
   .gop 68 true (some 71) (.c (.mv (.t 0))),
   .gop 68 true (some 72) (.c (.lenS (.t 71))),
   .gop 68 true (some 73) (.c (.bin .add (.t 70) (.t 72))),
   .gop 68 true (some 74) (.c (.bin .add (.t 73) (.int .i64 1))),
   .gop 68 true (some 75) (.c (.bin .eql (.t 69) (.t 74))),
   .op (some 76) (.c (.pick (.t 68) (.t 75) (.bool false))),
   .op (some 77) (.c (.mv (.t 76))),
   .gop 77 true (some 78) (.c (.mv (.t 11))),
   .gop 77 true (some 79) (.c (.lenL (.t 78))),
   .gop 77 true (some 80) (.c (.bin .eql (.t 79) (.int .i64 0))),
   .op (some 81) (.c (.pick (.t 77) (.t 80) (.bool false))),
   .op (some 4) (.c (.mv (.t 81)))] [4] [])
 (.ret)) (.skip))))))
 (.seq (.rg [] [.op (some 82) (.blo 35 4 [] []),
   .op (some 83) (.c (.mv (.t 5))),
   .op (some 84) (.app 35 4 40 (.t 82) (.t 83)),
   .op (some 14) (.c (.mv (.t 84)))] [0, 8, 11, 12, 13, 14] [])
 (.seq (.seq (.rg [] [.op (some 85) (.c (.mv (.t 8))),
   .op (some 86) (.c (.lenL (.t 85))),
   .op (some 87) (.c (.mv (.int .i64 0)))] [0, 11, 12, 13, 14, 85, 86, 87] [])
 (.block 1 (.loop [0, 11, 12, 13, 14, 85, 86, 87] ir7_l0)))
 (.seq (.rg [] [.op (some 103) (.c (.mv (.t 13))),
   .op (some 104) (.c (.bin .eql (.t 103) (.int .i64 0))),
   .op (some 105) (.c (.mv (.t 104))),
   .gop 105 true (some 106) (.c (.mv (.t 12))),
   .gop 105 true (some 107) (.c (.bin .eql (.t 106) (.int .i64 0))),
   .op (some 108) (.c (.pick (.t 105) (.t 107) (.bool false))),
   .op (some 109) (.c (.mv (.t 108))),
   .gop 109 true (some 110) (.c (.mv (.t 11))),
   .gop 109 true (some 111) (.c (.mv (.t 14))),
   .gop 109 true (some 112) (.pcall 14 [(.t 110), (.t 111)]),
   .op (some 113) (.c (.pick (.t 109) (.t 112) (.bool false))),
   .op (some 4) (.c (.mv (.t 113)))] [4] [])
 (.ret))))))))))
theorem ok7 : fnOk Tryd.prog 7 2 ir7 [.t 4] = true := by kernel_rfl
/- testamur.testamurlaw09.LexSpaces -/
def ir8_s0 : S := .rg [] [.op (some 95) (.c (.bin .add (.t 54) (.int .i64 1))),
   .op (some 54) (.c (.mv (.t 95)))] [0, 1, 9, 10, 52, 53, 54] []
def ir8_s1 : S := .rg [] [.op (some 89) (.c (.mv (.t 10))),
   .op (some 90) (.c (.mv (.t 13))),
   .op (some 91) (.c (.bin .add (.t 90) (.str [32]))),
   .op (some 92) (.c (.mv (.t 17))),
   .op (some 93) (.c (.bin .add (.t 91) (.t 92))),
   .op (some 94) (.c (.bin .add (.t 89) (.t 93))),
   .op (some 10) (.c (.mv (.t 94)))] [0, 1, 9, 10, 52, 53, 54] []
def ir8_l2 : S := .seq (.rg [] [.op (some 55) (.c (.bin .lss (.t 54) (.t 53)))] [0, 1, 9, 10, 52, 53, 54, 55] [])
 (.seq (.cond (.t 55) (.skip) (.exit 2))
 (.seq (.block 3 (.seq (.rg [] [.op (some 56) (.c (.mv (.t 54))),
   .op (some 57) (.c (.idxA 4 (.t 52) (.t 54))),
   .op (some 58) (.c (.ld 4 true (.t 57))),
   .op (some 12) (.alloc 35 (.agg [.int .i64 0, .str [], .int .i64 0, .int .i64 0])),
   .op (some 11) (.c (.mv (.t 56))),
   .op none (.st 4 (.t 12) (.t 58))] [0, 1, 9, 10, 11, 12, 52, 53, 54] [])
 (.seq (.rg [] [.op (some 60) (.c (.ld 4 true (.t 12))),
   .op (some 61) (.bls 4 [.agg [.int .i64 0, .str [], .int .i64 0, .int .i64 0]] [(0, (.t 60))]),
   .op (some 62) (.pcall 16 [(.t 61)]),
   .op (some 59) (.c (.mv (.t 62))),
   .op (some 63) (.c (.ext (.t 59) 0)),
   .op (some 64) (.c (.ext (.t 59) 1)),
   .op (some 13) (.c (.mv (.t 63))),
   .op (some 14) (.c (.mv (.t 64)))] [0, 1, 9, 10, 11, 13, 14, 52, 53, 54] [])
 (.seq (.seq (.rg [] [.op (some 65) (.c (.mv (.t 14))),
   .op (some 66) (.c (.bin .neq (.t 65) (.int .i64 0)))] [0, 1, 9, 10, 11, 13, 52, 53, 54, 66] [])
 (.cond (.t 66) (.seq (.rg [] [.op (some 68) (.c (.mv (.t 0))),
   .op (some 69) (.pcall 16 [(.t 68)]),
   .op (some 67) (.c (.mv (.t 69))),
   .op (some 70) (.c (.ext (.t 67) 0)),
   .op (some 71) (.c (.ext (.t 67) 1)),
   .op (some 15) (.c (.mv (.t 70))),
   .op (some 16) (.c (.mv (.t 71)))] [16] [])
 (.seq (.rg [] [.op (some 72) (.c (.mv (.t 16))),
   .op (some 73) (.c (.bin .eql (.t 72) (.int .i64 90))),
   .op (some 6) (.c (.mv (.t 73)))] [6] [])
 (.ret))) (.skip)))
 (.seq (.rg [] [.op (some 17) (.c (.mv (.str [32])))] [0, 1, 9, 10, 11, 13, 17, 52, 53, 54] [])
 (.seq (.seq (.rg [] [.op (some 74) (.c (.mv (.t 11))),
   .op (some 75) (.c (.mv (.t 1))),
   .op (some 76) (.c (.lenL (.t 75))),
   .op (some 77) (.c (.bin .lss (.t 74) (.t 76)))] [0, 1, 9, 10, 11, 13, 17, 52, 53, 54, 77] [])
 (.cond (.t 77) (.rg [] [.op (some 78) (.c (.mv (.t 9))),
   .op (some 79) (.c (.mv (.t 1))),
   .op (some 80) (.c (.mv (.t 11))),
   .op (some 81) (.c (.idxA 1 (.t 79) (.t 80))),
   .op (some 82) (.c (.ld 1 false (.t 81))),
   .op (some 83) (.c (.cvi .i64 (.t 82))),
   .op (some 84) (.c (.mv (.t 9))),
   .op (some 85) (.c (.lenL (.t 84))),
   .op (some 86) (.c (.bin .rem (.t 83) (.t 85))),
   .op (some 87) (.c (.idxA 1 (.t 78) (.t 86))),
   .op (some 88) (.c (.ld 1 false (.t 87))),
   .op (some 17) (.c (.mv (.t 88)))] [0, 1, 9, 10, 13, 17, 52, 53, 54] []) (.skip)))
 (ir8_s1)))))))
 (ir8_s0)))
def ir8_s3 : S := .rg [] [.op (some 35) (.c (.mv (.t 8))),
   .op (some 36) (.c (.bin .add (.t 35) (.int .i64 1))),
   .op (some 8) (.c (.mv (.t 36)))] [0, 1, 2, 7, 8] []
def ir8_l4 : S := .seq (.seq (.rg [] [.op (some 31) (.c (.mv (.t 8))),
   .op (some 32) (.c (.mv (.t 2))),
   .op (some 33) (.c (.lenS (.t 32))),
   .op (some 34) (.c (.bin .lss (.t 31) (.t 33)))] [0, 1, 2, 7, 8, 34] [])
 (.cond (.t 34) (.skip) (.exit 0)))
 (.seq (.block 1 (.seq (.rg [] [.op (some 37) (.c (.mv (.t 2))),
   .op (some 38) (.c (.mv (.t 8))),
   .op (some 39) (.c (.idx (.t 37) (.t 38))),
   .op (some 40) (.c (.bin .neq (.t 39) (.int .u8 10)))] [0, 1, 2, 7, 8, 40] [])
 (.cond (.t 40) (.rg [] [.op (some 41) (.c (.mv (.t 7))),
   .op (some 42) (.c (.mv (.t 2))),
   .op (some 43) (.c (.mv (.t 8))),
   .op (some 44) (.c (.mv (.t 8))),
   .op (some 45) (.c (.bin .add (.t 44) (.int .i64 1))),
   .op (some 46) (.c (.slcS (.t 42) (some (.t 43)) (some (.t 45)))),
   .op (some 47) (.c (.bin .add (.t 41) (.t 46))),
   .op (some 7) (.c (.mv (.t 47)))] [0, 1, 2, 7, 8] []) (.skip))))
 (ir8_s3))
def ir8 : S := .seq (.rg [] [.op (some 6) (.c (.mv (.bool false)))] [0, 1, 2] [])
 (.seq (.seq (.rg [] [.op (some 21) (.pcall 11 []),
   .op (some 22) (.c (.not (.t 21)))] [0, 1, 2, 22] [])
 (.cond (.t 22) (.seq (.rg [] [.op (some 6) (.c (.mv (.bool false)))] [6] [])
 (.ret)) (.skip)))
 (.seq (.seq (.rg [] [.op (some 23) (.c (.mv (.t 0))),
   .op (some 24) (.pcall 15 [(.t 23)]),
   .op (some 25) (.c (.not (.t 24))),
   .op (some 26) (.c (.mv (.t 25))),
   .gop 26 false (some 27) (.c (.mv (.t 2))),
   .gop 26 false (some 28) (.c (.lenS (.t 27))),
   .gop 26 false (some 29) (.c (.bin .gtr (.t 28) (.int .i64 100))),
   .op (some 30) (.c (.pick (.t 26) (.bool true) (.t 29)))] [0, 1, 2, 30] [])
 (.cond (.t 30) (.seq (.rg [] [.op (some 6) (.c (.mv (.bool true)))] [6] [])
 (.ret)) (.skip)))
 (.seq (.rg [] [.op (some 7) (.c (.mv (.str [])))] [0, 1, 2, 7] [])
 (.seq (.seq (.rg [] [.op (some 8) (.c (.mv (.int .i64 0)))] [0, 1, 2, 7, 8] [])
 (.block 0 (.loop [0, 1, 2, 7, 8] ir8_l4)))
 (.seq (.rg [] [.op (some 48) (.c (.mv (.t 7))),
   .op (some 49) (.c (.bin .add (.str [47, 47]) (.t 48))),
   .op (some 50) (.c (.bin .add (.t 49) (.str [10]))),
   .op (some 51) (.bls 1 [.str [], .str [], .str [], .str [], .str [], .str [], .str [], .str []] [(0, (.str [32])), (1, (.str [9])), (2, (.str [10])), (3, (.str [13, 10])), (4, (.str [32, 32])), (5, (.t 50)), (6, (.str [32, 47, 47, 32, 10])), (7, (.str [10, 47, 47, 10]))]),
   .op (some 9) (.c (.mv (.t 51)))] [0, 1, 9] [])
 (.seq (.rg [] [.op (some 10) (.c (.mv (.str [10])))] [0, 1, 9, 10] [])
 (.seq (.seq (.rg [] [.op (some 52) (.c (.mv (.t 0))),
   .op (some 53) (.c (.lenL (.t 52))),
   .op (some 54) (.c (.mv (.int .i64 0)))] [0, 1, 9, 10, 52, 53, 54] [])
 (.block 2 (.loop [0, 1, 9, 10, 52, 53, 54] ir8_l2)))
 (.seq (.rg [] [.op (some 97) (.c (.mv (.t 10))),
   .op (some 98) (.pcall 12 [(.t 97)]),
   .op (some 96) (.c (.mv (.t 98))),
   .op (some 99) (.c (.ext (.t 96) 0)),
   .op (some 100) (.c (.ext (.t 96) 1)),
   .op (some 101) (.c (.ext (.t 96) 2)),
   .op (some 18) (.c (.mv (.t 99))),
   .op (some 19) (.c (.mv (.t 100))),
   .op (some 20) (.c (.mv (.t 101)))] [0, 18, 19, 20] [])
 (.seq (.rg [] [.op (some 102) (.c (.mv (.t 20))),
   .op (some 103) (.c (.bin .eql (.t 102) (.int .i64 0))),
   .op (some 104) (.c (.mv (.t 103))),
   .gop 104 true (some 105) (.c (.mv (.t 19))),
   .gop 104 true (some 106) (.c (.bin .eql (.t 105) (.int .i64 0))),
   .op (some 107) (.c (.pick (.t 104) (.t 106) (.bool false))),
   .op (some 108) (.c (.mv (.t 107))),
   .gop 108 true (some 109) (.c (.mv (.t 0))),
   .gop 108 true (some 110) (.c (.mv (.t 18))),
   .gop 108 true (some 111) (.pcall 18 [(.t 109), (.t 110)]),
   .op (some 112) (.c (.pick (.t 108) (.t 111) (.bool false))),
   .op (some 6) (.c (.mv (.t 112)))] [6] [])
 (.ret))))))))))
theorem ok8 : fnOk Tryd.prog 8 3 ir8 [.t 6] = true := by kernel_rfl
/- testamur.testamurlaw09.LexWrong -/
def ir9 : S := .seq (.rg [] [.op (some 4) (.c (.mv (.bool false)))] [0, 1] [])
 (.seq (.seq (.rg [] [.op (some 17) (.pcall 11 []),
   .op (some 18) (.c (.not (.t 17)))] [0, 1, 18] [])
 (.cond (.t 18) (.seq (.rg [] [.op (some 4) (.c (.mv (.bool false)))] [4] [])
 (.ret)) (.skip)))
 (.seq (.seq (.rg [] [.op (some 19) (.c (.mv (.t 0))),
   .op (some 20) (.c (.lenS (.t 19))),
   .op (some 21) (.c (.mv (.t 1))),
   .op (some 22) (.c (.lenS (.t 21))),
   .op (some 23) (.c (.bin .add (.t 20) (.t 22))),
   .op (some 24) (.c (.bin .gtr (.t 23) (.int .i64 3000)))] [0, 1, 24] [])
 (.cond (.t 24) (.seq (.rg [] [.op (some 4) (.c (.mv (.bool true)))] [4] [])
 (.ret)) (.skip)))
 (.seq (.rg [] [.op (some 26) (.c (.mv (.t 0))),
   .op (some 27) (.pcall 12 [(.t 26)]),
   .op (some 25) (.c (.mv (.t 27))),
   .op (some 28) (.c (.ext (.t 25) 0)),
   .op (some 29) (.c (.ext (.t 25) 1)),
   .op (some 30) (.c (.ext (.t 25) 2)),
   .op (some 5) (.c (.mv (.t 28))),
   .op (some 6) (.c (.mv (.t 29))),
   .op (some 7) (.c (.mv (.t 30)))] [0, 1, 6, 7] [])
 (.seq (.seq (.rg [] [.op (some 31) (.c (.mv (.t 7))),
   .op (some 32) (.c (.bin .eql (.t 31) (.int .i64 0)))] [0, 1, 6, 7, 32] [])
 (.cond (.t 32) (.seq (.rg [] [.op (some 33) (.c (.mv (.t 6))),
   .op (some 34) (.c (.bin .eql (.t 33) (.int .i64 0))),
   .op (some 4) (.c (.mv (.t 34)))] [4] [])
 (.ret)) (.skip)))
 (.seq (.seq (.rg [] [.op (some 35) (.c (.mv (.t 7))),
   .op (some 36) (.c (.bin .neq (.t 35) (.int .i64 90))),
   .op (some 37) (.c (.mv (.t 36))),
   .gop 37 false (some 38) (.c (.mv (.t 6))),
   .gop 37 false (some 39) (.c (.bin .lss (.t 38) (.int .i64 0))),
   .op (some 40) (.c (.pick (.t 37) (.bool true) (.t 39))),
   .op (some 41) (.c (.mv (.t 40))),
   .gop 41 false (some 42) (.c (.mv (.t 6))),
   .gop 41 false (some 43) (.c (.mv (.t 0))),
   .gop 41 false (some 44) (.c (.lenS (.t 43))),
   .gop 41 false (some 45) (.c (.bin .geq (.t 42) (.t 44))),
   .op (some 46) (.c (.pick (.t 41) (.bool true) (.t 45)))] [0, 1, 6, 46] [])
 (.cond (.t 46) (.seq (.rg [] [.op (some 4) (.c (.mv (.bool false)))] [4] [])
 (.ret)) (.skip)))
 (.seq (.rg [] [.op (some 48) (.c (.mv (.t 0))),
   .op (some 49) (.c (.mv (.t 6))),
   .op (some 50) (.c (.slcS (.t 48) none (some (.t 49)))),
   .op (some 51) (.pcall 12 [(.t 50)]),
   .op (some 47) (.c (.mv (.t 51))),
   .op (some 52) (.c (.ext (.t 47) 0)),
   .op (some 53) (.c (.ext (.t 47) 1)),
   .op (some 54) (.c (.ext (.t 47) 2)),
   .op (some 8) (.c (.mv (.t 52))),
   .op (some 9) (.c (.mv (.t 53))),
   .op (some 10) (.c (.mv (.t 54)))] [0, 1, 6, 9, 10] [])
 (.seq (.rg [] [.op (some 56) (.c (.mv (.t 0))),
   .op (some 57) (.c (.bin .add (.t 56) (.str [32]))),
   .op (some 58) (.c (.mv (.t 1))),
   .op (some 59) (.c (.bin .add (.t 57) (.t 58))),
   .op (some 60) (.pcall 12 [(.t 59)]),
   .op (some 55) (.c (.mv (.t 60))),
   .op (some 61) (.c (.ext (.t 55) 0)),
   .op (some 62) (.c (.ext (.t 55) 1)),
   .op (some 63) (.c (.ext (.t 55) 2)),
   .op (some 11) (.c (.mv (.t 61))),
   .op (some 12) (.c (.mv (.t 62))),
   .op (some 13) (.c (.mv (.t 63)))] [0, 6, 9, 10, 12, 13] [])
 (.seq (.rg [] [.op (some 65) (.c (.mv (.t 0))),
   .op (some 66) (.c (.mv (.t 6))),
   .op (some 67) (.c (.slcS (.t 65) (some (.t 66)) none)),
   .op (some 68) (.pcall 12 [(.t 67)]),
   .op (some 64) (.c (.mv (.t 68))),
   .op (some 69) (.c (.ext (.t 64) 0)),
   .op (some 70) (.c (.ext (.t 64) 1)),
   .op (some 71) (.c (.ext (.t 64) 2)),
   .op (some 14) (.c (.mv (.t 69))),
   .op (some 15) (.c (.mv (.t 70))),
   .op (some 16) (.c (.mv (.t 71)))] [6, 9, 10, 12, 13, 15, 16] [])
 (.seq (.rg [] [.op (some 72) (.c (.mv (.t 10))),
   .op (some 73) (.c (.bin .eql (.t 72) (.int .i64 0))),
   .op (some 74) (.c (.mv (.t 73))),
   .gop 74 true (some 75) (.c (.mv (.t 9))),
   .gop 74 true (some 76) (.c (.bin .eql (.t 75) (.int .i64 0))),
   .op (some 77) (.c (.pick (.t 74) (.t 76) (.bool false))),
   .op (some 78) (.c (.mv (.t 77))),
   .gop 78 true (some 79) (.c (.mv (.t 13))),
   .gop 78 true (some 80) (.c (.bin .eql (.t 79) (.int .i64 90))),
   .op (some 81) (.c (.pick (.t 78) (.t 80) (.bool false))),
   .op (some 82) (.c (.mv (.t 81))),
   .gop 82 true (some 83) (.c (.mv (.t 12))),
   .gop 82 true (some 84) (.c (.mv (.t 6))),
   .gop 82 true (some 85) (.c (.bin .eql (.t 83) (.t 84))),
   .op (some 86) (.c (.pick (.t 82) (.t 85) (.bool false))),
   .op (some 87) (.c (.mv (.t 86))),
   .gop 87 true (some 88) (.c (.mv (.t 16))),
   .gop 87 true (some 89) (.c (.bin .eql (.t 88) (.int .i64 90))),
   .op (some 90) (.c (.pick (.t 87) (.t 89) (.bool false))),
   .op (some 91) (.c (.mv (.t 90))),
   .gop 91 true (some 92) (.c (.mv (.t 15))),
   .gop 91 true (some 93) (.c (.bin .eql (.t 92) (.int .i64 0))),
   .op (some 94) (.c (.pick (.t 91) (.t 93) (.bool false))),
   .op (some 4) (.c (.mv (.t 94)))] [4] [])
 (.ret))))))))))
theorem ok9 : fnOk Tryd.prog 9 2 ir9 [.t 4] = true := by kernel_rfl
/- testamur.testamurlaw09.LexNames -/
def ir10 : S := .seq (.rg [] [.op (some 2) (.c (.mv (.bool false)))] [0] [])
 (.seq (.seq (.rg [] [.op (some 9) (.pcall 11 []),
   .op (some 10) (.c (.not (.t 9)))] [0, 10] [])
 (.cond (.t 10) (.seq (.rg [] [.op (some 2) (.c (.mv (.bool false)))] [2] [])
 (.ret)) (.skip)))
 (.seq (.seq (.rg [] [.op (some 11) (.c (.mv (.t 0))),
   .op (some 12) (.c (.lenS (.t 11))),
   .op (some 13) (.c (.bin .gtr (.t 12) (.int .i64 1000)))] [0, 13] [])
 (.cond (.t 13) (.seq (.rg [] [.op (some 2) (.c (.mv (.bool true)))] [2] [])
 (.ret)) (.skip)))
 (.seq (.rg [] [.op (some 15) (.c (.mv (.t 0))),
   .op (some 16) (.pcall 12 [(.t 15)]),
   .op (some 14) (.c (.mv (.t 16))),
   .op (some 17) (.c (.ext (.t 14) 0)),
   .op (some 18) (.c (.ext (.t 14) 1)),
   .op (some 19) (.c (.ext (.t 14) 2)),
   .op (some 3) (.c (.mv (.t 17))),
   .op (some 4) (.c (.mv (.t 18))),
   .op (some 5) (.c (.mv (.t 19)))] [0, 3, 5] [])
 (.seq (.rg [] [.op (some 20) (.c (.mv (.t 5))),
   .op (some 21) (.c (.bin .eql (.t 20) (.int .i64 0))),
   .op (some 22) (.c (.mv (.t 21))),
   .gop 22 true (some 23) (.c (.mv (.t 3))),
   .gop 22 true (some 24) (.c (.lenL (.t 23))),
   .gop 22 true (some 25) (.c (.bin .eql (.t 24) (.int .i64 1))),
   .op (some 26) (.c (.pick (.t 22) (.t 25) (.bool false))),
   .op (some 27) (.c (.mv (.t 26))),
   .gop 27 true (some 28) (.c (.mv (.t 3))),
   .gop 27 true (some 29) (.c (.idxA 4 (.t 28) (.int .i64 0))),
   .gop 27 true (some 30) (.c (.fldA 0 0 (.t 29))),
   .gop 27 true (some 31) (.c (.ld 1 false (.t 30))),
   .gop 27 true (some 32) (.c (.bin .eql (.t 31) (.int .i64 1))),
   .op (some 33) (.c (.pick (.t 27) (.t 32) (.bool false))),
   .op (some 34) (.c (.mv (.t 33))),
   .gop 34 true (some 35) (.c (.mv (.t 3))),
   .gop 34 true (some 36) (.c (.idxA 4 (.t 35) (.int .i64 0))),
   .gop 34 true (some 37) (.c (.fldA 1 1 (.t 36))),
   .gop 34 true (some 38) (.c (.ld 1 false (.t 37))),
   .gop 34 true (some 39) (.c (.mv (.t 0))),
   .gop 34 true (some 40) (.c (.bin .eql (.t 38) (.t 39))),
   .op (some 41) (.c (.pick (.t 34) (.t 40) (.bool false))),
   .op (some 42) (.c (.mv (.t 41))),
   .gop 42 true (some 43) (.c (.mv (.t 3))),
   .gop 42 true (some 44) (.c (.idxA 4 (.t 43) (.int .i64 0))),
   .gop 42 true (some 45) (.c (.fldA 3 3 (.t 44))),
   .gop 42 true (some 46) (.c (.ld 1 false (.t 45))),
   .gop 42 true (some 47) (.c (.bin .eql (.t 46) (.int .i64 0))),
   .op (some 48) (.c (.pick (.t 42) (.t 47) (.bool false))),
   .op (some 49) (.c (.mv (.t 48))),
   .gop 49 true (some 50) (.c (.mv (.t 3))),
   .gop 49 true (some 51) (.c (.idxA 4 (.t 50) (.int .i64 0))),
   .gop 49 true (some 52) (.c (.fldA 2 2 (.t 51))),
   .gop 49 true (some 53) (.c (.ld 1 false (.t 52))),
   .gop 49 true (some 54) (.c (.bin .eql (.t 53) (.int .i64 0))),
   .op (some 55) (.c (.pick (.t 49) (.t 54) (.bool false))),
   .op (some 6) (.c (.mv (.t 55)))] [0, 6] [])
 (.seq (.rg [] [.op (some 57) (.c (.mv (.t 0))),
   .op (some 58) (.c (.bld [.int .i64 0, .str [], .int .i64 0, .int .i64 0] [(0, (.int .i64 1)), (1, (.t 57))])),
   .op (some 59) (.bls 4 [.agg [.int .i64 0, .str [], .int .i64 0, .int .i64 0]] [(0, (.t 58))]),
   .op (some 60) (.pcall 16 [(.t 59)]),
   .op (some 56) (.c (.mv (.t 60))),
   .op (some 61) (.c (.ext (.t 56) 0)),
   .op (some 62) (.c (.ext (.t 56) 1)),
   .op (some 7) (.c (.mv (.t 61))),
   .op (some 8) (.c (.mv (.t 62)))] [0, 6, 8] [])
 (.seq (.rg [] [.op (some 63) (.c (.mv (.t 0))),
   .op (some 64) (.pcall 20 [(.t 63)]),
   .op (some 65) (.c (.mv (.t 6))),
   .op (some 66) (.c (.beq true (.t 64) (.t 65))),
   .op (some 67) (.c (.mv (.t 66))),
   .gop 67 true (some 68) (.c (.mv (.t 6))),
   .gop 67 true (some 69) (.c (.mv (.t 8))),
   .gop 67 true (some 70) (.c (.bin .eql (.t 69) (.int .i64 0))),
   .gop 67 true (some 71) (.c (.beq true (.t 68) (.t 70))),
   .op (some 72) (.c (.pick (.t 67) (.t 71) (.bool false))),
   .op (some 2) (.c (.mv (.t 72)))] [2] [])
 (.ret)))))))
theorem ok10 : fnOk Tryd.prog 10 1 ir10 [.t 2] = true := by kernel_rfl
/- testamur.testamurlaw09.sane -/
def ir11 : S := .seq (.rg [] [.op (some 0) (.c (.mv (.bool false)))] [] [])
 (.seq (.rg [] [.op (some 28) (.pcall 12 [(.str [101, 97, 114, 110, 32, 51, 48, 59])]),
   .op (some 27) (.c (.mv (.t 28))),
   .op (some 29) (.c (.ext (.t 27) 0)),
   .op (some 30) (.c (.ext (.t 27) 1)),
   .op (some 31) (.c (.ext (.t 27) 2)),
   .op (some 1) (.c (.mv (.t 29))),
   .op (some 2) (.c (.mv (.t 30))),
   .op (some 3) (.c (.mv (.t 31)))] [1, 2, 3] [])
 (.seq (.rg [] [.op (some 32) (.c (.bld [.int .i64 0, .str [], .int .i64 0, .int .i64 0] [(0, (.int .i64 1)), (1, (.str [101, 97, 114, 110]))])),
   .op (some 33) (.c (.bld [.int .i64 0, .str [], .int .i64 0, .int .i64 0] [(0, (.int .i64 2)), (2, (.int .i64 30)), (3, (.int .i64 5))])),
   .op (some 34) (.c (.bld [.int .i64 0, .str [], .int .i64 0, .int .i64 0] [(0, (.int .i64 3)), (1, (.str [59])), (3, (.int .i64 7))])),
   .op (some 35) (.bls 4 [.agg [.int .i64 0, .str [], .int .i64 0, .int .i64 0], .agg [.int .i64 0, .str [], .int .i64 0, .int .i64 0], .agg [.int .i64 0, .str [], .int .i64 0, .int .i64 0]] [(0, (.t 32)), (1, (.t 33)), (2, (.t 34))]),
   .op (some 4) (.c (.mv (.t 35)))] [1, 2, 3, 4] [])
 (.seq (.rg [] [.op (some 37) (.pcall 12 [(.str [48, 48, 55])]),
   .op (some 36) (.c (.mv (.t 37))),
   .op (some 38) (.c (.ext (.t 36) 0)),
   .op (some 39) (.c (.ext (.t 36) 1)),
   .op (some 40) (.c (.ext (.t 36) 2)),
   .op (some 5) (.c (.mv (.t 38))),
   .op (some 6) (.c (.mv (.t 39))),
   .op (some 7) (.c (.mv (.t 40)))] [1, 2, 3, 4, 6, 7] [])
 (.seq (.rg [] [.op (some 42) (.pcall 12 [(.str [49, 48, 57, 57, 53, 49, 49, 54, 50, 55, 55, 55, 54])]),
   .op (some 41) (.c (.mv (.t 42))),
   .op (some 43) (.c (.ext (.t 41) 0)),
   .op (some 44) (.c (.ext (.t 41) 1)),
   .op (some 45) (.c (.ext (.t 41) 2)),
   .op (some 8) (.c (.mv (.t 43))),
   .op (some 9) (.c (.mv (.t 44))),
   .op (some 10) (.c (.mv (.t 45)))] [1, 2, 3, 4, 6, 7, 8, 10] [])
 (.seq (.rg [] [.op (some 47) (.pcall 12 [(.str [97, 32, 47, 47, 32, 98])]),
   .op (some 46) (.c (.mv (.t 47))),
   .op (some 48) (.c (.ext (.t 46) 0)),
   .op (some 49) (.c (.ext (.t 46) 1)),
   .op (some 50) (.c (.ext (.t 46) 2)),
   .op (some 11) (.c (.mv (.t 48))),
   .op (some 12) (.c (.mv (.t 49))),
   .op (some 13) (.c (.mv (.t 50)))] [1, 2, 3, 4, 6, 7, 8, 10, 11, 13] [])
 (.seq (.rg [] [.op (some 52) (.pcall 12 [(.str [97, 32, 36])]),
   .op (some 51) (.c (.mv (.t 52))),
   .op (some 53) (.c (.ext (.t 51) 0)),
   .op (some 54) (.c (.ext (.t 51) 1)),
   .op (some 55) (.c (.ext (.t 51) 2)),
   .op (some 14) (.c (.mv (.t 53))),
   .op (some 15) (.c (.mv (.t 54))),
   .op (some 16) (.c (.mv (.t 55)))] [1, 2, 3, 4, 6, 7, 8, 10, 11, 13, 15, 16] [])
 (.seq (.rg [] [.op (some 57) (.pcall 12 [(.str [97, 61, 49])]),
   .op (some 56) (.c (.mv (.t 57))),
   .op (some 58) (.c (.ext (.t 56) 0)),
   .op (some 59) (.c (.ext (.t 56) 1)),
   .op (some 60) (.c (.ext (.t 56) 2)),
   .op (some 17) (.c (.mv (.t 58))),
   .op (some 18) (.c (.mv (.t 59))),
   .op (some 19) (.c (.mv (.t 60)))] [1, 2, 3, 4, 6, 7, 8, 10, 11, 13, 15, 16, 17, 19] [])
 (.seq (.rg [] [.op (some 62) (.c (.mv (.t 17))),
   .op (some 63) (.pcall 16 [(.t 62)]),
   .op (some 61) (.c (.mv (.t 63))),
   .op (some 64) (.c (.ext (.t 61) 0)),
   .op (some 65) (.c (.ext (.t 61) 1)),
   .op (some 20) (.c (.mv (.t 64))),
   .op (some 21) (.c (.mv (.t 65)))] [1, 2, 3, 4, 6, 7, 8, 10, 11, 13, 15, 16, 17, 19, 20, 21] [])
 (.seq (.rg [] [.op (some 67) (.pcall 12 [(.str [])]),
   .op (some 66) (.c (.mv (.t 67))),
   .op (some 68) (.c (.ext (.t 66) 0)),
   .op (some 69) (.c (.ext (.t 66) 1)),
   .op (some 70) (.c (.ext (.t 66) 2)),
   .op (some 22) (.c (.mv (.t 68))),
   .op (some 23) (.c (.mv (.t 69))),
   .op (some 24) (.c (.mv (.t 70)))] [1, 2, 3, 4, 6, 7, 8, 10, 11, 13, 15, 16, 17, 19, 20, 21, 22, 24] [])
 (.seq (.rg [] [.op (some 72) (.c (.bld [.int .i64 0, .str [], .int .i64 0, .int .i64 0] [])),
   .op (some 73) (.bls 4 [.agg [.int .i64 0, .str [], .int .i64 0, .int .i64 0]] [(0, (.t 72))]),
   .op (some 74) (.pcall 16 [(.t 73)]),
   .op (some 71) (.c (.mv (.t 74))),
   .op (some 75) (.c (.ext (.t 71) 0)),
   .op (some 76) (.c (.ext (.t 71) 1)),
   .op (some 25) (.c (.mv (.t 75))),
   .op (some 26) (.c (.mv (.t 76)))] [1, 2, 3, 4, 6, 7, 8, 10, 11, 13, 15, 16, 17, 19, 20, 21, 22, 24, 26] [])
 (.seq (.seq (.rg [] [.op (some 77) (.c (.mv (.t 2))),
   .op (some 78) (.c (.bin .neq (.t 77) (.int .i64 0))),
   .op (some 79) (.c (.mv (.t 78))),
   .gop 79 false (some 80) (.c (.mv (.t 3))),
   .gop 79 false (some 81) (.c (.bin .neq (.t 80) (.int .i64 0))),
   .op (some 82) (.c (.pick (.t 79) (.bool true) (.t 81))),
   .op (some 83) (.c (.mv (.t 82))),
   .gop 83 false (some 84) (.c (.mv (.t 7))),
   .gop 83 false (some 85) (.c (.bin .neq (.t 84) (.int .i64 90))),
   .op (some 86) (.c (.pick (.t 83) (.bool true) (.t 85))),
   .op (some 87) (.c (.mv (.t 86))),
   .gop 87 false (some 88) (.c (.mv (.t 6))),
   .gop 87 false (some 89) (.c (.bin .neq (.t 88) (.int .i64 0))),
   .op (some 90) (.c (.pick (.t 87) (.bool true) (.t 89))),
   .op (some 91) (.c (.mv (.t 90))),
   .gop 91 false (some 92) (.c (.mv (.t 10))),
   .gop 91 false (some 93) (.c (.bin .neq (.t 92) (.int .i64 0))),
   .op (some 94) (.c (.pick (.t 91) (.bool true) (.t 93))),
   .op (some 95) (.c (.mv (.t 94))),
   .gop 95 false (some 96) (.c (.mv (.t 13))),
   .gop 95 false (some 97) (.c (.bin .neq (.t 96) (.int .i64 0))),
   .op (some 98) (.c (.pick (.t 95) (.bool true) (.t 97))),
   .op (some 99) (.c (.mv (.t 98))),
   .gop 99 false (some 100) (.c (.mv (.t 16))),
   .gop 99 false (some 101) (.c (.bin .neq (.t 100) (.int .i64 90))),
   .op (some 102) (.c (.pick (.t 99) (.bool true) (.t 101))),
   .op (some 103) (.c (.mv (.t 102))),
   .gop 103 false (some 104) (.c (.mv (.t 15))),
   .gop 103 false (some 105) (.c (.bin .neq (.t 104) (.int .i64 2))),
   .op (some 106) (.c (.pick (.t 103) (.bool true) (.t 105))),
   .op (some 107) (.c (.mv (.t 106))),
   .gop 107 false (some 108) (.c (.mv (.t 19))),
   .gop 107 false (some 109) (.c (.bin .neq (.t 108) (.int .i64 0))),
   .op (some 110) (.c (.pick (.t 107) (.bool true) (.t 109))),
   .op (some 111) (.c (.mv (.t 110))),
   .gop 111 false (some 112) (.c (.mv (.t 21))),
   .gop 111 false (some 113) (.c (.bin .neq (.t 112) (.int .i64 0))),
   .op (some 114) (.c (.pick (.t 111) (.bool true) (.t 113))),
   .op (some 115) (.c (.mv (.t 114))),
   .gop 115 false (some 116) (.c (.mv (.t 24))),
   .gop 115 false (some 117) (.c (.bin .neq (.t 116) (.int .i64 0))),
   .op (some 118) (.c (.pick (.t 115) (.bool true) (.t 117))),
   .op (some 119) (.c (.mv (.t 118))),
   .gop 119 false (some 120) (.c (.mv (.t 26))),
   .gop 119 false (some 121) (.c (.bin .neq (.t 120) (.int .i64 90))),
   .op (some 122) (.c (.pick (.t 119) (.bool true) (.t 121))),
   .op (some 123) (.c (.mv (.t 122))),
   .gop 123 false (some 124) (.c (.mv (.t 22))),
   .gop 123 false (some 125) (.c (.lenL (.t 124))),
   .gop 123 false (some 126) (.c (.bin .neq (.t 125) (.int .i64 0))),
   .op (some 127) (.c (.pick (.t 123) (.bool true) (.t 126)))] [1, 4, 8, 11, 17, 20, 127] [])
 (.cond (.t 127) (.seq (.rg [] [.op (some 0) (.c (.mv (.bool false)))] [0] [])
 (.ret)) (.skip)))
 (.seq (.rg [] [.op (some 128) (.c (.mv (.t 1))),
   .op (some 129) (.c (.mv (.t 4))),
   .op (some 130) (.pcall 14 [(.t 128), (.t 129)]),
   .op (some 131) (.c (.mv (.t 130))),
   .gop 131 true (some 132) (.c (.mv (.t 8))),
   .gop 131 true (some 133) (.c (.lenL (.t 132))),
   .gop 131 true (some 134) (.c (.bin .eql (.t 133) (.int .i64 1))),
   .op (some 135) (.c (.pick (.t 131) (.t 134) (.bool false))),
   .op (some 136) (.c (.mv (.t 135))),
   .gop 136 true (some 137) (.c (.mv (.t 8))),
   .gop 136 true (some 138) (.c (.idxA 4 (.t 137) (.int .i64 0))),
   .gop 136 true (some 139) (.c (.fldA 2 2 (.t 138))),
   .gop 136 true (some 140) (.c (.ld 1 false (.t 139))),
   .gop 136 true (some 141) (.c (.bin .eql (.t 140) (.int .i64 1099511627776))),
   .op (some 142) (.c (.pick (.t 136) (.t 141) (.bool false))),
   .op (some 143) (.c (.mv (.t 142))),
   .gop 143 true (some 144) (.c (.mv (.t 11))),
   .gop 143 true (some 145) (.c (.lenL (.t 144))),
   .gop 143 true (some 146) (.c (.bin .eql (.t 145) (.int .i64 1))),
   .op (some 147) (.c (.pick (.t 143) (.t 146) (.bool false))),
   .op (some 148) (.c (.mv (.t 147))),
   .gop 148 true (some 149) (.c (.mv (.t 11))),
   .gop 148 true (some 150) (.c (.idxA 4 (.t 149) (.int .i64 0))),
   .gop 148 true (some 151) (.c (.fldA 1 1 (.t 150))),
   .gop 148 true (some 152) (.c (.ld 1 false (.t 151))),
   .gop 148 true (some 153) (.c (.bin .eql (.t 152) (.str [97]))),
   .op (some 154) (.c (.pick (.t 148) (.t 153) (.bool false))),
   .op (some 155) (.c (.mv (.t 154))),
   .gop 155 true (some 156) (.c (.mv (.t 20))),
   .gop 155 true (some 157) (.c (.bin .eql (.t 156) (.str [97, 32, 61, 32, 49]))),
   .op (some 158) (.c (.pick (.t 155) (.t 157) (.bool false))),
   .op (some 159) (.c (.mv (.t 158))),
   .gop 159 true (some 160) (.pcall 20 [(.str [66, 95, 49, 50])]),
   .op (some 161) (.c (.pick (.t 159) (.t 160) (.bool false))),
   .op (some 162) (.c (.mv (.t 161))),
   .gop 162 true (some 163) (.pcall 20 [(.str [95, 49, 50])]),
   .gop 162 true (some 164) (.c (.not (.t 163))),
   .op (some 165) (.c (.pick (.t 162) (.t 164) (.bool false))),
   .op (some 166) (.c (.mv (.t 165))),
   .gop 166 true (some 167) (.c (.mv (.t 11))),
   .gop 166 true (some 168) (.c (.mv (.t 17))),
   .gop 166 true (some 169) (.pcall 18 [(.t 167), (.t 168)]),
   .gop 166 true (some 170) (.c (.not (.t 169))),
   .op (some 171) (.c (.pick (.t 166) (.t 170) (.bool false))),
   .op (some 172) (.c (.mv (.t 171))),
   .gop 172 true (some 173) (.c (.mv (.t 11))),
   .gop 172 true (some 174) (.c (.bld [.int .i64 0, .str [], .int .i64 0, .int .i64 0] [(0, (.int .i64 1)), (1, (.str [97])), (3, (.int .i64 9))])),
   .gop 172 true (some 175) (.bls 4 [.agg [.int .i64 0, .str [], .int .i64 0, .int .i64 0]] [(0, (.t 174))]),
   .gop 172 true (some 176) (.pcall 18 [(.t 173), (.t 175)]),
   .op (some 177) (.c (.pick (.t 172) (.t 176) (.bool false))),
   .op (some 0) (.c (.mv (.t 177)))] [0] [])
 (.ret)))))))))))))
theorem ok11 : fnOk Tryd.prog 11 0 ir11 [.t 0] = true := by kernel_rfl
/- testamur.lex.Lex -/
def ir12_l0 : S := .seq (.seq (.rg [] [.op (some 26) (.c (.mv (.t 5))),
   .op (some 27) (.c (.nilc (.t 26))),
   .op (some 28) (.c (.fldA 1 1 (.t 27))),
   .op (some 29) (.c (.ld 1 false (.t 28))),
   .op (some 30) (.c (.mv (.t 0))),
   .op (some 31) (.c (.lenS (.t 30))),
   .op (some 32) (.c (.bin .lss (.t 29) (.t 31)))] [0, 2, 3, 4, 5, 6, 32] [2, 3, 4])
 (.cond (.t 32) (.skip) (.exit 0)))
 (.block 1 (.rg [0, 1, 2, 3, 4, 7, 8, 5, 6, 9, 10, 11, 12, 13] [.op (some 33) (.c (.mv (.t 5))),
   .op (some 34) (.c (.mv (.t 0))),
   .op (some 35) (.c (.mv (.t 5))),
   .op (some 36) (.c (.nilc (.t 35))),
   .op (some 37) (.c (.fldA 1 1 (.t 36))),
   .op (some 40) (.c (.nilc (.t 33))),
   .op (some 41) (.c (.fldA 2 2 (.t 40))),
   .op (some 38) (.c (.ld 1 false (.t 37))),
   .op (some 39) (.c (.idx (.t 34) (.t 38))),
   .op (some 42) (.c (.idxP 256 1 (.t 41) (.t 39))),
   .op (some 43) (.c (.ld 1 false (.t 42))),
   .op (some 44) (.c (.idxP 5 1 (.t 6) (.t 43))),
   .op (some 45) (.c (.ld 1 false (.t 44))),
   .op (some 46) (.callv (.t 45) [])] [0, 2, 3, 4, 5, 6] [2, 3, 4]))
def ir12 : FS := .pre (.rg [] [.op (some 2) (.alloc 23 (.nils)),
   .op (some 3) (.alloc 3 (.int .i64 0)),
   .op (some 4) (.alloc 24 (.int .i64 0))] [0, 2, 3, 4] [])
 (.pre (.seq (.rg [] [.op (some 7) (.c (.mv (.t 0))),
   .op (some 8) (.c (.lenS (.t 7))),
   .op (some 9) (.c (.bin .gtr (.t 8) (.int .i64 65536)))] [0, 2, 3, 4, 9] [])
 (.cond (.t 9) (.seq (.rg [] [.op none (.st 1 (.t 2) .nils),
   .op none (.st 1 (.t 3) (.int .i64 0)),
   .op none (.st 1 (.t 4) (.int .i64 2))] [2, 3, 4] [])
 (.ret)) (.skip)))
 (.dfr [.op (some 10) (.c (.mkf 24 [] [(.t 2), (.t 3), (.t 4)]))] [0, 2, 3, 4, 10] 10
 (.seq (.rg [] [.op (some 11) (.c (.mv (.t 0))),
   .op (some 12) (.pcall 25 []),
   .op (some 13) (.c (.bld [.str [], .int .i64 0, .agg (List.replicate 256 (.int .i64 0)), .nils] [(0, (.t 11)), (2, (.t 12))])),
   .op (some 14) (.box 48 (.t 13)),
   .op (some 5) (.mvg 35 4 (.t 14) (.t 14) [3])] [0, 2, 3, 4, 5] [2, 3, 4])
 (.seq (.rg [] [.op (some 15) (.c (.mv (.t 5))),
   .op (some 16) (.c (.mkf 26 [(.t 15)] [])),
   .op (some 17) (.c (.mv (.t 5))),
   .op (some 18) (.c (.mkf 27 [(.t 17)] [])),
   .op (some 19) (.c (.mv (.t 5))),
   .op (some 20) (.c (.mkf 28 [(.t 19)] [])),
   .op (some 21) (.c (.mv (.t 5))),
   .op (some 22) (.c (.mkf 29 [(.t 21)] [])),
   .op (some 23) (.c (.mv (.t 5))),
   .op (some 24) (.c (.mkf 30 [(.t 23)] [])),
   .op (some 25) (.c (.bld [.nilf, .nilf, .nilf, .nilf, .nilf] [(0, (.t 16)), (1, (.t 18)), (2, (.t 20)), (3, (.t 22)), (4, (.t 24))])),
   .op (some 6) (.alloc 49 (.agg (List.replicate 5 (.nilf)))),
   .op none (.st 5 (.t 6) (.t 25))] [0, 2, 3, 4, 5, 6] [2, 3, 4])
 (.seq (.block 0 (.loop [0, 2, 3, 4, 5, 6] ir12_l0))
 (.seq (.rg [] [.op (some 47) (.c (.mv (.t 5))),
   .op (some 48) (.c (.nilc (.t 47))),
   .op (some 49) (.c (.fldA 3 258 (.t 48))),
   .op (some 50) (.c (.ld 1 false (.t 49))),
   .op none (.st 1 (.t 2) (.t 50)),
   .op none (.st 1 (.t 3) (.int .i64 0)),
   .op none (.st 1 (.t 4) (.int .i64 0))] [2, 3, 4] [2, 3, 4])
 (.ret)))))))
theorem ok12 : fnOkD Tryd.prog 12 1 ir12 [.c 2 1 false, .c 3 1 false, .c 4 1 false] = true := by kernel_rfl
/- testamur.testamurref09.Lex -/
def ir13_l0 : S := .seq (.seq (.rg [] [.op (some 91) (.c (.mv (.t 6))),
   .op (some 92) (.c (.mv (.t 0))),
   .op (some 93) (.c (.lenS (.t 92))),
   .op (some 94) (.c (.bin .lss (.t 91) (.t 93))),
   .op (some 95) (.c (.mv (.t 94))),
   .gop 95 true (some 96) (.c (.mv (.t 0))),
   .gop 95 true (some 97) (.c (.mv (.t 6))),
   .gop 95 true (some 98) (.c (.idx (.t 96) (.t 97))),
   .gop 95 true (some 99) (.pcall 33 [(.t 98)]),
   .op (some 100) (.c (.pick (.t 95) (.t 99) (.bool false)))] [0, 5, 6, 7, 100] [])
 (.cond (.t 100) (.skip) (.exit 6)))
 (.block 7 (.rg [] [.op (some 101) (.c (.mv (.t 6))),
   .op (some 102) (.c (.bin .add (.t 101) (.int .i64 1))),
   .op (some 6) (.c (.mv (.t 102)))] [0, 5, 6, 7] []))
def ir13_l1 : S := .seq (.seq (.rg [] [.op (some 59) (.c (.mv (.t 6))),
   .op (some 60) (.c (.mv (.t 0))),
   .op (some 61) (.c (.lenS (.t 60))),
   .op (some 62) (.c (.bin .lss (.t 59) (.t 61))),
   .op (some 63) (.c (.mv (.t 62))),
   .gop 63 true (some 64) (.c (.mv (.t 0))),
   .gop 63 true (some 65) (.c (.mv (.t 6))),
   .gop 63 true (some 66) (.c (.idx (.t 64) (.t 65))),
   .gop 63 true (some 67) (.pcall 32 [(.t 66)]),
   .op (some 68) (.c (.pick (.t 63) (.t 67) (.bool false)))] [0, 5, 6, 7, 68] [])
 (.cond (.t 68) (.skip) (.exit 4)))
 (.block 5 (.rg [] [.op (some 69) (.c (.mv (.t 6))),
   .op (some 70) (.c (.bin .add (.t 69) (.int .i64 1))),
   .op (some 6) (.c (.mv (.t 70)))] [0, 5, 6, 7] []))
def ir13_l2 : S := .seq (.seq (.rg [] [.op (some 43) (.c (.mv (.t 6))),
   .op (some 44) (.c (.mv (.t 0))),
   .op (some 45) (.c (.lenS (.t 44))),
   .op (some 46) (.c (.bin .lss (.t 43) (.t 45))),
   .op (some 47) (.c (.mv (.t 46))),
   .gop 47 true (some 48) (.c (.mv (.t 0))),
   .gop 47 true (some 49) (.c (.mv (.t 6))),
   .gop 47 true (some 50) (.c (.idx (.t 48) (.t 49))),
   .gop 47 true (some 51) (.c (.bin .neq (.t 50) (.int .u8 10))),
   .op (some 52) (.c (.pick (.t 47) (.t 51) (.bool false)))] [0, 5, 6, 52] [])
 (.cond (.t 52) (.skip) (.exit 2)))
 (.block 3 (.rg [] [.op (some 53) (.c (.mv (.t 6))),
   .op (some 54) (.c (.bin .add (.t 53) (.int .i64 1))),
   .op (some 6) (.c (.mv (.t 54)))] [0, 5, 6] []))
def ir13_l3 : S := .seq (.seq (.rg [] [.op (some 14) (.c (.mv (.t 6))),
   .op (some 15) (.c (.mv (.t 0))),
   .op (some 16) (.c (.lenS (.t 15))),
   .op (some 17) (.c (.bin .lss (.t 14) (.t 16)))] [0, 5, 6, 17] [])
 (.cond (.t 17) (.skip) (.exit 0)))
 (.block 1 (.seq (.rg [] [.op (some 18) (.c (.mv (.t 6))),
   .op (some 7) (.c (.mv (.t 18)))] [0, 5, 6, 7] [])
 (.seq (.seq (.rg [] [.op (some 19) (.c (.mv (.t 0))),
   .op (some 20) (.c (.mv (.t 6))),
   .op (some 21) (.c (.idx (.t 19) (.t 20))),
   .op (some 22) (.pcall 22 [(.t 21)])] [0, 5, 6, 7, 22] [])
 (.cond (.t 22) (.seq (.rg [] [.op (some 23) (.c (.mv (.t 6))),
   .op (some 24) (.c (.bin .add (.t 23) (.int .i64 1))),
   .op (some 6) (.c (.mv (.t 24)))] [0, 5, 6] [])
 (.exit 1)) (.skip)))
 (.seq (.seq (.rg [] [.op (some 25) (.c (.mv (.t 0))),
   .op (some 26) (.c (.mv (.t 6))),
   .op (some 27) (.c (.idx (.t 25) (.t 26))),
   .op (some 28) (.c (.bin .eql (.t 27) (.int .u8 47))),
   .op (some 29) (.c (.mv (.t 28))),
   .gop 29 true (some 30) (.c (.mv (.t 6))),
   .gop 29 true (some 31) (.c (.bin .add (.t 30) (.int .i64 1))),
   .gop 29 true (some 32) (.c (.mv (.t 0))),
   .gop 29 true (some 33) (.c (.lenS (.t 32))),
   .gop 29 true (some 34) (.c (.bin .lss (.t 31) (.t 33))),
   .op (some 35) (.c (.pick (.t 29) (.t 34) (.bool false))),
   .op (some 36) (.c (.mv (.t 35))),
   .gop 36 true (some 37) (.c (.mv (.t 0))),
   .gop 36 true (some 38) (.c (.mv (.t 6))),
   .gop 36 true (some 39) (.c (.bin .add (.t 38) (.int .i64 1))),
   .gop 36 true (some 40) (.c (.idx (.t 37) (.t 39))),
   .gop 36 true (some 41) (.c (.bin .eql (.t 40) (.int .u8 47))),
   .op (some 42) (.c (.pick (.t 36) (.t 41) (.bool false)))] [0, 5, 6, 7, 42] [])
 (.cond (.t 42) (.seq (.block 2 (.loop [0, 5, 6] ir13_l2))
 (.exit 1)) (.skip)))
 (.seq (.seq (.rg [] [.op (some 55) (.c (.mv (.t 0))),
   .op (some 56) (.c (.mv (.t 6))),
   .op (some 57) (.c (.idx (.t 55) (.t 56))),
   .op (some 58) (.pcall 31 [(.t 57)])] [0, 5, 6, 7, 58] [])
 (.cond (.t 58) (.seq (.block 4 (.loop [0, 5, 6, 7] ir13_l1))
 (.seq (.seq (.rg [] [.op (some 71) (.c (.mv (.t 0))),
   .op (some 72) (.c (.mv (.t 7))),
   .op (some 73) (.c (.mv (.t 6))),
   .op (some 74) (.c (.slcS (.t 71) (some (.t 72)) (some (.t 73)))),
   .op (some 75) (.pcall 21 [(.t 74)]),
   .op (some 76) (.c (.not (.t 75)))] [0, 5, 6, 7, 76] [])
 (.cond (.t 76) (.seq (.rg [] [.op (some 77) (.c (.mv (.t 7))),
   .op (some 2) (.c (.mv .nils)),
   .op (some 3) (.c (.mv (.t 77))),
   .op (some 4) (.c (.mv (.int .i64 90)))] [2, 3, 4] [])
 (.ret)) (.skip)))
 (.seq (.rg [] [.op (some 78) (.c (.mv (.t 5))),
   .op (some 79) (.c (.mv (.t 0))),
   .op (some 80) (.c (.mv (.t 7))),
   .op (some 81) (.c (.mv (.t 6))),
   .op (some 82) (.c (.slcS (.t 79) (some (.t 80)) (some (.t 81)))),
   .op (some 83) (.c (.mv (.t 7))),
   .op (some 84) (.c (.bld [.int .i64 0, .str [], .int .i64 0, .int .i64 0] [(0, (.int .i64 1)), (1, (.t 82)), (3, (.t 83))])),
   .op (some 85) (.bls 4 [.agg [.int .i64 0, .str [], .int .i64 0, .int .i64 0]] [(0, (.t 84))]),
   .op (some 86) (.app 35 4 40 (.t 78) (.t 85)),
   .op (some 5) (.c (.mv (.t 86)))] [0, 5, 6] [])
 (.exit 1)))) (.skip)))
 (.seq (.seq (.rg [] [.op (some 87) (.c (.mv (.t 0))),
   .op (some 88) (.c (.mv (.t 6))),
   .op (some 89) (.c (.idx (.t 87) (.t 88))),
   .op (some 90) (.pcall 33 [(.t 89)])] [0, 5, 6, 7, 90] [])
 (.cond (.t 90) (.seq (.block 6 (.loop [0, 5, 6, 7] ir13_l0))
 (.seq (.rg [] [.op (some 104) (.c (.mv (.t 0))),
   .op (some 105) (.c (.mv (.t 7))),
   .op (some 106) (.c (.mv (.t 6))),
   .op (some 107) (.c (.slcS (.t 104) (some (.t 105)) (some (.t 106)))),
   .op (some 108) (.pcall 34 [(.t 107)]),
   .op (some 103) (.c (.mv (.t 108))),
   .op (some 109) (.c (.ext (.t 103) 0)),
   .op (some 110) (.c (.ext (.t 103) 1)),
   .op (some 8) (.c (.mv (.t 109))),
   .op (some 9) (.c (.mv (.t 110)))] [0, 5, 6, 7, 8, 9] [])
 (.seq (.seq (.rg [] [.op (some 111) (.c (.mv (.t 9))),
   .op (some 112) (.c (.not (.t 111)))] [0, 5, 6, 7, 8, 112] [])
 (.cond (.t 112) (.seq (.rg [] [.op (some 113) (.c (.mv (.t 7))),
   .op (some 2) (.c (.mv .nils)),
   .op (some 3) (.c (.mv (.t 113))),
   .op (some 4) (.c (.mv (.int .i64 90)))] [2, 3, 4] [])
 (.ret)) (.skip)))
 (.seq (.rg [] [.op (some 114) (.c (.mv (.t 5))),
   .op (some 115) (.c (.mv (.t 8))),
   .op (some 116) (.c (.mv (.t 7))),
   .op (some 117) (.c (.bld [.int .i64 0, .str [], .int .i64 0, .int .i64 0] [(0, (.int .i64 2)), (2, (.t 115)), (3, (.t 116))])),
   .op (some 118) (.bls 4 [.agg [.int .i64 0, .str [], .int .i64 0, .int .i64 0]] [(0, (.t 117))]),
   .op (some 119) (.app 35 4 40 (.t 114) (.t 118)),
   .op (some 5) (.c (.mv (.t 119)))] [0, 5, 6] [])
 (.exit 1))))) (.skip)))
 (.seq (.seq (.rg [] [.op (some 120) (.c (.mv (.t 0))),
   .op (some 121) (.c (.mv (.t 6))),
   .op (some 122) (.c (.idx (.t 120) (.t 121))),
   .op (some 123) (.pcall 35 [(.t 122)]),
   .op (some 124) (.c (.not (.t 123)))] [0, 5, 6, 7, 124] [])
 (.cond (.t 124) (.seq (.rg [] [.op (some 125) (.c (.mv (.t 7))),
   .op (some 2) (.c (.mv .nils)),
   .op (some 3) (.c (.mv (.t 125))),
   .op (some 4) (.c (.mv (.int .i64 90)))] [2, 3, 4] [])
 (.ret)) (.skip)))
 (.seq (.rg [] [.op (some 126) (.c (.mv (.t 6))),
   .op (some 127) (.c (.bin .add (.t 126) (.int .i64 1))),
   .op (some 6) (.c (.mv (.t 127)))] [0, 5, 6, 7] [])
 (.rg [] [.op (some 128) (.c (.mv (.t 5))),
   .op (some 129) (.c (.mv (.t 0))),
   .op (some 130) (.c (.mv (.t 7))),
   .op (some 131) (.c (.mv (.t 6))),
   .op (some 132) (.c (.slcS (.t 129) (some (.t 130)) (some (.t 131)))),
   .op (some 133) (.c (.mv (.t 7))),
   .op (some 134) (.c (.bld [.int .i64 0, .str [], .int .i64 0, .int .i64 0] [(0, (.int .i64 3)), (1, (.t 132)), (3, (.t 133))])),
   .op (some 135) (.bls 4 [.agg [.int .i64 0, .str [], .int .i64 0, .int .i64 0]] [(0, (.t 134))]),
   .op (some 136) (.app 35 4 40 (.t 128) (.t 135)),
   .op (some 5) (.c (.mv (.t 136)))] [0, 5, 6] [])))))))))
def ir13 : S := .seq (.rg [] [.op (some 2) (.c (.mv .nils)),
   .op (some 3) (.c (.mv (.int .i64 0))),
   .op (some 4) (.c (.mv (.int .i64 0)))] [0] [])
 (.seq (.seq (.rg [] [.op (some 10) (.c (.mv (.t 0))),
   .op (some 11) (.c (.lenS (.t 10))),
   .op (some 12) (.c (.bin .gtr (.t 11) (.int .i64 65536)))] [0, 12] [])
 (.cond (.t 12) (.seq (.rg [] [.op (some 2) (.c (.mv .nils)),
   .op (some 3) (.c (.mv (.int .i64 0))),
   .op (some 4) (.c (.mv (.int .i64 2)))] [2, 3, 4] [])
 (.ret)) (.skip)))
 (.seq (.rg [] [.op (some 13) (.blo 35 4 [] []),
   .op (some 5) (.c (.mv (.t 13)))] [0, 5] [])
 (.seq (.rg [] [.op (some 6) (.c (.mv (.int .i64 0)))] [0, 5, 6] [])
 (.seq (.block 0 (.loop [0, 5, 6] ir13_l3))
 (.seq (.rg [] [.op (some 137) (.c (.mv (.t 5))),
   .op (some 2) (.c (.mv (.t 137))),
   .op (some 3) (.c (.mv (.int .i64 0))),
   .op (some 4) (.c (.mv (.int .i64 0)))] [2, 3, 4] [])
 (.ret))))))
theorem ok13 : fnOk Tryd.prog 13 1 ir13 [.t 2, .t 3, .t 4] = true := by kernel_rfl
/- testamur.testamurref09.Equal -/
def ir14_l0 : S := .seq (.seq (.rg [] [.op (some 10) (.c (.mv (.t 5))),
   .op (some 11) (.c (.mv (.t 0))),
   .op (some 12) (.c (.lenL (.t 11))),
   .op (some 13) (.c (.bin .lss (.t 10) (.t 12)))] [0, 1, 5, 13] [])
 (.cond (.t 13) (.skip) (.exit 0)))
 (.seq (.block 1 (.seq (.rg [0, 1, 2, 3, 5, 6, 7, 8, 4, 9, 10] [.op (some 16) (.c (.mv (.t 0))),
   .op (some 17) (.c (.mv (.t 5))),
   .op (some 18) (.c (.idxA 4 (.t 16) (.t 17))),
   .op (some 19) (.c (.fldA 3 3 (.t 18))),
   .op (some 21) (.c (.mv (.t 1))),
   .op (some 22) (.c (.mv (.t 5))),
   .op (some 23) (.c (.idxA 4 (.t 21) (.t 22))),
   .op (some 24) (.c (.fldA 3 3 (.t 23))),
   .op (some 20) (.c (.ld 1 false (.t 19))),
   .op (some 25) (.c (.ld 1 false (.t 24))),
   .op (some 26) (.c (.bin .neq (.t 20) (.t 25)))] [0, 1, 5, 26] [])
 (.cond (.t 26) (.seq (.rg [] [.op (some 4) (.c (.mv (.bool false)))] [4] [])
 (.ret)) (.skip))))
 (.rg [] [.op (some 14) (.c (.mv (.t 5))),
   .op (some 15) (.c (.bin .add (.t 14) (.int .i64 1))),
   .op (some 5) (.c (.mv (.t 15)))] [0, 1, 5] []))
def ir14 : S := .seq (.rg [] [.op (some 4) (.c (.mv (.bool false)))] [0, 1] [])
 (.seq (.seq (.rg [] [.op (some 6) (.c (.mv (.t 0))),
   .op (some 7) (.c (.mv (.t 1))),
   .op (some 8) (.pcall 19 [(.t 6), (.t 7)]),
   .op (some 9) (.c (.not (.t 8)))] [0, 1, 9] [])
 (.cond (.t 9) (.seq (.rg [] [.op (some 4) (.c (.mv (.bool false)))] [4] [])
 (.ret)) (.skip)))
 (.seq (.seq (.rg [] [.op (some 5) (.c (.mv (.int .i64 0)))] [0, 1, 5] [])
 (.block 0 (.loop [0, 1, 5] ir14_l0)))
 (.seq (.rg [] [.op (some 4) (.c (.mv (.bool true)))] [4] [])
 (.ret))))
theorem ok14 : fnOk Tryd.prog 14 2 ir14 [.t 4] = true := by kernel_rfl
/- testamur.testamurref09.Few -/
def ir15_l0 : S := .seq (.seq (.rg [] [.op (some 5) (.c (.mv (.t 4))),
   .op (some 6) (.c (.mv (.t 0))),
   .op (some 7) (.c (.lenL (.t 6))),
   .op (some 8) (.c (.bin .lss (.t 5) (.t 7)))] [0, 3, 4, 8] [])
 (.cond (.t 8) (.skip) (.exit 0)))
 (.seq (.block 1 (.rg [] [.op (some 11) (.c (.mv (.t 3))),
   .op (some 12) (.c (.mv (.t 0))),
   .op (some 13) (.c (.mv (.t 4))),
   .op (some 14) (.c (.idxA 4 (.t 12) (.t 13))),
   .op (some 15) (.c (.fldA 1 1 (.t 14))),
   .op (some 16) (.c (.ld 1 false (.t 15))),
   .op (some 17) (.c (.lenS (.t 16))),
   .op (some 18) (.c (.bin .add (.t 11) (.t 17))),
   .op (some 3) (.c (.mv (.t 18)))] [0, 3, 4] []))
 (.rg [] [.op (some 9) (.c (.mv (.t 4))),
   .op (some 10) (.c (.bin .add (.t 9) (.int .i64 1))),
   .op (some 4) (.c (.mv (.t 10)))] [0, 3, 4] []))
def ir15 : S := .seq (.rg [] [.op (some 2) (.c (.mv (.bool false)))] [0] [])
 (.seq (.rg [] [.op (some 3) (.c (.mv (.int .i64 0)))] [0, 3] [])
 (.seq (.seq (.rg [] [.op (some 4) (.c (.mv (.int .i64 0)))] [0, 3, 4] [])
 (.block 0 (.loop [0, 3, 4] ir15_l0)))
 (.seq (.rg [] [.op (some 19) (.c (.mv (.t 0))),
   .op (some 20) (.c (.lenL (.t 19))),
   .op (some 21) (.c (.bin .leq (.t 20) (.int .i64 200))),
   .op (some 22) (.c (.mv (.t 21))),
   .gop 22 true (some 23) (.c (.mv (.t 3))),
   .gop 22 true (some 24) (.c (.bin .leq (.t 23) (.int .i64 2000))),
   .op (some 25) (.c (.pick (.t 22) (.t 24) (.bool false))),
   .op (some 2) (.c (.mv (.t 25)))] [2] [])
 (.ret))))
theorem ok15 : fnOk Tryd.prog 15 1 ir15 [.t 2] = true := by kernel_rfl
/- testamur.lex.Text -/
def ir16_s0 : S := .rg [] [.op (some 30) (.c (.bin .add (.t 9) (.int .i64 1))),
   .op (some 9) (.c (.mv (.t 30)))] [4, 7, 8, 9] []
def ir16_s1 : S := .seq (.rg [] [.op (some 20) (.c (.fldA 0 0 (.t 6))),
   .op (some 21) (.c (.ld 1 false (.t 20))),
   .op (some 22) (.c (.bin .eql (.t 21) (.int .i64 2)))] [4, 6, 7, 8, 9, 22] [])
 (.cond (.t 22) (.rg [] [.op (some 23) (.c (.fldA 2 2 (.t 6))),
   .op (some 24) (.c (.ld 1 false (.t 23))),
   .op (some 25) (.pcall 39 [(.t 24)]),
   .op (some 26) (.call 38 [(.t 4), (.t 25)])] [4, 7, 8, 9] []) (.rg [] [.op (some 27) (.c (.fldA 1 1 (.t 6))),
   .op (some 28) (.c (.ld 1 false (.t 27))),
   .op (some 29) (.call 38 [(.t 4), (.t 28)])] [4, 7, 8, 9] []))
def ir16_l2 : S := .seq (.rg [] [.op (some 10) (.c (.bin .lss (.t 9) (.t 8)))] [4, 7, 8, 9, 10] [])
 (.seq (.cond (.t 10) (.skip) (.exit 0))
 (.seq (.block 1 (.seq (.rg [] [.op (some 11) (.c (.mv (.t 9))),
   .op (some 12) (.c (.idxA 4 (.t 7) (.t 9))),
   .op (some 13) (.c (.ld 4 true (.t 12))),
   .op (some 6) (.alloc 35 (.agg [.int .i64 0, .str [], .int .i64 0, .int .i64 0])),
   .op (some 5) (.c (.mv (.t 11))),
   .op none (.st 4 (.t 6) (.t 13))] [4, 5, 6, 7, 8, 9] [])
 (.seq (.seq (.rg [] [.op (some 14) (.c (.ld 4 true (.t 6))),
   .op (some 15) (.pcall 36 [(.t 14)]),
   .op (some 16) (.c (.not (.t 15)))] [4, 5, 6, 7, 8, 9, 16] [])
 (.cond (.t 16) (.seq (.rg [] [.op (some 2) (.c (.mv (.str []))),
   .op (some 3) (.c (.mv (.int .i64 90)))] [2, 3] [])
 (.ret)) (.skip)))
 (.seq (.seq (.rg [] [.op (some 17) (.c (.mv (.t 5))),
   .op (some 18) (.c (.bin .gtr (.t 17) (.int .i64 0)))] [4, 6, 7, 8, 9, 18] [])
 (.cond (.t 18) (.rg [] [.op (some 19) (.call 37 [(.t 4), (.int .u8 32)])] [4, 6, 7, 8, 9] []) (.skip)))
 (ir16_s1)))))
 (ir16_s0)))
def ir16 : S := .seq (.rg [] [.op (some 2) (.c (.mv (.str []))),
   .op (some 3) (.c (.mv (.int .i64 0)))] [0] [])
 (.seq (.rg [] [.op (some 4) (.alloc 54 (.agg [.nilp, .nils]))] [0, 4] [])
 (.seq (.seq (.rg [] [.op (some 7) (.c (.mv (.t 0))),
   .op (some 8) (.c (.lenL (.t 7))),
   .op (some 9) (.c (.mv (.int .i64 0)))] [4, 7, 8, 9] [])
 (.block 0 (.loop [4, 7, 8, 9] ir16_l2)))
 (.seq (.rg [] [.op (some 31) (.call 40 [(.t 4)]),
   .op (some 2) (.c (.mv (.t 31))),
   .op (some 3) (.c (.mv (.int .i64 0)))] [2, 3] [])
 (.ret))))
theorem ok16 : fnOk Tryd.prog 16 1 ir16 [.t 2, .t 3] = true := by kernel_rfl
/- testamur.testamurref09.Text -/
def ir17_s0 : S := .rg [] [.op (some 10) (.c (.mv (.t 5))),
   .op (some 11) (.c (.bin .add (.t 10) (.int .i64 1))),
   .op (some 5) (.c (.mv (.t 11)))] [0, 4, 5] []
def ir17_s1 : S := .seq (.rg [] [.op (some 22) (.c (.mv (.t 0))),
   .op (some 23) (.c (.mv (.t 5))),
   .op (some 24) (.c (.idxA 4 (.t 22) (.t 23))),
   .op (some 25) (.c (.fldA 0 0 (.t 24))),
   .op (some 26) (.c (.ld 1 false (.t 25))),
   .op (some 27) (.c (.bin .eql (.t 26) (.int .i64 2)))] [0, 4, 5, 27] [])
 (.cond (.t 27) (.rg [] [.op (some 28) (.c (.mv (.t 4))),
   .op (some 29) (.c (.mv (.t 0))),
   .op (some 30) (.c (.mv (.t 5))),
   .op (some 31) (.c (.idxA 4 (.t 29) (.t 30))),
   .op (some 32) (.c (.fldA 2 2 (.t 31))),
   .op (some 33) (.c (.ld 1 false (.t 32))),
   .op (some 34) (.pcall 42 [(.t 33)]),
   .op (some 35) (.c (.bin .add (.t 28) (.t 34))),
   .op (some 4) (.c (.mv (.t 35)))] [0, 4, 5] []) (.rg [] [.op (some 36) (.c (.mv (.t 4))),
   .op (some 37) (.c (.mv (.t 0))),
   .op (some 38) (.c (.mv (.t 5))),
   .op (some 39) (.c (.idxA 4 (.t 37) (.t 38))),
   .op (some 40) (.c (.fldA 1 1 (.t 39))),
   .op (some 41) (.c (.ld 1 false (.t 40))),
   .op (some 42) (.c (.bin .add (.t 36) (.t 41))),
   .op (some 4) (.c (.mv (.t 42)))] [0, 4, 5] []))
def ir17_l2 : S := .seq (.seq (.rg [] [.op (some 6) (.c (.mv (.t 5))),
   .op (some 7) (.c (.mv (.t 0))),
   .op (some 8) (.c (.lenL (.t 7))),
   .op (some 9) (.c (.bin .lss (.t 6) (.t 8)))] [0, 4, 5, 9] [])
 (.cond (.t 9) (.skip) (.exit 0)))
 (.seq (.block 1 (.seq (.seq (.rg [] [.op (some 12) (.c (.mv (.t 0))),
   .op (some 13) (.c (.mv (.t 5))),
   .op (some 14) (.c (.idxA 4 (.t 12) (.t 13))),
   .op (some 15) (.c (.ld 4 true (.t 14))),
   .op (some 16) (.pcall 41 [(.t 15)]),
   .op (some 17) (.c (.not (.t 16)))] [0, 4, 5, 17] [])
 (.cond (.t 17) (.seq (.rg [] [.op (some 2) (.c (.mv (.str []))),
   .op (some 3) (.c (.mv (.int .i64 90)))] [2, 3] [])
 (.ret)) (.skip)))
 (.seq (.seq (.rg [] [.op (some 18) (.c (.mv (.t 5))),
   .op (some 19) (.c (.bin .gtr (.t 18) (.int .i64 0)))] [0, 4, 5, 19] [])
 (.cond (.t 19) (.rg [] [.op (some 20) (.c (.mv (.t 4))),
   .op (some 21) (.c (.bin .add (.t 20) (.str [32]))),
   .op (some 4) (.c (.mv (.t 21)))] [0, 4, 5] []) (.skip)))
 (ir17_s1))))
 (ir17_s0))
def ir17 : S := .seq (.rg [] [.op (some 2) (.c (.mv (.str []))),
   .op (some 3) (.c (.mv (.int .i64 0)))] [0] [])
 (.seq (.rg [] [.op (some 4) (.c (.mv (.str [])))] [0, 4] [])
 (.seq (.seq (.rg [] [.op (some 5) (.c (.mv (.int .i64 0)))] [0, 4, 5] [])
 (.block 0 (.loop [0, 4, 5] ir17_l2)))
 (.seq (.rg [] [.op (some 43) (.c (.mv (.t 4))),
   .op (some 2) (.c (.mv (.t 43))),
   .op (some 3) (.c (.mv (.int .i64 0)))] [2, 3] [])
 (.ret))))
theorem ok17 : fnOk Tryd.prog 17 1 ir17 [.t 2, .t 3] = true := by kernel_rfl
/- testamur.lex.Same -/
def ir18_l0 : S := .seq (.rg [] [.op (some 14) (.c (.bin .lss (.t 13) (.t 12)))] [0, 1, 12, 13, 14] [])
 (.seq (.cond (.t 14) (.skip) (.exit 0))
 (.seq (.block 1 (.seq (.rg [] [.op (some 15) (.c (.mv (.t 13))),
   .op (some 5) (.c (.mv (.t 15)))] [0, 1, 5, 12, 13] [])
 (.seq (.rg [0, 1, 2, 3, 5, 6, 7, 8, 4, 9, 10, 11, 12, 13, 14, 15, 17, 18, 19, 20, 16, 21, 22, 23, 24, 25, 26, 27, 28, 30, 31, 32, 33, 29, 34, 35, 36] [.op (some 16) (.c (.mv (.t 0))),
   .op (some 17) (.c (.mv (.t 5))),
   .op (some 18) (.c (.idxA 4 (.t 16) (.t 17))),
   .op (some 19) (.c (.fldA 0 0 (.t 18))),
   .op (some 21) (.c (.mv (.t 1))),
   .op (some 22) (.c (.mv (.t 5))),
   .op (some 23) (.c (.idxA 4 (.t 21) (.t 22))),
   .op (some 24) (.c (.fldA 0 0 (.t 23))),
   .op (some 20) (.c (.ld 1 false (.t 19))),
   .op (some 25) (.c (.ld 1 false (.t 24))),
   .op (some 26) (.c (.bin .neq (.t 20) (.t 25))),
   .op (some 27) (.c (.mv (.t 26))),
   .gop 27 false (some 28) (.c (.mv (.t 0))),
   .gop 27 false (some 29) (.c (.mv (.t 5))),
   .gop 27 false (some 30) (.c (.idxA 4 (.t 28) (.t 29))),
   .gop 27 false (some 31) (.c (.fldA 1 1 (.t 30))),
   .gop 27 false (some 33) (.c (.mv (.t 1))),
   .gop 27 false (some 34) (.c (.mv (.t 5))),
   .gop 27 false (some 35) (.c (.idxA 4 (.t 33) (.t 34))),
   .gop 27 false (some 36) (.c (.fldA 1 1 (.t 35))),
   .gop 27 false (some 32) (.c (.ld 1 false (.t 31))),
   .gop 27 false (some 37) (.c (.ld 1 false (.t 36))),
   .gop 27 false (some 38) (.c (.bin .neq (.t 32) (.t 37))),
   .op (some 39) (.c (.pick (.t 27) (.bool true) (.t 38))),
   .op (some 40) (.c (.mv (.t 39))),
   .gop 40 false (some 41) (.c (.mv (.t 0))),
   .gop 40 false (some 42) (.c (.mv (.t 5))),
   .gop 40 false (some 43) (.c (.idxA 4 (.t 41) (.t 42))),
   .gop 40 false (some 44) (.c (.fldA 2 2 (.t 43))),
   .gop 40 false (some 46) (.c (.mv (.t 1))),
   .gop 40 false (some 47) (.c (.mv (.t 5))),
   .gop 40 false (some 48) (.c (.idxA 4 (.t 46) (.t 47))),
   .gop 40 false (some 49) (.c (.fldA 2 2 (.t 48))),
   .gop 40 false (some 45) (.c (.ld 1 false (.t 44))),
   .gop 40 false (some 50) (.c (.ld 1 false (.t 49))),
   .gop 40 false (some 51) (.c (.bin .neq (.t 45) (.t 50))),
   .op (some 52) (.c (.pick (.t 40) (.bool true) (.t 51)))] [0, 1, 12, 13, 52] [])
 (.cond (.t 52) (.seq (.rg [] [.op (some 4) (.c (.mv (.bool false)))] [4] [])
 (.ret)) (.skip)))))
 (.rg [] [.op (some 53) (.c (.bin .add (.t 13) (.int .i64 1))),
   .op (some 13) (.c (.mv (.t 53)))] [0, 1, 12, 13] [])))
def ir18 : S := .seq (.rg [] [.op (some 4) (.c (.mv (.bool false)))] [0, 1] [])
 (.seq (.seq (.rg [] [.op (some 6) (.c (.mv (.t 0))),
   .op (some 7) (.c (.lenL (.t 6))),
   .op (some 8) (.c (.mv (.t 1))),
   .op (some 9) (.c (.lenL (.t 8))),
   .op (some 10) (.c (.bin .neq (.t 7) (.t 9)))] [0, 1, 10] [])
 (.cond (.t 10) (.seq (.rg [] [.op (some 4) (.c (.mv (.bool false)))] [4] [])
 (.ret)) (.skip)))
 (.seq (.seq (.rg [] [.op (some 11) (.c (.mv (.t 0))),
   .op (some 12) (.c (.lenL (.t 11))),
   .op (some 13) (.c (.mv (.int .i64 0)))] [0, 1, 12, 13] [])
 (.block 0 (.loop [0, 1, 12, 13] ir18_l0)))
 (.seq (.rg [] [.op (some 4) (.c (.mv (.bool true)))] [4] [])
 (.ret))))
theorem ok18 : fnOk Tryd.prog 18 2 ir18 [.t 4] = true := by kernel_rfl
/- testamur.testamurref09.Same -/
def ir19_l0 : S := .seq (.seq (.rg [] [.op (some 11) (.c (.mv (.t 5))),
   .op (some 12) (.c (.mv (.t 0))),
   .op (some 13) (.c (.lenL (.t 12))),
   .op (some 14) (.c (.bin .lss (.t 11) (.t 13)))] [0, 1, 5, 14] [])
 (.cond (.t 14) (.skip) (.exit 0)))
 (.seq (.block 1 (.seq (.rg [0, 1, 2, 3, 5, 6, 7, 8, 4, 9, 10, 11, 12, 13, 14, 15, 17, 18, 19, 20, 16, 21, 22, 23, 24, 25, 26, 27, 28, 30, 31, 32, 33, 29, 34, 35, 36] [.op (some 17) (.c (.mv (.t 0))),
   .op (some 18) (.c (.mv (.t 5))),
   .op (some 19) (.c (.idxA 4 (.t 17) (.t 18))),
   .op (some 20) (.c (.fldA 0 0 (.t 19))),
   .op (some 22) (.c (.mv (.t 1))),
   .op (some 23) (.c (.mv (.t 5))),
   .op (some 24) (.c (.idxA 4 (.t 22) (.t 23))),
   .op (some 25) (.c (.fldA 0 0 (.t 24))),
   .op (some 21) (.c (.ld 1 false (.t 20))),
   .op (some 26) (.c (.ld 1 false (.t 25))),
   .op (some 27) (.c (.bin .neq (.t 21) (.t 26))),
   .op (some 28) (.c (.mv (.t 27))),
   .gop 28 false (some 29) (.c (.mv (.t 0))),
   .gop 28 false (some 30) (.c (.mv (.t 5))),
   .gop 28 false (some 31) (.c (.idxA 4 (.t 29) (.t 30))),
   .gop 28 false (some 32) (.c (.fldA 1 1 (.t 31))),
   .gop 28 false (some 34) (.c (.mv (.t 1))),
   .gop 28 false (some 35) (.c (.mv (.t 5))),
   .gop 28 false (some 36) (.c (.idxA 4 (.t 34) (.t 35))),
   .gop 28 false (some 37) (.c (.fldA 1 1 (.t 36))),
   .gop 28 false (some 33) (.c (.ld 1 false (.t 32))),
   .gop 28 false (some 38) (.c (.ld 1 false (.t 37))),
   .gop 28 false (some 39) (.c (.bin .neq (.t 33) (.t 38))),
   .op (some 40) (.c (.pick (.t 28) (.bool true) (.t 39))),
   .op (some 41) (.c (.mv (.t 40))),
   .gop 41 false (some 42) (.c (.mv (.t 0))),
   .gop 41 false (some 43) (.c (.mv (.t 5))),
   .gop 41 false (some 44) (.c (.idxA 4 (.t 42) (.t 43))),
   .gop 41 false (some 45) (.c (.fldA 2 2 (.t 44))),
   .gop 41 false (some 47) (.c (.mv (.t 1))),
   .gop 41 false (some 48) (.c (.mv (.t 5))),
   .gop 41 false (some 49) (.c (.idxA 4 (.t 47) (.t 48))),
   .gop 41 false (some 50) (.c (.fldA 2 2 (.t 49))),
   .gop 41 false (some 46) (.c (.ld 1 false (.t 45))),
   .gop 41 false (some 51) (.c (.ld 1 false (.t 50))),
   .gop 41 false (some 52) (.c (.bin .neq (.t 46) (.t 51))),
   .op (some 53) (.c (.pick (.t 41) (.bool true) (.t 52)))] [0, 1, 5, 53] [])
 (.cond (.t 53) (.seq (.rg [] [.op (some 4) (.c (.mv (.bool false)))] [4] [])
 (.ret)) (.skip))))
 (.rg [] [.op (some 15) (.c (.mv (.t 5))),
   .op (some 16) (.c (.bin .add (.t 15) (.int .i64 1))),
   .op (some 5) (.c (.mv (.t 16)))] [0, 1, 5] []))
def ir19 : S := .seq (.rg [] [.op (some 4) (.c (.mv (.bool false)))] [0, 1] [])
 (.seq (.seq (.rg [] [.op (some 6) (.c (.mv (.t 0))),
   .op (some 7) (.c (.lenL (.t 6))),
   .op (some 8) (.c (.mv (.t 1))),
   .op (some 9) (.c (.lenL (.t 8))),
   .op (some 10) (.c (.bin .neq (.t 7) (.t 9)))] [0, 1, 10] [])
 (.cond (.t 10) (.seq (.rg [] [.op (some 4) (.c (.mv (.bool false)))] [4] [])
 (.ret)) (.skip)))
 (.seq (.seq (.rg [] [.op (some 5) (.c (.mv (.int .i64 0)))] [0, 1, 5] [])
 (.block 0 (.loop [0, 1, 5] ir19_l0)))
 (.seq (.rg [] [.op (some 4) (.c (.mv (.bool true)))] [4] [])
 (.ret))))
theorem ok19 : fnOk Tryd.prog 19 2 ir19 [.t 4] = true := by kernel_rfl
/- testamur.lex.Name -/
def ir20_l0 : S := .seq (.rg [] [.op (some 16) (.c (.bin .lss (.t 15) (.t 14)))] [0, 14, 15, 16] [])
 (.seq (.cond (.t 16) (.skip) (.exit 0))
 (.seq (.block 1 (.seq (.rg [] [.op (some 17) (.c (.mv (.t 15))),
   .op (some 3) (.c (.mv (.t 17)))] [0, 3, 14, 15] [])
 (.seq (.rg [] [.op (some 18) (.c (.mv (.t 0))),
   .op (some 19) (.c (.mv (.t 3))),
   .op (some 20) (.c (.idx (.t 18) (.t 19))),
   .op (some 4) (.c (.mv (.t 20)))] [0, 3, 4, 14, 15] [])
 (.seq (.rg [] [.op (some 21) (.c (.mv (.t 4))),
   .op (some 22) (.c (.bin .geq (.t 21) (.int .u8 65))),
   .op (some 23) (.c (.mv (.t 22))),
   .gop 23 true (some 24) (.c (.mv (.t 4))),
   .gop 23 true (some 25) (.c (.bin .leq (.t 24) (.int .u8 90))),
   .op (some 26) (.c (.pick (.t 23) (.t 25) (.bool false))),
   .op (some 27) (.c (.mv (.t 26))),
   .gop 27 false (some 28) (.c (.mv (.t 4))),
   .gop 27 false (some 29) (.c (.bin .geq (.t 28) (.int .u8 97))),
   .gop 27 false (some 30) (.c (.mv (.t 29))),
   .gop 30 true (some 31) (.c (.mv (.t 4))),
   .gop 30 true (some 32) (.c (.bin .leq (.t 31) (.int .u8 122))),
   .gop 27 false (some 33) (.c (.pick (.t 30) (.t 32) (.bool false))),
   .op (some 34) (.c (.pick (.t 27) (.bool true) (.t 33))),
   .op (some 5) (.c (.mv (.t 34)))] [0, 3, 4, 5, 14, 15] [])
 (.seq (.rg [] [.op (some 35) (.c (.mv (.t 5))),
   .op (some 36) (.c (.not (.t 35))),
   .op (some 37) (.c (.mv (.t 36))),
   .gop 37 true (some 38) (.c (.mv (.t 3))),
   .gop 37 true (some 39) (.c (.bin .eql (.t 38) (.int .i64 0))),
   .gop 37 true (some 40) (.c (.mv (.t 39))),
   .gop 40 false (some 41) (.c (.mv (.t 4))),
   .gop 40 false (some 42) (.c (.bin .neq (.t 41) (.int .u8 95))),
   .gop 40 false (some 43) (.c (.mv (.t 42))),
   .gop 43 true (some 44) (.c (.mv (.t 4))),
   .gop 43 true (some 45) (.c (.bin .lss (.t 44) (.int .u8 48))),
   .gop 43 true (some 46) (.c (.mv (.t 45))),
   .gop 46 false (some 47) (.c (.mv (.t 4))),
   .gop 46 false (some 48) (.c (.bin .gtr (.t 47) (.int .u8 57))),
   .gop 43 true (some 49) (.c (.pick (.t 46) (.bool true) (.t 48))),
   .gop 40 false (some 50) (.c (.pick (.t 43) (.t 49) (.bool false))),
   .gop 37 true (some 51) (.c (.pick (.t 40) (.bool true) (.t 50))),
   .op (some 52) (.c (.pick (.t 37) (.t 51) (.bool false)))] [0, 14, 15, 52] [])
 (.cond (.t 52) (.seq (.rg [] [.op (some 2) (.c (.mv (.bool false)))] [2] [])
 (.ret)) (.skip)))))))
 (.rg [] [.op (some 53) (.c (.bin .add (.t 15) (.int .i64 1))),
   .op (some 15) (.c (.mv (.t 53)))] [0, 14, 15] [])))
def ir20 : S := .seq (.rg [] [.op (some 2) (.c (.mv (.bool false)))] [0] [])
 (.seq (.seq (.rg [] [.op (some 6) (.c (.mv (.t 0))),
   .op (some 7) (.c (.bin .eql (.t 6) (.str []))),
   .op (some 8) (.c (.mv (.t 7))),
   .gop 8 false (some 9) (.c (.mv (.t 0))),
   .gop 8 false (some 10) (.c (.lenS (.t 9))),
   .gop 8 false (some 11) (.c (.bin .gtr (.t 10) (.int .i64 32))),
   .op (some 12) (.c (.pick (.t 8) (.bool true) (.t 11)))] [0, 12] [])
 (.cond (.t 12) (.seq (.rg [] [.op (some 2) (.c (.mv (.bool false)))] [2] [])
 (.ret)) (.skip)))
 (.seq (.seq (.rg [] [.op (some 13) (.c (.mv (.t 0))),
   .op (some 14) (.c (.lenS (.t 13))),
   .op (some 15) (.c (.mv (.int .i64 0)))] [0, 14, 15] [])
 (.block 0 (.loop [0, 14, 15] ir20_l0)))
 (.seq (.rg [] [.op (some 2) (.c (.mv (.bool true)))] [2] [])
 (.ret))))
theorem ok20 : fnOk Tryd.prog 20 1 ir20 [.t 2] = true := by kernel_rfl
/- testamur.testamurref09.Name -/
def ir21_l0 : S := .seq (.seq (.rg [] [.op (some 18) (.c (.mv (.t 3))),
   .op (some 19) (.c (.mv (.t 0))),
   .op (some 20) (.c (.lenS (.t 19))),
   .op (some 21) (.c (.bin .lss (.t 18) (.t 20)))] [0, 3, 21] [])
 (.cond (.t 21) (.skip) (.exit 0)))
 (.seq (.block 1 (.seq (.rg [] [.op (some 24) (.c (.mv (.t 0))),
   .op (some 25) (.c (.mv (.t 3))),
   .op (some 26) (.c (.idx (.t 24) (.t 25))),
   .op (some 27) (.pcall 32 [(.t 26)]),
   .op (some 28) (.c (.not (.t 27)))] [0, 3, 28] [])
 (.cond (.t 28) (.seq (.rg [] [.op (some 2) (.c (.mv (.bool false)))] [2] [])
 (.ret)) (.skip))))
 (.rg [] [.op (some 22) (.c (.mv (.t 3))),
   .op (some 23) (.c (.bin .add (.t 22) (.int .i64 1))),
   .op (some 3) (.c (.mv (.t 23)))] [0, 3] []))
def ir21 : S := .seq (.rg [] [.op (some 2) (.c (.mv (.bool false)))] [0] [])
 (.seq (.seq (.rg [] [.op (some 4) (.c (.mv (.t 0))),
   .op (some 5) (.c (.lenS (.t 4))),
   .op (some 6) (.c (.bin .lss (.t 5) (.int .i64 1))),
   .op (some 7) (.c (.mv (.t 6))),
   .gop 7 false (some 8) (.c (.mv (.t 0))),
   .gop 7 false (some 9) (.c (.lenS (.t 8))),
   .gop 7 false (some 10) (.c (.bin .gtr (.t 9) (.int .i64 32))),
   .op (some 11) (.c (.pick (.t 7) (.bool true) (.t 10))),
   .op (some 12) (.c (.mv (.t 11))),
   .gop 12 false (some 13) (.c (.mv (.t 0))),
   .gop 12 false (some 14) (.c (.idx (.t 13) (.int .i64 0))),
   .gop 12 false (some 15) (.pcall 31 [(.t 14)]),
   .gop 12 false (some 16) (.c (.not (.t 15))),
   .op (some 17) (.c (.pick (.t 12) (.bool true) (.t 16)))] [0, 17] [])
 (.cond (.t 17) (.seq (.rg [] [.op (some 2) (.c (.mv (.bool false)))] [2] [])
 (.ret)) (.skip)))
 (.seq (.seq (.rg [] [.op (some 3) (.c (.mv (.int .i64 0)))] [0, 3] [])
 (.block 0 (.loop [0, 3] ir21_l0)))
 (.seq (.rg [] [.op (some 2) (.c (.mv (.bool true)))] [2] [])
 (.ret))))
theorem ok21 : fnOk Tryd.prog 21 1 ir21 [.t 2] = true := by kernel_rfl
/- testamur.testamurref09.Space -/
def ir22 : S := .seq (.rg [] [.op (some 2) (.c (.mv (.bool false)))] [0] [])
 (.seq (.rg [] [.op (some 3) (.c (.mv (.t 0))),
   .op (some 4) (.c (.bin .eql (.t 3) (.int .u8 32))),
   .op (some 5) (.c (.mv (.t 4))),
   .gop 5 false (some 6) (.c (.mv (.t 0))),
   .gop 5 false (some 7) (.c (.bin .eql (.t 6) (.int .u8 9))),
   .op (some 8) (.c (.pick (.t 5) (.bool true) (.t 7))),
   .op (some 9) (.c (.mv (.t 8))),
   .gop 9 false (some 10) (.c (.mv (.t 0))),
   .gop 9 false (some 11) (.c (.bin .eql (.t 10) (.int .u8 10))),
   .op (some 12) (.c (.pick (.t 9) (.bool true) (.t 11))),
   .op (some 13) (.c (.mv (.t 12))),
   .gop 13 false (some 14) (.c (.mv (.t 0))),
   .gop 13 false (some 15) (.c (.bin .eql (.t 14) (.int .u8 13))),
   .op (some 16) (.c (.pick (.t 13) (.bool true) (.t 15))),
   .op (some 2) (.c (.mv (.t 16)))] [2] [])
 (.ret))
theorem ok22 : fnOk Tryd.prog 22 1 ir22 [.t 2] = true := by kernel_rfl
/- testamur.testamurlaw09.spelled -/
def ir23_l0 : S := .seq (.block 1 (.seq (.rg [] [.op (some 14) (.c (.mv (.t 4))),
   .op (some 15) (.c (.bin .rem (.t 14) (.int .i64 10))),
   .op (some 16) (.c (.bin .add (.int .i64 48) (.t 15))),
   .op (some 17) (.c (.cvi .u8 (.t 16))),
   .op (some 18) (.bls 1 [.int .u8 0] [(0, (.t 17))]),
   .op (some 19) (.b2s (.t 18)),
   .op (some 20) (.c (.mv (.t 3))),
   .op (some 21) (.c (.bin .add (.t 19) (.t 20))),
   .op (some 3) (.c (.mv (.t 21)))] [3, 4] [])
 (.seq (.rg [] [.op (some 22) (.c (.mv (.t 4))),
   .op (some 23) (.c (.bin .lss (.t 22) (.int .i64 10)))] [3, 4, 23] [])
 (.cond (.t 23) (.seq (.rg [] [.op (some 24) (.c (.mv (.t 3))),
   .op (some 2) (.c (.mv (.t 24)))] [2] [])
 (.ret)) (.skip)))))
 (.rg [] [.op (some 12) (.c (.mv (.t 4))),
   .op (some 13) (.c (.bin .quo (.t 12) (.int .i64 10))),
   .op (some 4) (.c (.mv (.t 13)))] [3, 4] [])
def ir23 : S := .seq (.rg [] [.op (some 1) (.box 35 (.t 0)),
   .op (some 2) (.c (.mv (.str [])))] [1] [])
 (.seq (.seq (.rg [] [.op (some 5) (.c (.fldA 0 0 (.t 1))),
   .op (some 6) (.c (.ld 1 false (.t 5))),
   .op (some 7) (.c (.bin .neq (.t 6) (.int .i64 2)))] [1, 7] [])
 (.cond (.t 7) (.seq (.rg [] [.op (some 8) (.c (.fldA 1 1 (.t 1))),
   .op (some 9) (.c (.ld 1 false (.t 8))),
   .op (some 2) (.c (.mv (.t 9)))] [2] [])
 (.ret)) (.skip)))
 (.seq (.rg [] [.op (some 3) (.c (.mv (.str [])))] [1, 3] [])
 (.seq (.rg [] [.op (some 10) (.c (.fldA 2 2 (.t 1))),
   .op (some 11) (.c (.ld 1 false (.t 10))),
   .op (some 4) (.c (.mv (.t 11)))] [3, 4] [])
 (.block 0 (.loop [3, 4] ir23_l0)))))
theorem ok23 : fnOk Tryd.prog 23 1 ir23 [.t 2] = true := by kernel_rfl
/- testamur.lex.Lex$1 -/
def ir24_s0 : S := .rg [] [.op (some 17) (.c (.mv (.t 4))),
   .op none (.st 1 (.t 0) .nils),
   .op none (.st 1 (.t 1) (.t 17)),
   .op none (.st 1 (.t 2) (.int .i64 90))] [] []
def ir24_r : List It := [.op (some 3) (.c (.mv (.t 6)))]
def ir24_k : List Nat := [0, 1, 2, 3]
def ir24 : S := .seq (.rg [] [.op (some 7) (.c (.mv (.t 3))),
   .op (some 8) (.c (.isnil false (.t 7)))] [0, 1, 2, 3, 8] [])
 (.cond (.t 8) (.seq (.rg [] [.op (some 10) (.c (.mv (.t 3))),
   .op (some 11) (.c (.tas 42 (.int .i64 0) (.t 10))),
   .op (some 9) (.c (.mv (.t 11))),
   .op (some 12) (.c (.ext (.t 9) 0)),
   .op (some 13) (.c (.ext (.t 9) 1)),
   .op (some 4) (.c (.mv (.t 12))),
   .op (some 5) (.c (.mv (.t 13)))] [0, 1, 2, 3, 4, 5] [])
 (.seq (.seq (.rg [] [.op (some 14) (.c (.mv (.t 5))),
   .op (some 15) (.c (.not (.t 14)))] [0, 1, 2, 3, 4, 15] [])
 (.cond (.t 15) (.rg [] [.op (some 16) (.c (.mv (.t 3))),
   .op none (.panic (.t 16))] [0, 1, 2, 4] []) (.skip)))
 (ir24_s0))) (.skip))
theorem ok24 : dfnOk Tryd.prog 24 3 6 ir24_r ir24 = true := by kernel_rfl
/- testamur.lex.classify -/
def ir25_l0 : S := .seq (.rg [] [.op (some 38) (.c (.bin .lss (.t 37) (.t 36)))] [0, 35, 36, 37, 38] [])
 (.seq (.cond (.t 38) (.skip) (.exit 6))
 (.seq (.block 7 (.seq (.rg [] [.op (some 39) (.c (.idxA 1 (.t 35) (.t 37))),
   .op (some 40) (.c (.ld 1 false (.t 39))),
   .op (some 6) (.c (.mv (.t 40)))] [0, 6, 35, 36, 37] [])
 (.rg [] [.op (some 41) (.c (.mv (.t 6))),
   .op (some 42) (.c (.idxP 256 1 (.t 0) (.t 41))),
   .op none (.st 1 (.t 42) (.int .i64 4))] [0, 35, 36, 37] [])))
 (.rg [] [.op (some 43) (.c (.bin .add (.t 37) (.int .i64 1))),
   .op (some 37) (.c (.mv (.t 43)))] [0, 35, 36, 37] [])))
def ir25_l1 : S := .seq (.rg [] [.op (some 28) (.c (.bin .lss (.t 27) (.t 26)))] [0, 25, 26, 27, 28] [])
 (.seq (.cond (.t 28) (.skip) (.exit 4))
 (.seq (.block 5 (.seq (.rg [] [.op (some 29) (.c (.idxA 1 (.t 25) (.t 27))),
   .op (some 30) (.c (.ld 1 false (.t 29))),
   .op (some 4) (.c (.mv (.t 30)))] [0, 4, 25, 26, 27] [])
 (.rg [] [.op (some 31) (.c (.mv (.t 4))),
   .op (some 32) (.c (.idxP 256 1 (.t 0) (.t 31))),
   .op none (.st 1 (.t 32) (.int .i64 1))] [0, 25, 26, 27] [])))
 (.rg [] [.op (some 33) (.c (.bin .add (.t 27) (.int .i64 1))),
   .op (some 27) (.c (.mv (.t 33)))] [0, 25, 26, 27] [])))
def ir25_l2 : S := .seq (.rg [] [.op (some 18) (.c (.bin .lss (.t 17) (.int .i64 10)))] [0, 17, 18] [])
 (.seq (.cond (.t 18) (.skip) (.exit 2))
 (.seq (.block 3 (.seq (.rg [] [.op (some 19) (.c (.mv (.t 17))),
   .op (some 2) (.c (.mv (.t 19)))] [0, 2, 17] [])
 (.rg [] [.op (some 20) (.c (.mv (.t 2))),
   .op (some 21) (.c (.bin .add (.int .i64 48) (.t 20))),
   .op (some 22) (.c (.idxP 256 1 (.t 0) (.t 21))),
   .op none (.st 1 (.t 22) (.int .i64 3))] [0, 17] [])))
 (.rg [] [.op (some 23) (.c (.bin .add (.t 17) (.int .i64 1))),
   .op (some 17) (.c (.mv (.t 23)))] [0, 17] [])))
def ir25_l3 : S := .seq (.rg [] [.op (some 8) (.c (.bin .lss (.t 7) (.int .i64 26)))] [0, 7, 8] [])
 (.seq (.cond (.t 8) (.skip) (.exit 0))
 (.seq (.block 1 (.seq (.rg [] [.op (some 9) (.c (.mv (.t 7))),
   .op (some 1) (.c (.mv (.t 9)))] [0, 1, 7] [])
 (.rg [] [.op (some 10) (.c (.mv (.t 1))),
   .op (some 11) (.c (.bin .add (.int .i64 65) (.t 10))),
   .op (some 12) (.c (.mv (.t 1))),
   .op (some 13) (.c (.bin .add (.int .i64 97) (.t 12))),
   .op (some 14) (.c (.idxP 256 1 (.t 0) (.t 11))),
   .op none (.st 1 (.t 14) (.int .i64 2)),
   .op (some 15) (.c (.idxP 256 1 (.t 0) (.t 13))),
   .op none (.st 1 (.t 15) (.int .i64 2))] [0, 7] [])))
 (.rg [] [.op (some 16) (.c (.bin .add (.t 7) (.int .i64 1))),
   .op (some 7) (.c (.mv (.t 16)))] [0, 7] [])))
def ir25 : S := .seq (.rg [] [.op (some 0) (.alloc 45 (.agg (List.replicate 256 (.int .i64 0))))] [0] [])
 (.seq (.seq (.rg [] [.op (some 7) (.c (.mv (.int .i64 0)))] [0, 7] [])
 (.block 0 (.loop [0, 7] ir25_l3)))
 (.seq (.seq (.rg [] [.op (some 17) (.c (.mv (.int .i64 0)))] [0, 17] [])
 (.block 2 (.loop [0, 17] ir25_l2)))
 (.seq (.seq (.rg [] [.op (some 24) (.blo 5 1 [.int .u8 0, .int .u8 0, .int .u8 0, .int .u8 0] [(0, (.int .u8 32)), (1, (.int .u8 9)), (2, (.int .u8 10)), (3, (.int .u8 13))]),
   .op (some 25) (.cvb (.t 24)),
   .op (some 26) (.c (.lenL (.t 25))),
   .op (some 27) (.c (.mv (.int .i64 0)))] [0, 25, 26, 27] [])
 (.block 4 (.loop [0, 25, 26, 27] ir25_l1)))
 (.seq (.seq (.rg [] [.op (some 34) (.blo 5 1 (List.replicate 15 (.int .u8 0)) [(0, (.int .u8 123)), (1, (.int .u8 125)), (2, (.int .u8 40)), (3, (.int .u8 41)), (4, (.int .u8 59)), (5, (.int .u8 44)), (6, (.int .u8 61)), (7, (.int .u8 35)), (8, (.int .u8 47)), (9, (.int .u8 60)), (10, (.int .u8 33)), (11, (.int .u8 45)), (12, (.int .u8 46)), (13, (.int .u8 58)), (14, (.int .u8 43))]),
   .op (some 35) (.cvb (.t 34)),
   .op (some 36) (.c (.lenL (.t 35))),
   .op (some 37) (.c (.mv (.int .i64 0)))] [0, 35, 36, 37] [])
 (.block 6 (.loop [0, 35, 36, 37] ir25_l0)))
 (.seq (.rg [] [.op (some 44) (.c (.ld 256 true (.t 0))),
   .op none (.st 256 (.t 0) (.t 44))] [0] [])
 (.ret))))))
theorem ok25 : fnOk Tryd.prog 25 0 ir25 [.c 0 256 true] = true := by kernel_rfl
/- (*testamur.lex.scanner).other -/
def ir26 : S := .rg [] [.op (some 2) (.c (.mv (.t 0))),
   .op (some 3) (.c (.nilc (.t 2))),
   .op (some 4) (.c (.fldA 1 1 (.t 3))),
   .op (some 5) (.c (.ld 1 false (.t 4))),
   .op (some 6) (.c (.mki 42 (.t 5))),
   .op none (.panic (.t 6))] [] []
theorem ok26 : fnOk Tryd.prog 26 1 ir26 [] = true := by kernel_rfl
/- (*testamur.lex.scanner).space -/
def ir27 : S := .rg [] [.op (some 2) (.c (.mv (.t 0))),
   .op (some 3) (.c (.nilc (.t 2))),
   .op (some 4) (.c (.fldA 1 1 (.t 3))),
   .op (some 5) (.c (.ld 1 false (.t 4))),
   .op (some 6) (.c (.bin .add (.t 5) (.int .i64 1))),
   .op (some 7) (.c (.nilc (.t 2))),
   .op (some 8) (.c (.fldA 1 1 (.t 7))),
   .op none (.st 1 (.t 8) (.t 6))] [] []
theorem ok27 : fnOk Tryd.prog 27 1 ir27 [] = true := by kernel_rfl
/- (*testamur.lex.scanner).name -/
def ir28_s0 : S := .rg [] [.op (some 14) (.c (.ld 1 false (.t 1))),
   .op (some 15) (.c (.mv (.t 2))),
   .op (some 16) (.c (.bld [.int .i64 0, .str [], .int .i64 0, .int .i64 0] [(0, (.int .i64 1)), (1, (.t 15))])),
   .op (some 17) (.c (.mv (.t 2))),
   .op (some 18) (.c (.lenS (.t 17))),
   .op (some 19) (.call 45 [(.t 14), (.t 16), (.t 18)])] [] []
def ir28 : S := .seq (.rg [] [.op (some 1) (.box 44 (.t 0))] [1] [])
 (.seq (.rg [] [.op (some 3) (.c (.ld 1 false (.t 1))),
   .op (some 4) (.c (.mkf 44 [] [(.t 1)])),
   .op (some 5) (.pcall 43 [(.t 3), (.t 4)]),
   .op (some 2) (.c (.mv (.t 5)))] [1, 2] [])
 (.seq (.seq (.rg [] [.op (some 6) (.c (.mv (.t 2))),
   .op (some 7) (.c (.lenS (.t 6))),
   .op (some 8) (.c (.bin .gtr (.t 7) (.int .i64 32)))] [1, 2, 8] [])
 (.cond (.t 8) (.rg [] [.op (some 9) (.c (.ld 1 false (.t 1))),
   .op (some 10) (.c (.nilc (.t 9))),
   .op (some 11) (.c (.fldA 1 1 (.t 10))),
   .op (some 12) (.c (.ld 1 false (.t 11))),
   .op (some 13) (.c (.mki 42 (.t 12))),
   .op none (.panic (.t 13))] [1, 2] []) (.skip)))
 (ir28_s0)))
theorem ok28 : fnOk Tryd.prog 28 1 ir28 [] = true := by kernel_rfl
/- (*testamur.lex.scanner).number -/
def ir29_s0 : S := .rg [] [.op (some 37) (.c (.bin .add (.t 10) (.int .i64 1))),
   .op (some 10) (.c (.mv (.t 37)))] [1, 2, 3, 9, 10] []
def ir29_l1 : S := .seq (.rg [] [.op (some 11) (.c (.bin .lss (.t 10) (.t 9)))] [1, 2, 3, 9, 10, 11] [])
 (.seq (.cond (.t 11) (.skip) (.exit 0))
 (.seq (.block 1 (.seq (.rg [] [.op (some 12) (.c (.mv (.t 10))),
   .op (some 4) (.c (.mv (.t 12)))] [1, 2, 3, 4, 9, 10] [])
 (.seq (.rg [] [.op (some 13) (.c (.mv (.t 3))),
   .op (some 14) (.c (.bin .mul (.int .i64 10) (.t 13))),
   .op (some 15) (.c (.mv (.t 2))),
   .op (some 16) (.c (.mv (.t 4))),
   .op (some 17) (.c (.idx (.t 15) (.t 16))),
   .op (some 18) (.c (.bin .sub (.t 17) (.int .u8 48))),
   .op (some 19) (.c (.cvi .i64 (.t 18))),
   .op (some 20) (.c (.bin .add (.t 14) (.t 19))),
   .op (some 3) (.c (.mv (.t 20)))] [1, 2, 3, 4, 9, 10] [])
 (.seq (.rg [] [.op (some 21) (.c (.mv (.t 3))),
   .op (some 22) (.c (.bin .gtr (.t 21) (.int .i64 1099511627776))),
   .op (some 23) (.c (.mv (.t 22))),
   .gop 23 false (some 24) (.c (.mv (.t 4))),
   .gop 23 false (some 25) (.c (.bin .gtr (.t 24) (.int .i64 0))),
   .gop 23 false (some 26) (.c (.mv (.t 25))),
   .gop 26 true (some 27) (.c (.mv (.t 2))),
   .gop 26 true (some 28) (.c (.idx (.t 27) (.int .i64 0))),
   .gop 26 true (some 29) (.c (.bin .eql (.t 28) (.int .u8 48))),
   .gop 23 false (some 30) (.c (.pick (.t 26) (.t 29) (.bool false))),
   .op (some 31) (.c (.pick (.t 23) (.bool true) (.t 30)))] [1, 2, 3, 9, 10, 31] [])
 (.cond (.t 31) (.rg [] [.op (some 32) (.c (.ld 1 false (.t 1))),
   .op (some 33) (.c (.nilc (.t 32))),
   .op (some 34) (.c (.fldA 1 1 (.t 33))),
   .op (some 35) (.c (.ld 1 false (.t 34))),
   .op (some 36) (.c (.mki 42 (.t 35))),
   .op none (.panic (.t 36))] [1, 2, 3, 9, 10] []) (.skip))))))
 (ir29_s0)))
def ir29 : S := .seq (.rg [] [.op (some 1) (.box 44 (.t 0))] [1] [])
 (.seq (.rg [] [.op (some 5) (.c (.ld 1 false (.t 1))),
   .op (some 6) (.c (.mkf 46 [] [(.t 1)])),
   .op (some 7) (.pcall 43 [(.t 5), (.t 6)]),
   .op (some 2) (.c (.mv (.t 7)))] [1, 2] [])
 (.seq (.rg [] [.op (some 3) (.c (.mv (.int .i64 0)))] [1, 2, 3] [])
 (.seq (.seq (.rg [] [.op (some 8) (.c (.mv (.t 2))),
   .op (some 9) (.c (.lenS (.t 8))),
   .op (some 10) (.c (.mv (.int .i64 0)))] [1, 2, 3, 9, 10] [])
 (.block 0 (.loop [1, 2, 3, 9, 10] ir29_l1)))
 (.rg [] [.op (some 38) (.c (.ld 1 false (.t 1))),
   .op (some 39) (.c (.mv (.t 3))),
   .op (some 40) (.c (.bld [.int .i64 0, .str [], .int .i64 0, .int .i64 0] [(0, (.int .i64 2)), (2, (.t 39))])),
   .op (some 41) (.c (.mv (.t 2))),
   .op (some 42) (.c (.lenS (.t 41))),
   .op (some 43) (.call 45 [(.t 38), (.t 40), (.t 42)])] [] []))))
theorem ok29 : fnOk Tryd.prog 29 1 ir29 [] = true := by kernel_rfl
/- (*testamur.lex.scanner).sign -/
def ir30 : S := .seq (.seq (.rg [0, 1, 2, 4, 5, 6, 3, 7, 8, 9] [.op (some 2) (.c (.mv (.t 0))),
   .op (some 3) (.c (.nilc (.t 2))),
   .op (some 4) (.c (.fldA 0 0 (.t 3))),
   .op (some 6) (.c (.mv (.t 0))),
   .op (some 7) (.c (.nilc (.t 6))),
   .op (some 8) (.c (.fldA 1 1 (.t 7))),
   .op (some 5) (.c (.ld 1 false (.t 4))),
   .op (some 9) (.c (.ld 1 false (.t 8))),
   .op (some 10) (.c (.slcS (.t 5) (some (.t 9)) none)),
   .op (some 11) (.pcall 47 [(.t 10), (.str [47, 47])])] [0, 11] [])
 (.cond (.t 11) (.seq (.rg [0, 1, 2, 4, 3, 5, 6, 7, 8, 9, 10] [.op (some 12) (.c (.mv (.t 0))),
   .op (some 13) (.c (.nilc (.t 12))),
   .op (some 14) (.c (.fldA 1 1 (.t 13))),
   .op (some 16) (.c (.mv (.t 0))),
   .op (some 15) (.c (.ld 1 false (.t 14))),
   .op (some 17) (.pcall 43 [(.t 16), (.fn 48)]),
   .op (some 18) (.c (.lenS (.t 17))),
   .op (some 19) (.c (.bin .add (.t 15) (.t 18))),
   .op (some 20) (.c (.nilc (.t 12))),
   .op (some 21) (.c (.fldA 1 1 (.t 20))),
   .op none (.st 1 (.t 21) (.t 19))] [] [])
 (.ret)) (.skip)))
 (.rg [0, 1, 2, 3, 5, 6, 7, 9, 10, 11, 4, 8, 12, 13, 14, 15, 16] [.op (some 22) (.c (.mv (.t 0))),
   .op (some 23) (.c (.mv (.t 0))),
   .op (some 24) (.c (.nilc (.t 23))),
   .op (some 25) (.c (.fldA 0 0 (.t 24))),
   .op (some 27) (.c (.mv (.t 0))),
   .op (some 28) (.c (.nilc (.t 27))),
   .op (some 29) (.c (.fldA 1 1 (.t 28))),
   .op (some 31) (.c (.mv (.t 0))),
   .op (some 32) (.c (.nilc (.t 31))),
   .op (some 33) (.c (.fldA 1 1 (.t 32))),
   .op (some 26) (.c (.ld 1 false (.t 25))),
   .op (some 30) (.c (.ld 1 false (.t 29))),
   .op (some 34) (.c (.ld 1 false (.t 33))),
   .op (some 35) (.c (.bin .add (.t 34) (.int .i64 1))),
   .op (some 36) (.c (.slcS (.t 26) (some (.t 30)) (some (.t 35)))),
   .op (some 37) (.c (.bld [.int .i64 0, .str [], .int .i64 0, .int .i64 0] [(0, (.int .i64 3)), (1, (.t 36))])),
   .op (some 38) (.call 45 [(.t 22), (.t 37), (.int .i64 1)])] [] [])
theorem ok30 : fnOk Tryd.prog 30 1 ir30 [] = true := by kernel_rfl
/- testamur.testamurref09.Letter -/
def ir31 : S := .seq (.rg [] [.op (some 2) (.c (.mv (.bool false)))] [0] [])
 (.seq (.rg [] [.op (some 3) (.c (.mv (.t 0))),
   .op (some 4) (.c (.bin .geq (.t 3) (.int .u8 97))),
   .op (some 5) (.c (.mv (.t 4))),
   .gop 5 true (some 6) (.c (.mv (.t 0))),
   .gop 5 true (some 7) (.c (.bin .leq (.t 6) (.int .u8 122))),
   .op (some 8) (.c (.pick (.t 5) (.t 7) (.bool false))),
   .op (some 9) (.c (.mv (.t 8))),
   .gop 9 false (some 10) (.c (.mv (.t 0))),
   .gop 9 false (some 11) (.c (.bin .geq (.t 10) (.int .u8 65))),
   .gop 9 false (some 12) (.c (.mv (.t 11))),
   .gop 12 true (some 13) (.c (.mv (.t 0))),
   .gop 12 true (some 14) (.c (.bin .leq (.t 13) (.int .u8 90))),
   .gop 9 false (some 15) (.c (.pick (.t 12) (.t 14) (.bool false))),
   .op (some 16) (.c (.pick (.t 9) (.bool true) (.t 15))),
   .op (some 2) (.c (.mv (.t 16)))] [2] [])
 (.ret))
theorem ok31 : fnOk Tryd.prog 31 1 ir31 [.t 2] = true := by kernel_rfl
/- testamur.testamurref09.part -/
def ir32 : S := .seq (.rg [] [.op (some 2) (.c (.mv (.bool false)))] [0] [])
 (.seq (.rg [] [.op (some 3) (.c (.mv (.t 0))),
   .op (some 4) (.pcall 31 [(.t 3)]),
   .op (some 5) (.c (.mv (.t 4))),
   .gop 5 false (some 6) (.c (.mv (.t 0))),
   .gop 5 false (some 7) (.pcall 33 [(.t 6)]),
   .op (some 8) (.c (.pick (.t 5) (.bool true) (.t 7))),
   .op (some 9) (.c (.mv (.t 8))),
   .gop 9 false (some 10) (.c (.mv (.t 0))),
   .gop 9 false (some 11) (.c (.bin .eql (.t 10) (.int .u8 95))),
   .op (some 12) (.c (.pick (.t 9) (.bool true) (.t 11))),
   .op (some 2) (.c (.mv (.t 12)))] [2] [])
 (.ret))
theorem ok32 : fnOk Tryd.prog 32 1 ir32 [.t 2] = true := by kernel_rfl
/- testamur.testamurref09.Figure -/
def ir33 : S := .seq (.rg [] [.op (some 2) (.c (.mv (.bool false)))] [0] [])
 (.seq (.rg [] [.op (some 3) (.c (.mv (.t 0))),
   .op (some 4) (.c (.bin .geq (.t 3) (.int .u8 48))),
   .op (some 5) (.c (.mv (.t 4))),
   .gop 5 true (some 6) (.c (.mv (.t 0))),
   .gop 5 true (some 7) (.c (.bin .leq (.t 6) (.int .u8 57))),
   .op (some 8) (.c (.pick (.t 5) (.t 7) (.bool false))),
   .op (some 2) (.c (.mv (.t 8)))] [2] [])
 (.ret))
theorem ok33 : fnOk Tryd.prog 33 1 ir33 [.t 2] = true := by kernel_rfl
/- testamur.testamurref09.number -/
def ir34_l0 : S := .seq (.seq (.rg [] [.op (some 6) (.c (.mv (.t 5))),
   .op (some 7) (.c (.mv (.t 0))),
   .op (some 8) (.c (.lenS (.t 7))),
   .op (some 9) (.c (.bin .lss (.t 6) (.t 8)))] [0, 4, 5, 9] [])
 (.cond (.t 9) (.skip) (.exit 0)))
 (.seq (.block 1 (.seq (.rg [] [.op (some 12) (.c (.mv (.t 4))),
   .op (some 13) (.c (.bin .mul (.int .i64 10) (.t 12))),
   .op (some 14) (.c (.mv (.t 0))),
   .op (some 15) (.c (.mv (.t 5))),
   .op (some 16) (.c (.idx (.t 14) (.t 15))),
   .op (some 17) (.c (.bin .sub (.t 16) (.int .u8 48))),
   .op (some 18) (.c (.cvi .i64 (.t 17))),
   .op (some 19) (.c (.bin .add (.t 13) (.t 18))),
   .op (some 4) (.c (.mv (.t 19)))] [0, 4, 5] [])
 (.seq (.rg [] [.op (some 20) (.c (.mv (.t 4))),
   .op (some 21) (.c (.bin .gtr (.t 20) (.int .i64 1099511627776)))] [0, 4, 5, 21] [])
 (.cond (.t 21) (.seq (.rg [] [.op (some 2) (.c (.mv (.int .i64 0))),
   .op (some 3) (.c (.mv (.bool false)))] [2, 3] [])
 (.ret)) (.skip)))))
 (.rg [] [.op (some 10) (.c (.mv (.t 5))),
   .op (some 11) (.c (.bin .add (.t 10) (.int .i64 1))),
   .op (some 5) (.c (.mv (.t 11)))] [0, 4, 5] []))
def ir34 : S := .seq (.rg [] [.op (some 2) (.c (.mv (.int .i64 0))),
   .op (some 3) (.c (.mv (.bool false)))] [0] [])
 (.seq (.rg [] [.op (some 4) (.c (.mv (.int .i64 0)))] [0, 4] [])
 (.seq (.seq (.rg [] [.op (some 5) (.c (.mv (.int .i64 0)))] [0, 4, 5] [])
 (.block 0 (.loop [0, 4, 5] ir34_l0)))
 (.seq (.rg [0, 1, 2, 3, 4, 5, 6, 7, 8, 9, 10] [.op (some 22) (.c (.mv (.t 4))),
   .op (some 23) (.c (.mv (.t 0))),
   .op (some 24) (.c (.lenS (.t 23))),
   .op (some 25) (.c (.bin .eql (.t 24) (.int .i64 1))),
   .op (some 26) (.c (.mv (.t 25))),
   .gop 26 false (some 27) (.c (.mv (.t 0))),
   .gop 26 false (some 28) (.c (.idx (.t 27) (.int .i64 0))),
   .gop 26 false (some 29) (.c (.bin .neq (.t 28) (.int .u8 48))),
   .op (some 30) (.c (.pick (.t 26) (.bool true) (.t 29))),
   .op (some 2) (.c (.mv (.t 22))),
   .op (some 3) (.c (.mv (.t 30)))] [2, 3] [])
 (.ret))))
theorem ok34 : fnOk Tryd.prog 34 1 ir34 [.t 2, .t 3] = true := by kernel_rfl
/- testamur.testamurref09.Sign -/
def ir35_l0 : S := .seq (.seq (.rg [] [.op (some 5) (.c (.mv (.t 4))),
   .op (some 6) (.c (.mv (.t 3))),
   .op (some 7) (.c (.lenS (.t 6))),
   .op (some 8) (.c (.bin .lss (.t 5) (.t 7)))] [0, 3, 4, 8] [])
 (.cond (.t 8) (.skip) (.exit 0)))
 (.seq (.block 1 (.seq (.rg [] [.op (some 11) (.c (.mv (.t 3))),
   .op (some 12) (.c (.mv (.t 4))),
   .op (some 13) (.c (.idx (.t 11) (.t 12))),
   .op (some 14) (.c (.mv (.t 0))),
   .op (some 15) (.c (.bin .eql (.t 13) (.t 14)))] [0, 3, 4, 15] [])
 (.cond (.t 15) (.seq (.rg [] [.op (some 2) (.c (.mv (.bool true)))] [2] [])
 (.ret)) (.skip))))
 (.rg [] [.op (some 9) (.c (.mv (.t 4))),
   .op (some 10) (.c (.bin .add (.t 9) (.int .i64 1))),
   .op (some 4) (.c (.mv (.t 10)))] [0, 3, 4] []))
def ir35 : S := .seq (.rg [] [.op (some 2) (.c (.mv (.bool false)))] [0] [])
 (.seq (.rg [] [.op (some 3) (.c (.mv (.str [123, 125, 40, 41, 59, 44, 61, 35, 47, 60, 33, 45, 46, 58, 43])))] [0, 3] [])
 (.seq (.seq (.rg [] [.op (some 4) (.c (.mv (.int .i64 0)))] [0, 3, 4] [])
 (.block 0 (.loop [0, 3, 4] ir35_l0)))
 (.seq (.rg [] [.op (some 2) (.c (.mv (.bool false)))] [2] [])
 (.ret))))
theorem ok35 : fnOk Tryd.prog 35 1 ir35 [.t 2] = true := by kernel_rfl
/- testamur.lex.valid -/
def ir36 : S := .seq (.rg [] [.op (some 1) (.box 35 (.t 0)),
   .op (some 2) (.c (.mv (.bool false)))] [1] [])
 (.seq (.seq (.rg [] [.op (some 3) (.c (.fldA 0 0 (.t 1))),
   .op (some 4) (.c (.ld 1 false (.t 3)))] [1, 4] [])
 (.block 0 (.seq (.rg [] [.op (some 6) (.c (.bin .eql (.t 4) (.int .i64 1))),
   .op (some 5) (.c (.mv (.t 6)))] [1, 4, 5] [])
 (.cond (.t 5) (.seq (.rg [] [.op (some 7) (.c (.fldA 1 1 (.t 1))),
   .op (some 8) (.c (.ld 1 false (.t 7))),
   .op (some 9) (.pcall 20 [(.t 8)]),
   .op (some 10) (.c (.mv (.t 9))),
   .gop 10 true (some 11) (.c (.fldA 2 2 (.t 1))),
   .gop 10 true (some 12) (.c (.ld 1 false (.t 11))),
   .gop 10 true (some 13) (.c (.bin .eql (.t 12) (.int .i64 0))),
   .op (some 14) (.c (.pick (.t 10) (.t 13) (.bool false))),
   .op (some 2) (.c (.mv (.t 14)))] [2] [])
 (.ret)) (.seq (.rg [] [.op (some 16) (.c (.bin .eql (.t 4) (.int .i64 2))),
   .op (some 15) (.c (.mv (.t 16)))] [1, 4, 15] [])
 (.cond (.t 15) (.seq (.rg [] [.op (some 17) (.c (.fldA 1 1 (.t 1))),
   .op (some 18) (.c (.ld 1 false (.t 17))),
   .op (some 19) (.c (.bin .eql (.t 18) (.str []))),
   .op (some 20) (.c (.mv (.t 19))),
   .gop 20 true (some 21) (.c (.fldA 2 2 (.t 1))),
   .gop 20 true (some 22) (.c (.ld 1 false (.t 21))),
   .gop 20 true (some 23) (.c (.bin .geq (.t 22) (.int .i64 0))),
   .op (some 24) (.c (.pick (.t 20) (.t 23) (.bool false))),
   .op (some 25) (.c (.mv (.t 24))),
   .gop 25 true (some 26) (.c (.fldA 2 2 (.t 1))),
   .gop 25 true (some 27) (.c (.ld 1 false (.t 26))),
   .gop 25 true (some 28) (.c (.bin .leq (.t 27) (.int .i64 1099511627776))),
   .op (some 29) (.c (.pick (.t 25) (.t 28) (.bool false))),
   .op (some 2) (.c (.mv (.t 29)))] [2] [])
 (.ret)) (.seq (.rg [] [.op (some 31) (.c (.bin .eql (.t 4) (.int .i64 3))),
   .op (some 30) (.c (.mv (.t 31)))] [1, 30] [])
 (.cond (.t 30) (.seq (.rg [] [.op (some 32) (.c (.fldA 1 1 (.t 1))),
   .op (some 33) (.c (.ld 1 false (.t 32))),
   .op (some 34) (.c (.lenS (.t 33))),
   .op (some 35) (.c (.bin .eql (.t 34) (.int .i64 1))),
   .op (some 36) (.c (.mv (.t 35))),
   .gop 36 true (some 37) (.c (.fldA 1 1 (.t 1))),
   .gop 36 true (some 38) (.c (.ld 1 false (.t 37))),
   .gop 36 true (some 39) (.pcall 49 [(.str [123, 125, 40, 41, 59, 44, 61, 35, 47, 60, 33, 45, 46, 58, 43]), (.t 38)]),
   .op (some 40) (.c (.pick (.t 36) (.t 39) (.bool false))),
   .op (some 41) (.c (.mv (.t 40))),
   .gop 41 true (some 42) (.c (.fldA 2 2 (.t 1))),
   .gop 41 true (some 43) (.c (.ld 1 false (.t 42))),
   .gop 41 true (some 44) (.c (.bin .eql (.t 43) (.int .i64 0))),
   .op (some 45) (.c (.pick (.t 41) (.t 44) (.bool false))),
   .op (some 2) (.c (.mv (.t 45)))] [2] [])
 (.ret)) (.skip)))))))))
 (.seq (.rg [] [.op (some 2) (.c (.mv (.bool false)))] [2] [])
 (.ret)))
theorem ok36 : fnOk Tryd.prog 36 1 ir36 [.t 2] = true := by kernel_rfl
/- (*strings.Builder).WriteByte -/
def ir37 : S := .seq (.rg [] [.op (some 4) (.c (.mv .nili))] [0, 1] [])
 (.seq (.rg [] [.op (some 5) (.c (.mv (.t 0))),
   .op (some 6) (.call 50 [(.t 5)])] [0, 1] [])
 (.seq (.rg [] [.op (some 7) (.c (.mv (.t 0))),
   .op (some 8) (.c (.mv (.t 0))),
   .op (some 9) (.c (.nilc (.t 8))),
   .op (some 10) (.c (.fldA 1 1 (.t 9))),
   .op (some 11) (.c (.ld 1 false (.t 10))),
   .op (some 12) (.c (.mv (.t 1))),
   .op (some 13) (.bls 1 [.int .u8 0] [(0, (.t 12))]),
   .op (some 14) (.app 5 1 1 (.t 11) (.t 13)),
   .op (some 15) (.c (.nilc (.t 7))),
   .op (some 16) (.c (.fldA 1 1 (.t 15))),
   .op none (.st 1 (.t 16) (.t 14))] [] [])
 (.seq (.rg [] [.op (some 4) (.c (.mv .nili))] [4] [])
 (.ret))))
theorem ok37 : fnOk Tryd.prog 37 2 ir37 [.t 4] = true := by kernel_rfl
/- (*strings.Builder).WriteString -/
def ir38 : S := .seq (.rg [] [.op (some 4) (.c (.mv (.int .i64 0))),
   .op (some 5) (.c (.mv .nili))] [0, 1] [])
 (.seq (.rg [] [.op (some 6) (.c (.mv (.t 0))),
   .op (some 7) (.call 50 [(.t 6)])] [0, 1] [])
 (.seq (.rg [] [.op (some 8) (.c (.mv (.t 0))),
   .op (some 9) (.c (.mv (.t 0))),
   .op (some 10) (.c (.nilc (.t 9))),
   .op (some 11) (.c (.fldA 1 1 (.t 10))),
   .op (some 12) (.c (.ld 1 false (.t 11))),
   .op (some 13) (.c (.mv (.t 1))),
   .op (some 14) (.appS 5 1 (.t 12) (.t 13)),
   .op (some 15) (.c (.nilc (.t 8))),
   .op (some 16) (.c (.fldA 1 1 (.t 15))),
   .op none (.st 1 (.t 16) (.t 14))] [1] [])
 (.seq (.rg [] [.op (some 17) (.c (.mv (.t 1))),
   .op (some 18) (.c (.lenS (.t 17))),
   .op (some 4) (.c (.mv (.t 18))),
   .op (some 5) (.c (.mv .nili))] [4, 5] [])
 (.ret))))
theorem ok38 : fnOk Tryd.prog 38 2 ir38 [.t 4, .t 5] = true := by kernel_rfl
/- strconv.Itoa -/
def ir39 : S := .seq (.rg [] [.op (some 2) (.c (.mv (.str [])))] [0] [])
 (.seq (.rg [] [.op (some 3) (.c (.mv (.t 0))),
   .op (some 4) (.pcall 51 [(.t 3)]),
   .op (some 2) (.c (.mv (.t 4)))] [2] [])
 (.ret))
theorem ok39 : fnOk Tryd.prog 39 1 ir39 [.t 2] = true := by kernel_rfl
/- (*strings.Builder).String -/
def ir40 : S := .seq (.rg [] [.op (some 2) (.c (.mv (.str [])))] [0] [])
 (.seq (.rg [0, 1, 2, 5, 6, 7, 3, 4, 8, 9, 10, 11] [.op (some 3) (.c (.mv (.t 0))),
   .op (some 4) (.c (.nilc (.t 3))),
   .op (some 5) (.c (.fldA 1 1 (.t 4))),
   .op (some 8) (.c (.mv (.t 0))),
   .op (some 9) (.c (.nilc (.t 8))),
   .op (some 10) (.c (.fldA 1 1 (.t 9))),
   .op (some 6) (.c (.ld 1 false (.t 5))),
   .op (some 7) (.c (.usd (.t 6))),
   .op (some 11) (.c (.ld 1 false (.t 10))),
   .op (some 12) (.c (.lenL (.t 11))),
   .op (some 13) (.ustr 5 (.t 7) (.t 12)),
   .op (some 2) (.c (.mv (.t 13)))] [2] [])
 (.ret))
theorem ok40 : fnOk Tryd.prog 40 1 ir40 [.t 2] = true := by kernel_rfl
/- testamur.testamurref09.Valid -/
def ir41 : S := .seq (.rg [] [.op (some 1) (.box 35 (.t 0)),
   .op (some 2) (.c (.mv (.bool false)))] [1] [])
 (.seq (.seq (.rg [] [.op (some 3) (.c (.fldA 0 0 (.t 1))),
   .op (some 4) (.c (.ld 1 false (.t 3)))] [1, 4] [])
 (.block 0 (.seq (.rg [] [.op (some 6) (.c (.bin .eql (.t 4) (.int .i64 1))),
   .op (some 5) (.c (.mv (.t 6)))] [1, 4, 5] [])
 (.cond (.t 5) (.seq (.rg [] [.op (some 7) (.c (.fldA 1 1 (.t 1))),
   .op (some 8) (.c (.ld 1 false (.t 7))),
   .op (some 9) (.pcall 21 [(.t 8)]),
   .op (some 10) (.c (.mv (.t 9))),
   .gop 10 true (some 11) (.c (.fldA 2 2 (.t 1))),
   .gop 10 true (some 12) (.c (.ld 1 false (.t 11))),
   .gop 10 true (some 13) (.c (.bin .eql (.t 12) (.int .i64 0))),
   .op (some 14) (.c (.pick (.t 10) (.t 13) (.bool false))),
   .op (some 2) (.c (.mv (.t 14)))] [2] [])
 (.ret)) (.seq (.rg [] [.op (some 16) (.c (.bin .eql (.t 4) (.int .i64 2))),
   .op (some 15) (.c (.mv (.t 16)))] [1, 4, 15] [])
 (.cond (.t 15) (.seq (.rg [] [.op (some 17) (.c (.fldA 1 1 (.t 1))),
   .op (some 18) (.c (.ld 1 false (.t 17))),
   .op (some 19) (.c (.bin .eql (.t 18) (.str []))),
   .op (some 20) (.c (.mv (.t 19))),
   .gop 20 true (some 21) (.c (.fldA 2 2 (.t 1))),
   .gop 20 true (some 22) (.c (.ld 1 false (.t 21))),
   .gop 20 true (some 23) (.c (.bin .geq (.t 22) (.int .i64 0))),
   .op (some 24) (.c (.pick (.t 20) (.t 23) (.bool false))),
   .op (some 25) (.c (.mv (.t 24))),
   .gop 25 true (some 26) (.c (.fldA 2 2 (.t 1))),
   .gop 25 true (some 27) (.c (.ld 1 false (.t 26))),
   .gop 25 true (some 28) (.c (.bin .leq (.t 27) (.int .i64 1099511627776))),
   .op (some 29) (.c (.pick (.t 25) (.t 28) (.bool false))),
   .op (some 2) (.c (.mv (.t 29)))] [2] [])
 (.ret)) (.seq (.rg [] [.op (some 31) (.c (.bin .eql (.t 4) (.int .i64 3))),
   .op (some 30) (.c (.mv (.t 31)))] [1, 30] [])
 (.cond (.t 30) (.seq (.rg [] [.op (some 32) (.c (.fldA 1 1 (.t 1))),
   .op (some 33) (.c (.ld 1 false (.t 32))),
   .op (some 34) (.c (.lenS (.t 33))),
   .op (some 35) (.c (.bin .eql (.t 34) (.int .i64 1))),
   .op (some 36) (.c (.mv (.t 35))),
   .gop 36 true (some 37) (.c (.fldA 1 1 (.t 1))),
   .gop 36 true (some 38) (.c (.ld 1 false (.t 37))),
   .gop 36 true (some 39) (.c (.idx (.t 38) (.int .i64 0))),
   .gop 36 true (some 40) (.pcall 35 [(.t 39)]),
   .op (some 41) (.c (.pick (.t 36) (.t 40) (.bool false))),
   .op (some 42) (.c (.mv (.t 41))),
   .gop 42 true (some 43) (.c (.fldA 2 2 (.t 1))),
   .gop 42 true (some 44) (.c (.ld 1 false (.t 43))),
   .gop 42 true (some 45) (.c (.bin .eql (.t 44) (.int .i64 0))),
   .op (some 46) (.c (.pick (.t 42) (.t 45) (.bool false))),
   .op (some 2) (.c (.mv (.t 46)))] [2] [])
 (.ret)) (.skip)))))))))
 (.seq (.rg [] [.op (some 2) (.c (.mv (.bool false)))] [2] [])
 (.ret)))
theorem ok41 : fnOk Tryd.prog 41 1 ir41 [.t 2] = true := by kernel_rfl
/- testamur.testamurref09.Decimal -/
def ir42_l0 : S := .seq (.seq (.rg [] [.op (some 10) (.c (.mv (.t 0))),
   .op (some 11) (.c (.bin .geq (.t 10) (.int .i64 10)))] [0, 3, 11] [])
 (.cond (.t 11) (.skip) (.exit 0)))
 (.block 1 (.seq (.rg [] [.op (some 12) (.c (.mv (.t 0))),
   .op (some 13) (.c (.bin .quo (.t 12) (.int .i64 10))),
   .op (some 0) (.c (.mv (.t 13)))] [0, 3] [])
 (.rg [] [.op (some 14) (.c (.mv (.t 0))),
   .op (some 15) (.c (.bin .rem (.t 14) (.int .i64 10))),
   .op (some 16) (.c (.bin .add (.int .i64 48) (.t 15))),
   .op (some 17) (.c (.cvi .u8 (.t 16))),
   .op (some 18) (.bls 1 [.int .u8 0] [(0, (.t 17))]),
   .op (some 19) (.b2s (.t 18)),
   .op (some 20) (.c (.mv (.t 3))),
   .op (some 21) (.c (.bin .add (.t 19) (.t 20))),
   .op (some 3) (.c (.mv (.t 21)))] [0, 3] [])))
def ir42 : S := .seq (.rg [] [.op (some 2) (.c (.mv (.str [])))] [0] [])
 (.seq (.rg [] [.op (some 4) (.c (.mv (.t 0))),
   .op (some 5) (.c (.bin .rem (.t 4) (.int .i64 10))),
   .op (some 6) (.c (.bin .add (.int .i64 48) (.t 5))),
   .op (some 7) (.c (.cvi .u8 (.t 6))),
   .op (some 8) (.bls 1 [.int .u8 0] [(0, (.t 7))]),
   .op (some 9) (.b2s (.t 8)),
   .op (some 3) (.c (.mv (.t 9)))] [0, 3] [])
 (.seq (.block 0 (.loop [0, 3] ir42_l0))
 (.seq (.rg [] [.op (some 22) (.c (.mv (.t 3))),
   .op (some 2) (.c (.mv (.t 22)))] [2] [])
 (.ret))))
theorem ok42 : fnOk Tryd.prog 42 1 ir42 [.t 2] = true := by kernel_rfl
/- (*testamur.lex.scanner).run -/
def ir43_l0 : S := .seq (.seq (.rg [] [.op (some 10) (.c (.mv (.t 5))),
   .op (some 11) (.c (.mv (.t 0))),
   .op (some 12) (.c (.nilc (.t 11))),
   .op (some 13) (.c (.fldA 0 0 (.t 12))),
   .op (some 14) (.c (.ld 1 false (.t 13))),
   .op (some 15) (.c (.lenS (.t 14))),
   .op (some 16) (.c (.bin .lss (.t 10) (.t 15))),
   .op (some 17) (.c (.mv (.t 16))),
   .gop 17 true (some 18) (.c (.mv (.t 1))),
   .gop 17 true (some 19) (.c (.mv (.t 0))),
   .gop 17 true (some 20) (.c (.nilc (.t 19))),
   .gop 17 true (some 21) (.c (.fldA 0 0 (.t 20))),
   .gop 17 true (some 22) (.c (.ld 1 false (.t 21))),
   .gop 17 true (some 23) (.c (.mv (.t 5))),
   .gop 17 true (some 24) (.c (.idx (.t 22) (.t 23))),
   .gop 17 true (some 25) (.callv (.t 18) [(.t 24)]),
   .op (some 26) (.c (.pick (.t 17) (.t 25) (.bool false)))] [0, 1, 5, 26] [])
 (.cond (.t 26) (.skip) (.exit 0)))
 (.block 1 (.rg [] [.op (some 27) (.c (.mv (.t 5))),
   .op (some 28) (.c (.bin .add (.t 27) (.int .i64 1))),
   .op (some 5) (.c (.mv (.t 28)))] [0, 1, 5] []))
def ir43 : S := .seq (.rg [] [.op (some 4) (.c (.mv (.str [])))] [0, 1] [])
 (.seq (.rg [] [.op (some 6) (.c (.mv (.t 0))),
   .op (some 7) (.c (.nilc (.t 6))),
   .op (some 8) (.c (.fldA 1 1 (.t 7))),
   .op (some 9) (.c (.ld 1 false (.t 8))),
   .op (some 5) (.c (.mv (.t 9)))] [0, 1, 5] [])
 (.seq (.block 0 (.loop [0, 1, 5] ir43_l0))
 (.seq (.rg [0, 1, 2, 4, 5, 6, 8, 3, 7, 9, 10] [.op (some 29) (.c (.mv (.t 0))),
   .op (some 30) (.c (.nilc (.t 29))),
   .op (some 31) (.c (.fldA 0 0 (.t 30))),
   .op (some 33) (.c (.mv (.t 0))),
   .op (some 34) (.c (.nilc (.t 33))),
   .op (some 35) (.c (.fldA 1 1 (.t 34))),
   .op (some 37) (.c (.mv (.t 5))),
   .op (some 32) (.c (.ld 1 false (.t 31))),
   .op (some 36) (.c (.ld 1 false (.t 35))),
   .op (some 38) (.c (.slcS (.t 32) (some (.t 36)) (some (.t 37)))),
   .op (some 4) (.c (.mv (.t 38)))] [4] [])
 (.ret))))
theorem ok43 : fnOk Tryd.prog 43 2 ir43 [.t 4] = true := by kernel_rfl
/- (*testamur.lex.scanner).name$1 -/
def ir44 : S := .seq (.rg [] [.op (some 3) (.c (.mv (.bool false)))] [0, 1] [])
 (.seq (.rg [] [.op (some 4) (.c (.ld 1 false (.t 1))),
   .op (some 5) (.c (.mv (.t 0))),
   .op (some 6) (.c (.nilc (.t 4))),
   .op (some 7) (.c (.fldA 2 2 (.t 6))),
   .op (some 8) (.c (.idxP 256 1 (.t 7) (.t 5))),
   .op (some 9) (.c (.ld 1 false (.t 8))),
   .op (some 10) (.c (.bin .eql (.t 9) (.int .i64 2))),
   .op (some 11) (.c (.mv (.t 10))),
   .gop 11 false (some 12) (.c (.ld 1 false (.t 1))),
   .gop 11 false (some 13) (.c (.mv (.t 0))),
   .gop 11 false (some 14) (.c (.nilc (.t 12))),
   .gop 11 false (some 15) (.c (.fldA 2 2 (.t 14))),
   .gop 11 false (some 16) (.c (.idxP 256 1 (.t 15) (.t 13))),
   .gop 11 false (some 17) (.c (.ld 1 false (.t 16))),
   .gop 11 false (some 18) (.c (.bin .eql (.t 17) (.int .i64 3))),
   .op (some 19) (.c (.pick (.t 11) (.bool true) (.t 18))),
   .op (some 20) (.c (.mv (.t 19))),
   .gop 20 false (some 21) (.c (.mv (.t 0))),
   .gop 20 false (some 22) (.c (.bin .eql (.t 21) (.int .u8 95))),
   .op (some 23) (.c (.pick (.t 20) (.bool true) (.t 22))),
   .op (some 3) (.c (.mv (.t 23)))] [3] [])
 (.ret))
theorem ok44 : fnOk Tryd.prog 44 2 ir44 [.t 3] = true := by kernel_rfl
/- (*testamur.lex.scanner).add -/
def ir45 : S := .seq (.rg [] [.op (some 4) (.box 35 (.t 1))] [0, 2, 4] [])
 (.seq (.rg [] [.op (some 6) (.c (.mv (.t 0))),
   .op (some 7) (.c (.nilc (.t 6))),
   .op (some 8) (.c (.fldA 1 1 (.t 7))),
   .op (some 9) (.c (.ld 1 false (.t 8))),
   .op (some 10) (.c (.fldA 3 3 (.t 4))),
   .op none (.st 1 (.t 10) (.t 9))] [0, 2, 4] [])
 (.seq (.rg [0, 1, 2, 3, 4, 5, 6, 7, 8, 9, 10] [.op (some 11) (.c (.mv (.t 0))),
   .op (some 12) (.c (.mv (.t 0))),
   .op (some 13) (.c (.nilc (.t 12))),
   .op (some 14) (.c (.fldA 3 258 (.t 13))),
   .op (some 15) (.c (.ld 1 false (.t 14))),
   .op (some 16) (.c (.ld 4 true (.t 4))),
   .op (some 17) (.bls 4 [.agg [.int .i64 0, .str [], .int .i64 0, .int .i64 0]] [(0, (.t 16))]),
   .op (some 18) (.app 35 4 40 (.t 15) (.t 17)),
   .op (some 19) (.c (.nilc (.t 11))),
   .op (some 20) (.c (.fldA 3 258 (.t 19))),
   .op none (.st 1 (.t 20) (.t 18))] [0, 2] [])
 (.rg [] [.op (some 21) (.c (.mv (.t 0))),
   .op (some 22) (.c (.nilc (.t 21))),
   .op (some 23) (.c (.fldA 1 1 (.t 22))),
   .op (some 24) (.c (.ld 1 false (.t 23))),
   .op (some 25) (.c (.mv (.t 2))),
   .op (some 26) (.c (.bin .add (.t 24) (.t 25))),
   .op (some 27) (.c (.nilc (.t 21))),
   .op (some 28) (.c (.fldA 1 1 (.t 27))),
   .op none (.st 1 (.t 28) (.t 26))] [] [])))
theorem ok45 : fnOk Tryd.prog 45 3 ir45 [] = true := by kernel_rfl
/- (*testamur.lex.scanner).number$1 -/
def ir46 : S := .seq (.rg [] [.op (some 3) (.c (.mv (.bool false)))] [0, 1] [])
 (.seq (.rg [] [.op (some 4) (.c (.ld 1 false (.t 1))),
   .op (some 5) (.c (.mv (.t 0))),
   .op (some 6) (.c (.nilc (.t 4))),
   .op (some 7) (.c (.fldA 2 2 (.t 6))),
   .op (some 8) (.c (.idxP 256 1 (.t 7) (.t 5))),
   .op (some 9) (.c (.ld 1 false (.t 8))),
   .op (some 10) (.c (.bin .eql (.t 9) (.int .i64 3))),
   .op (some 3) (.c (.mv (.t 10)))] [3] [])
 (.ret))
theorem ok46 : fnOk Tryd.prog 46 2 ir46 [.t 3] = true := by kernel_rfl
/- strings.HasPrefix -/
def ir47 : S := .seq (.rg [] [.op (some 4) (.c (.mv (.bool false)))] [0, 1] [])
 (.seq (.rg [] [.op (some 5) (.c (.mv (.t 0))),
   .op (some 6) (.c (.mv (.t 1))),
   .op (some 7) (.pcall 52 [(.t 5), (.t 6)]),
   .op (some 4) (.c (.mv (.t 7)))] [4] [])
 (.ret))
theorem ok47 : fnOk Tryd.prog 47 2 ir47 [.t 4] = true := by kernel_rfl
/- (*testamur.lex.scanner).sign$1 -/
def ir48 : S := .seq (.rg [] [.op (some 2) (.c (.mv (.bool false)))] [0] [])
 (.seq (.rg [] [.op (some 3) (.c (.mv (.t 0))),
   .op (some 4) (.c (.bin .neq (.t 3) (.int .u8 10))),
   .op (some 2) (.c (.mv (.t 4)))] [2] [])
 (.ret))
theorem ok48 : fnOk Tryd.prog 48 1 ir48 [.t 2] = true := by kernel_rfl
/- strings.Contains -/
def ir49 : S := .seq (.rg [] [.op (some 4) (.c (.mv (.bool false)))] [0, 1] [])
 (.seq (.rg [] [.op (some 5) (.c (.mv (.t 0))),
   .op (some 6) (.c (.mv (.t 1))),
   .op (some 7) (.pcall 53 [(.t 5), (.t 6)]),
   .op (some 8) (.c (.bin .geq (.t 7) (.int .i64 0))),
   .op (some 4) (.c (.mv (.t 8)))] [4] [])
 (.ret))
theorem ok49 : fnOk Tryd.prog 49 2 ir49 [.t 4] = true := by kernel_rfl
/- internal.strconv.Itoa -/
def ir51 : S := .seq (.rg [] [.op (some 2) (.c (.mv (.str [])))] [0] [])
 (.seq (.rg [] [.op (some 3) (.c (.mv (.t 0))),
   .op (some 4) (.pcall 55 [(.t 3), (.int .i64 10)]),
   .op (some 2) (.c (.mv (.t 4)))] [2] [])
 (.ret))
theorem ok51 : fnOk Tryd.prog 51 1 ir51 [.t 2] = true := by kernel_rfl
/- internal.stringslite.HasPrefix -/
def ir52 : S := .seq (.rg [] [.op (some 4) (.c (.mv (.bool false)))] [0, 1] [])
 (.seq (.rg [] [.op (some 5) (.c (.mv (.t 0))),
   .op (some 6) (.c (.lenS (.t 5))),
   .op (some 7) (.c (.mv (.t 1))),
   .op (some 8) (.c (.lenS (.t 7))),
   .op (some 9) (.c (.bin .geq (.t 6) (.t 8))),
   .op (some 10) (.c (.mv (.t 9))),
   .gop 10 true (some 11) (.c (.mv (.t 0))),
   .gop 10 true (some 12) (.c (.mv (.t 1))),
   .gop 10 true (some 13) (.c (.lenS (.t 12))),
   .gop 10 true (some 14) (.c (.slcS (.t 11) none (some (.t 13)))),
   .gop 10 true (some 15) (.c (.mv (.t 1))),
   .gop 10 true (some 16) (.c (.bin .eql (.t 14) (.t 15))),
   .op (some 17) (.c (.pick (.t 10) (.t 16) (.bool false))),
   .op (some 4) (.c (.mv (.t 17)))] [4] [])
 (.ret))
theorem ok52 : fnOk Tryd.prog 52 2 ir52 [.t 4] = true := by kernel_rfl
/- strings.Index -/
def ir53 : S := .seq (.rg [] [.op (some 4) (.c (.mv (.int .i64 0)))] [0, 1] [])
 (.seq (.rg [] [.op (some 5) (.c (.mv (.t 0))),
   .op (some 6) (.c (.mv (.t 1))),
   .op (some 7) (.pcall 56 [(.t 5), (.t 6)]),
   .op (some 4) (.c (.mv (.t 7)))] [4] [])
 (.ret))
theorem ok53 : fnOk Tryd.prog 53 2 ir53 [.t 4] = true := by kernel_rfl
end Go.Proofs.YtlkpnkkgkjkmbaaDoor
