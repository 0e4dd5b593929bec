/- Part 21 of the proof: CrowdPairs: whatever plain data comes in, the call returns true and leaves its arguments as they were. No condition. -/
import Derived.Test.YtddmnddocbmjnaaGreatPa20
import Derived.KernelRfl
set_option linter.all false
set_option linter.unusedVariables false
set_option linter.unusedSectionVars false
set_option linter.unusedSimpArgs false
namespace Go.Proofs.YtddmnddocbmjnaaGreat.Dv
def m_pair_slots : MF := ⟨52, (.seq (.reg none [Oo 2 (.box (.t 0)), Oo 3 (.box (.t 1)), Oo 4 (.mov (.d (.p (.s (.bool false))))), Oo 5 (.mov (.d (.p (.s (.bool false)))))]) (.seq (.reg (some #[0, 1, 0, 4, 15, 0, 32, 0, 128, 480, 31, 2047]) [Of 9 2 2, Ol 10 9, Of 11 3 2, Ol 12 11, Oo 13 (.iop .add (.t 10) (.t 12)), Of 14 2 3, Ol 15 14, Of 16 3 3, Ol 17 16, Oo 18 (.iop .add (.t 15) (.t 17)), Om 6 13, Om 7 18]) (.seq (.reg none [Of 19 2 2, Ol 20 19, Of 21 2 3, Ol 22 21, Oo 23 (.iop .geq (.t 20) (.t 22)), Om 24 23, Og 25 24 true (.mov (.t 6)), Og 26 24 true (.mov (.t 7)), Og 27 24 true (.iop .leq (.t 25) (.t 26)), Oo 28 (.pick (.t 24) (.t 27) (.d (.p (.s (.bool false))))), Om 29 28, Og 30 29 false (.fadr 2 (.t 3)), Og 31 29 false (.load false 1 (.t 30)), Og 32 29 false (.fadr 2 (.t 2)), Og 33 29 false (.load false 1 (.t 32)), Og 34 29 false (.iop .geq (.t 31) (.t 33)), Og 35 29 false (.mov (.t 34)), Og 36 35 true (.mov (.t 7)), Og 37 35 true (.mov (.t 6)), Og 38 35 true (.iop .leq (.t 36) (.t 37)), Og 39 29 false (.pick (.t 35) (.t 38) (.d (.p (.s (.bool false))))), Oo 40 (.pick (.t 29) (.d (.p (.s (.bool true)))) (.t 39)), Om 8 40]) (.seq (.reg (some #[0, 0, 2, 0, 14, 30, 62, 126, 62, 510, 1022, 63, 4095]) [Om 41 8, Of 42 2 2, Ol 43 42, Om 44 7, Oo 45 (.iop .lss (.t 43) (.t 44)), Om 46 45, Og 47 46 true (.fadr 2 (.t 3)), Og 48 46 true (.load false 1 (.t 47)), Og 49 46 true (.mov (.t 6)), Og 50 46 true (.iop .lss (.t 48) (.t 49)), Oo 51 (.pick (.t 46) (.t 50) (.d (.p (.s (.bool false))))), Om 4 41, Om 5 51]) .ret)))), [.tmp 4, .tmp 5]⟩
theorem c_pair_slots : comp Tryz.prog G0 162 = some m_pair_slots := by kernel_rfl
theorem q_pair_slots : Q0 162 := mCall_pure rfl
def m_pair_Needs : MF := ⟨12, (.seq (.reg none [Oo 2 (.mov (.d (.p (.s (.bool false))))), Oo 3 (.mov (.d (.p (.s (.bool false)))))]) (.seq (.seq (.reg none [Om 4 0]) (.block 0 (.seq (.seq (.reg none [Oo 6 (.iop .eql (.t 4) (.d (Ci 10))), Om 5 6]) (.cond (.t 5) .skip (.reg none [Oo 7 (.iop .eql (.t 4) (.d (Ci 11))), Om 5 7]))) (.cond (.t 5) (.seq (.reg none [Oo 2 (.mov (.d (.p (.s (.bool false))))), Oo 3 (.mov (.d (.p (.s (.bool true)))))]) .ret) (.seq (.reg none [Oo 9 (.iop .eql (.t 4) (.d (Ci 14))), Om 8 9]) (.cond (.t 8) (.seq (.reg none [Oo 2 (.mov (.d (.p (.s (.bool true))))), Oo 3 (.mov (.d (.p (.s (.bool true)))))]) .ret) .skip)))))) (.seq (.reg none [Om 10 0, Oo 11 (.call 160 [.t 10]), Om 2 11, Oo 3 (.mov (.d (.p (.s (.bool false)))))]) .ret))), [.tmp 2, .tmp 3]⟩
theorem c_pair_Needs : comp Tryz.prog G0 96 = some m_pair_Needs := by kernel_rfl
theorem q_pair_Needs : Q0 96 := mCall_pure rfl
def m_pair_Holds : MF := ⟨142, (.seq (.reg none [Oo 6 (.box (.t 0)), Oo 9 (.box (.t 3)), Oo 10 (.box (.t 4)), Oo 12 (.mov (.d (.p (.s (.bool false)))))]) (.seq (.reg none [Of 21 4 9, Ol 22 21, Oo 23 (.iop .geq (.t 22) (.d (Ci 0))), Om 24 23, Og 25 24 true (.fadr 4 (.t 9)), Og 26 24 true (.load false 1 (.t 25)), Og 27 24 true (.fadr 4 (.t 10)), Og 28 24 true (.load false 1 (.t 27)), Og 29 24 true (.iop .eql (.t 26) (.t 28)), Oo 30 (.pick (.t 24) (.t 29) (.d (.p (.s (.bool false))))), Om 13 30]) (.seq (.reg none [Om 32 1, Oo 33 (.call 96 [.t 32]), Om 31 33, Oo 34 (.xtr 0 (.t 31)), Oo 35 (.xtr 1 (.t 31)), Om 14 34, Om 15 35]) (.seq (.seq (.reg none [Om 36 14, Om 37 36, Og 38 37 true (.load true 3 (.t 6)), Og 39 37 true (.fadr 0 (.t 9)), Og 40 37 true (.load true 4 (.t 39)), Og 41 37 true (.call 161 [.t 38, .t 40]), Og 42 37 true (.un .not (.t 41)), Og 43 37 true (.mov (.t 42)), Og 44 43 false (.load true 3 (.t 6)), Og 45 43 false (.fadr 0 (.t 10)), Og 46 43 false (.load true 4 (.t 45)), Og 47 43 false (.call 161 [.t 44, .t 46]), Og 48 43 false (.un .not (.t 47)), Og 49 37 true (.pick (.t 43) (.d (.p (.s (.bool true)))) (.t 48)), Oo 50 (.pick (.t 37) (.t 49) (.d (.p (.s (.bool false)))))]) (.cond (.t 50) (.seq (.reg none [Oo 12 (.mov (.d (.p (.s (.bool false)))))]) .ret) .skip)) (.seq (.reg (some #[0, 1, 0, 4, 0, 0, 51, 127]) [Of 51 0 9, Oo 52 (.load true 4 (.t 51)), Of 53 0 10, Oo 54 (.load true 4 (.t 53)), Oo 16 (.alloc [(.p (.s (.int .u32 0))), (.p (.s (.int .u8 0))), (Ci 0), (Ci 0)]), Oo 17 (.alloc [(.p (.s (.int .u32 0))), (.p (.s (.int .u8 0))), (Ci 0), (Ci 0)]), Ou (.store 4 (.t 16) (.t 52)), Ou (.store 4 (.t 17) (.t 54))]) (.seq (.reg none [Oo 56 (.load true 4 (.t 16)), Oo 57 (.load true 4 (.t 17)), Oo 58 (.call 162 [.t 56, .t 57]), Om 55 58, Oo 59 (.xtr 0 (.t 55)), Oo 60 (.xtr 1 (.t 55)), Om 18 59, Om 19 60]) (.seq (.reg none [Oo 20 (.mov (.d (.p (.s (.bool false)))))]) (.seq (.seq (.reg none [Om 61 1]) (.block 0 (.seq (.block 14 (.seq (.block 13 (.seq (.block 12 (.seq (.block 11 (.seq (.block 10 (.seq (.block 9 (.seq (.block 8 (.seq (.block 7 (.seq (.block 6 (.seq (.block 5 (.seq (.block 4 (.seq (.block 3 (.seq (.block 2 (.seq (.block 1 (.seq (.seq (.seq (.reg none [Oo 63 (.iop .eql (.t 61) (.d (Ci 11))), Om 62 63]) (.cond (.t 62) (.exit 1) .skip)) (.seq (.seq (.reg none [Oo 65 (.iop .eql (.t 61) (.d (Ci 10))), Om 64 65]) (.cond (.t 64) (.exit 2) .skip)) (.seq (.seq (.reg none [Oo 67 (.iop .eql (.t 61) (.d (Ci 9))), Om 66 67]) (.cond (.t 66) (.exit 3) .skip)) (.seq (.seq (.reg none [Oo 69 (.iop .eql (.t 61) (.d (Ci 8))), Om 68 69]) (.cond (.t 68) (.exit 4) .skip)) (.seq (.seq (.reg none [Oo 71 (.iop .eql (.t 61) (.d (Ci 1))), Om 70 71]) (.cond (.t 70) (.exit 5) .skip)) (.seq (.seq (.reg none [Oo 73 (.iop .eql (.t 61) (.d (Ci 2))), Om 72 73]) (.cond (.t 72) (.exit 6) .skip)) (.seq (.seq (.reg none [Oo 75 (.iop .eql (.t 61) (.d (Ci 3))), Om 74 75]) (.cond (.t 74) (.exit 7) .skip)) (.seq (.seq (.reg none [Oo 77 (.iop .eql (.t 61) (.d (Ci 4))), Om 76 77]) (.cond (.t 76) (.exit 8) .skip)) (.seq (.seq (.reg none [Oo 79 (.iop .eql (.t 61) (.d (Ci 5))), Om 78 79]) (.cond (.t 78) (.exit 9) .skip)) (.seq (.seq (.reg none [Oo 81 (.iop .eql (.t 61) (.d (Ci 6))), Om 80 81]) (.cond (.t 80) (.exit 10) .skip)) (.seq (.seq (.reg none [Oo 83 (.iop .eql (.t 61) (.d (Ci 7))), Om 82 83]) (.cond (.t 82) (.exit 11) .skip)) (.seq (.seq (.reg none [Oo 85 (.iop .eql (.t 61) (.d (Ci 12))), Om 84 85]) (.cond (.t 84) (.exit 12) .skip)) (.seq (.seq (.reg none [Oo 87 (.iop .eql (.t 61) (.d (Ci 13))), Om 86 87]) (.cond (.t 86) (.exit 13) .skip)) (.seq (.reg none [Oo 89 (.iop .eql (.t 61) (.d (Ci 14))), Om 88 89]) (.cond (.t 88) (.exit 14) .skip))))))))))))))) (.exit 0))) (.reg none [Oo 20 (.mov (.d (.p (.s (.bool true)))))]))) (.seq (.seq (.reg none [Om 90 13, Om 91 20, Oo 92 (.bop true (.t 90) (.t 91)), Om 12 92]) .ret) (.exit 0)))) (.reg none [Oo 20 (.mov (.d (.p (.s (.bool true)))))]))) (.seq (.seq (.reg none [Oo 93 (.load true 4 (.t 16)), Oo 94 (.load true 4 (.t 17)), Oo 95 (.call 163 [.t 93, .t 94]), Om 96 20, Oo 97 (.bop true (.t 95) (.t 96)), Om 12 97]) .ret) (.exit 0)))) (.seq (.seq (.reg none [Of 98 2 16, Ol 99 98, Of 100 2 17, Ol 101 100, Oo 102 (.iop .eql (.t 99) (.t 101)), Om 12 102]) .ret) (.exit 0)))) (.seq (.seq (.reg none [Om 103 18, Om 12 103]) .ret) (.exit 0)))) (.seq (.seq (.reg none [Om 104 19, Oo 105 (.un .not (.t 104)), Om 12 105]) .ret) (.exit 0)))) (.seq (.seq (.reg none [Of 106 1 16, Ol 107 106, Oo 108 (.cvI .u32 (.t 107)), Of 109 1 17, Ol 110 109, Oo 111 (.cvI .u32 (.t 110)), Oo 112 (.call 164 [.t 108, .t 111]), Om 12 112]) .ret) (.exit 0)))) (.seq (.seq (.reg none [Of 113 1 16, Ol 114 113, Of 115 1 17, Ol 116 115, Oo 117 (.iop .and (.t 114) (.t 116)), Oo 118 (.iop .eql (.t 117) (.d (.p (.s (.int .u8 0))))), Om 12 118]) .ret) (.exit 0)))) (.seq (.seq (.reg none [Of 119 0 16, Ol 120 119, Of 121 0 17, Ol 122 121, Oo 123 (.call 164 [.t 120, .t 122]), Om 12 123]) .ret) (.exit 0)))) (.seq (.seq (.reg none [Of 124 0 16, Ol 125 124, Of 126 0 17, Ol 127 126, Oo 128 (.iop .and (.t 125) (.t 127)), Oo 129 (.iop .eql (.t 128) (.d (.p (.s (.int .u32 0))))), Om 12 129]) .ret) (.exit 0)))) (.seq (.seq (.reg none [Oo 130 (.load true 3 (.t 6)), Oo 131 (.load true 4 (.t 16)), Oo 132 (.load true 4 (.t 17)), Oo 133 (.call 165 [.t 130, .t 131, .t 132]), Om 12 133]) .ret) (.exit 0)))) (.seq (.seq (.reg none [Oo 134 (.load true 4 (.t 16)), Oo 135 (.load true 4 (.t 17)), Om 136 2, Oo 137 (.call 166 [.t 134, .t 135, .t 136]), Om 12 137]) .ret) (.exit 0)))) (.seq (.seq (.reg none [Oo 138 (.load true 4 (.t 16)), Oo 139 (.load true 4 (.t 17)), Om 140 5, Oo 141 (.call 167 [.t 138, .t 139, .t 140]), Om 12 141]) .ret) (.exit 0))))) (.seq (.reg none [Oo 12 (.mov (.d (.p (.s (.bool false)))))]) .ret))))))))), [.tmp 12]⟩
theorem c_pair_Holds : comp Tryz.prog G0 97 = some m_pair_Holds := by kernel_rfl
theorem q_pair_Holds : Q0 97 := mCall_pure rfl
def m_pair_Never : MF := ⟨100, (.seq (.reg none [Oo 6 (.box (.t 0)), Oo 9 (.box (.t 3)), Oo 10 (.box (.t 4)), Oo 12 (.mov (.d (.p (.s (.bool false)))))]) (.seq (.reg none [Om 20 1, Oo 21 (.call 96 [.t 20]), Om 19 21, Oo 22 (.xtr 0 (.t 19)), Oo 23 (.xtr 1 (.t 19)), Om 13 22, Om 14 23]) (.seq (.reg none [Of 24 0 9, Of 25 0 24, Ol 26 25, Oo 27 (.iop .neq (.t 26) (.d (.p (.s (.int .u32 0))))), Om 28 27, Og 29 28 true (.fadr 0 (.t 10)), Og 30 28 true (.fadr 0 (.t 29)), Og 31 28 true (.load false 1 (.t 30)), Og 32 28 true (.iop .neq (.t 31) (.d (.p (.s (.int .u32 0))))), Oo 33 (.pick (.t 28) (.t 32) (.d (.p (.s (.bool false))))), Om 15 33]) (.seq (.reg none [Of 34 4 9, Ol 35 34, Oo 36 (.iop .neq (.t 35) (.d (Ci (-2)))), Om 37 36, Og 38 37 true (.fadr 4 (.t 10)), Og 39 37 true (.load false 1 (.t 38)), Og 40 37 true (.iop .neq (.t 39) (.d (Ci (-2)))), Oo 41 (.pick (.t 37) (.t 40) (.d (.p (.s (.bool false))))), Om 16 41]) (.seq (.reg none [Oo 42 (.load true 3 (.t 6)), Om 43 1, Om 44 2, Oo 45 (.load true 5 (.t 9)), Oo 46 (.load true 5 (.t 10)), Om 47 5, Oo 48 (.call 97 [.t 42, .t 43, .t 44, .t 45, .t 46, .t 47]), Om 17 48]) (.seq (.block 0 (.seq (.reg none [Om 50 13, Om 51 50, Og 52 51 true (.mov (.t 14)), Oo 53 (.pick (.t 51) (.t 52) (.d (.p (.s (.bool false))))), Om 49 53]) (.cond (.t 49) (.seq (.reg none [Om 54 15, Om 55 54, Og 56 55 true (.load true 3 (.t 6)), Og 57 55 true (.mov (.t 1)), Og 58 55 true (.mov (.t 2)), Og 59 55 true (.load true 5 (.t 9)), Og 60 55 true (.load true 5 (.t 10)), Og 61 55 true (.call 97 [.t 56, .t 57, .t 58, .t 59, .t 60, (.d (Ci 0))]), Og 62 55 true (.un .not (.t 61)), Og 63 55 true (.mov (.t 62)), Og 64 63 false (.mov (.t 17)), Og 65 63 false (.un .not (.t 64)), Og 66 63 false (.mov (.t 65)), Og 67 66 true (.mov (.t 16)), Og 68 63 false (.pick (.t 66) (.t 67) (.d (.p (.s (.bool false))))), Og 69 55 true (.pick (.t 63) (.d (.p (.s (.bool true)))) (.t 68)), Oo 70 (.pick (.t 55) (.t 69) (.d (.p (.s (.bool false))))), Om 12 70]) .ret) (.seq (.reg none [Om 72 13, Om 71 72]) (.cond (.t 71) (.seq (.reg none [Om 73 15, Om 74 73, Og 75 74 true (.mov (.t 17)), Og 76 74 true (.un .not (.t 75)), Oo 77 (.pick (.t 74) (.t 76) (.d (.p (.s (.bool false))))), Om 12 77]) .ret) (.seq (.reg none [Om 79 14, Om 78 79]) (.cond (.t 78) (.seq (.reg none [Of 80 4 9, Ol 81 80, Oo 82 (.iop .eql (.t 81) (.d (Ci (-1)))), Om 83 82, Og 84 83 false (.fadr 4 (.t 10)), Og 85 83 false (.load false 1 (.t 84)), Og 86 83 false (.iop .eql (.t 85) (.d (Ci (-1)))), Oo 87 (.pick (.t 83) (.d (.p (.s (.bool true)))) (.t 86)), Om 18 87]) (.seq (.reg none [Om 88 16, Om 89 88, Og 90 89 false (.mov (.t 18)), Og 91 89 false (.mov (.t 90)), Og 92 91 true (.mov (.t 1)), Og 93 91 true (.iop .eql (.t 92) (.d (Ci 10))), Og 94 89 false (.pick (.t 91) (.t 93) (.d (.p (.s (.bool false))))), Oo 95 (.pick (.t 89) (.d (.p (.s (.bool true)))) (.t 94)), Om 96 95, Og 97 96 true (.mov (.t 17)), Og 98 96 true (.un .not (.t 97)), Oo 99 (.pick (.t 96) (.t 98) (.d (.p (.s (.bool false))))), Om 12 99]) .ret)) .skip))))))) (.seq (.reg none [Oo 12 (.mov (.d (.p (.s (.bool false)))))]) .ret))))))), [.tmp 12]⟩
theorem c_pair_Never : comp Tryz.prog G0 61 = some m_pair_Never := by kernel_rfl
theorem q_pair_Never : Q0 61 := mCall_pure rfl
def m_ref15_rooms : MF := ⟨9, (.seq (.reg none [Oo 2 (.mov (.d (.p (.s (.bool false)))))]) (.seq (.reg none [Om 3 0, Oo 4 (.iop .eql (.t 3) (.d (Ci 10))), Om 5 4, Og 6 5 false (.mov (.t 0)), Og 7 5 false (.iop .eql (.t 6) (.d (Ci 11))), Oo 8 (.pick (.t 5) (.d (.p (.s (.bool true)))) (.t 7)), Om 2 8]) .ret)), [.tmp 2]⟩
theorem c_ref15_rooms : comp Tryz.prog G0 169 = some m_ref15_rooms := by kernel_rfl
theorem q_ref15_rooms : Q0 169 := mCall_pure rfl
def m_ref15_times : MF := ⟨166, (.seq (.reg none [Oo 6 (.box (.t 0)), Oo 9 (.box (.t 3)), Oo 10 (.box (.t 4)), Oo 12 (.mov (.d (.p (.s (.bool false)))))]) (.seq (.seq (.reg none [Om 17 1]) (.block 0 (.seq (.reg none [Oo 19 (.iop .eql (.t 17) (.d (Ci 1))), Om 18 19]) (.cond (.t 18) (.seq (.reg none [Of 20 2 9, Ol 21 20, Of 22 2 10, Ol 23 22, Oo 24 (.iop .eql (.t 21) (.t 23)), Om 12 24]) .ret) (.seq (.reg none [Oo 26 (.iop .eql (.t 17) (.d (Ci 2))), Om 25 26]) (.cond (.t 25) (.seq (.reg none [Oo 27 (.load true 4 (.t 9)), Oo 28 (.load true 4 (.t 10)), Oo 29 (.call 248 [.t 27, .t 28]), Om 30 29, Og 31 30 false (.load true 4 (.t 10)), Og 32 30 false (.load true 4 (.t 9)), Og 33 30 false (.call 248 [.t 31, .t 32]), Oo 34 (.pick (.t 30) (.d (.p (.s (.bool true)))) (.t 33)), Om 12 34]) .ret) (.seq (.reg none [Oo 36 (.iop .eql (.t 17) (.d (Ci 3))), Om 35 36]) (.cond (.t 35) (.seq (.reg none [Of 37 2 9, Ol 38 37, Of 39 3 9, Ol 40 39, Oo 41 (.iop .add (.t 38) (.t 40)), Of 42 2 10, Ol 43 42, Oo 44 (.iop .leq (.t 41) (.t 43)), Om 45 44, Og 46 45 false (.fadr 2 (.t 10)), Og 47 45 false (.load false 1 (.t 46)), Og 48 45 false (.fadr 3 (.t 10)), Og 49 45 false (.load false 1 (.t 48)), Og 50 45 false (.iop .add (.t 47) (.t 49)), Og 51 45 false (.fadr 2 (.t 9)), Og 52 45 false (.load false 1 (.t 51)), Og 53 45 false (.iop .leq (.t 50) (.t 52)), Oo 54 (.pick (.t 45) (.d (.p (.s (.bool true)))) (.t 53)), Om 12 54]) .ret) (.seq (.reg none [Oo 56 (.iop .eql (.t 17) (.d (Ci 4))), Om 55 56]) (.cond (.t 55) (.seq (.reg none [Of 57 1 9, Ol 58 57, Oo 59 (.cvI .u32 (.t 58)), Of 60 1 10, Ol 61 60, Oo 62 (.cvI .u32 (.t 61)), Oo 63 (.call 249 [.t 59, .t 62]), Om 64 63, Og 65 64 false (.fadr 1 (.t 10)), Og 66 64 false (.load false 1 (.t 65)), Og 67 64 false (.cvI .u32 (.t 66)), Og 68 64 false (.fadr 1 (.t 9)), Og 69 64 false (.load false 1 (.t 68)), Og 70 64 false (.cvI .u32 (.t 69)), Og 71 64 false (.call 249 [.t 67, .t 70]), Oo 72 (.pick (.t 64) (.d (.p (.s (.bool true)))) (.t 71)), Om 12 72]) .ret) (.seq (.reg none [Oo 74 (.iop .eql (.t 17) (.d (Ci 5))), Om 73 74]) (.cond (.t 73) (.seq (.reg none [Of 75 1 9, Ol 76 75, Of 77 1 10, Ol 78 77, Oo 79 (.iop .and (.t 76) (.t 78)), Oo 80 (.iop .eql (.t 79) (.d (.p (.s (.int .u8 0))))), Om 12 80]) .ret) (.seq (.reg none [Oo 82 (.iop .eql (.t 17) (.d (Ci 6))), Om 81 82]) (.cond (.t 81) (.seq (.reg none [Of 83 0 9, Ol 84 83, Of 85 0 10, Ol 86 85, Oo 87 (.call 249 [.t 84, .t 86]), Om 88 87, Og 89 88 false (.fadr 0 (.t 10)), Og 90 88 false (.load false 1 (.t 89)), Og 91 88 false (.fadr 0 (.t 9)), Og 92 88 false (.load false 1 (.t 91)), Og 93 88 false (.call 249 [.t 90, .t 92]), Oo 94 (.pick (.t 88) (.d (.p (.s (.bool true)))) (.t 93)), Om 12 94]) .ret) (.seq (.reg none [Oo 96 (.iop .eql (.t 17) (.d (Ci 7))), Om 95 96]) (.cond (.t 95) (.seq (.reg none [Of 97 0 9, Ol 98 97, Of 99 0 10, Ol 100 99, Oo 101 (.iop .and (.t 98) (.t 100)), Oo 102 (.iop .eql (.t 101) (.d (.p (.s (.int .u32 0))))), Om 12 102]) .ret) (.seq (.reg none [Oo 104 (.iop .eql (.t 17) (.d (Ci 8))), Om 103 104]) (.cond (.t 103) (.seq (.reg none [Oo 105 (.load true 4 (.t 9)), Oo 106 (.load true 4 (.t 10)), Oo 107 (.call 250 [.t 105, .t 106]), Om 12 107]) .ret) (.seq (.reg none [Oo 109 (.iop .eql (.t 17) (.d (Ci 9))), Om 108 109]) (.cond (.t 108) (.seq (.reg none [Oo 110 (.load true 4 (.t 9)), Oo 111 (.load true 4 (.t 10)), Oo 112 (.call 250 [.t 110, .t 111]), Oo 113 (.un .not (.t 112)), Om 12 113]) .ret) (.seq (.reg none [Oo 115 (.iop .eql (.t 17) (.d (Ci 12))), Om 114 115]) (.cond (.t 114) (.seq (.reg none [Oo 117 (.load true 3 (.t 6)), Oo 118 (.load true 4 (.t 9)), Oo 119 (.call 251 [.t 117, .t 118]), Om 116 119, Oo 120 (.xtr 0 (.t 116)), Oo 121 (.xtr 1 (.t 116)), Om 13 120, Om 14 121]) (.seq (.reg none [Oo 123 (.load true 3 (.t 6)), Oo 124 (.load true 4 (.t 10)), Oo 125 (.call 251 [.t 123, .t 124]), Om 122 125, Oo 126 (.xtr 0 (.t 122)), Oo 127 (.xtr 1 (.t 122)), Om 15 126, Om 16 127]) (.seq (.reg none [Om 128 14, Om 129 15, Oo 130 (.iop .lss (.t 128) (.t 129)), Om 12 130]) .ret))) (.seq (.reg none [Oo 132 (.iop .eql (.t 17) (.d (Ci 13))), Om 131 132]) (.cond (.t 131) (.seq (.reg none [Oo 133 (.load true 4 (.t 9)), Oo 134 (.load true 4 (.t 10)), Oo 135 (.call 252 [.t 133, .t 134]), Oo 136 (.un .not (.t 135)), Om 137 136, Og 138 137 false (.fadr 2 (.t 9)), Og 139 137 false (.load false 1 (.t 138)), Og 140 137 false (.fadr 3 (.t 9)), Og 141 137 false (.load false 1 (.t 140)), Og 142 137 false (.iop .add (.t 139) (.t 141)), Og 143 137 false (.fadr 2 (.t 10)), Og 144 137 false (.load false 1 (.t 143)), Og 145 137 false (.fadr 3 (.t 10)), Og 146 137 false (.load false 1 (.t 145)), Og 147 137 false (.iop .add (.t 144) (.t 146)), Og 148 137 false (.mx true (.t 142) [.t 147]), Og 149 137 false (.fadr 2 (.t 9)), Og 150 137 false (.load false 1 (.t 149)), Og 151 137 false (.fadr 2 (.t 10)), Og 152 137 false (.load false 1 (.t 151)), Og 153 137 false (.mx false (.t 150) [.t 152]), Og 154 137 false (.iop .sub (.t 148) (.t 153)), Og 155 137 false (.mov (.t 2)), Og 156 137 false (.iop .leq (.t 154) (.t 155)), Oo 157 (.pick (.t 137) (.d (.p (.s (.bool true)))) (.t 156)), Om 12 157]) .ret) .skip)))))))))))))))))))))))) (.seq (.reg none [Om 158 1, Oo 159 (.iop .eql (.t 158) (.d (Ci 14))), Om 160 159, Og 161 160 true (.load true 4 (.t 9)), Og 162 160 true (.load true 4 (.t 10)), Og 163 160 true (.mov (.t 5)), Og 164 160 true (.call 253 [.t 161, .t 162, .t 163]), Oo 165 (.pick (.t 160) (.t 164) (.d (.p (.s (.bool false))))), Om 12 165]) .ret))), [.tmp 12]⟩
theorem c_ref15_times : comp Tryz.prog G0 221 = some m_ref15_times := by kernel_rfl
theorem q_ref15_times : Q0 221 := mCall_pure rfl
def m_ref15_Holds : MF := ⟨64, (.seq (.reg none [Oo 6 (.box (.t 0)), Oo 9 (.box (.t 3)), Oo 10 (.box (.t 4)), Oo 12 (.mov (.d (.p (.s (.bool false)))))]) (.seq (.block 0 (.seq (.reg none [Om 14 1, Oo 15 (.call 168 [.t 14]), Oo 16 (.un .not (.t 15)), Om 13 16]) (.cond (.t 13) (.seq (.reg none [Oo 12 (.mov (.d (.p (.s (.bool false)))))]) .ret) (.seq (.reg none [Om 18 1, Oo 19 (.iop .eql (.t 18) (.d (Ci 10))), Om 17 19]) (.cond (.t 17) (.seq (.reg none [Of 20 4 9, Ol 21 20, Oo 22 (.iop .geq (.t 21) (.d (Ci 0))), Om 23 22, Og 24 23 true (.fadr 4 (.t 9)), Og 25 23 true (.load false 1 (.t 24)), Og 26 23 true (.fadr 4 (.t 10)), Og 27 23 true (.load false 1 (.t 26)), Og 28 23 true (.iop .eql (.t 25) (.t 27)), Oo 29 (.pick (.t 23) (.t 28) (.d (.p (.s (.bool false))))), Om 12 29]) .ret) (.seq (.reg none [Om 31 1, Oo 32 (.iop .eql (.t 31) (.d (Ci 11))), Om 30 32]) (.cond (.t 30) (.seq (.reg none [Of 33 4 9, Ol 34 33, Oo 35 (.iop .lss (.t 34) (.d (Ci 0))), Om 36 35, Og 37 36 false (.fadr 4 (.t 9)), Og 38 36 false (.load false 1 (.t 37)), Og 39 36 false (.fadr 4 (.t 10)), Og 40 36 false (.load false 1 (.t 39)), Og 41 36 false (.iop .neq (.t 38) (.t 40)), Oo 42 (.pick (.t 36) (.d (.p (.s (.bool true)))) (.t 41)), Om 12 42]) .ret) .skip))))))) (.seq (.reg none [Oo 43 (.load true 3 (.t 6)), Of 44 0 9, Oo 45 (.load true 4 (.t 44)), Oo 46 (.call 220 [.t 43, .t 45]), Om 47 46, Og 48 47 true (.load true 3 (.t 6)), Og 49 47 true (.fadr 0 (.t 10)), Og 50 47 true (.load true 4 (.t 49)), Og 51 47 true (.call 220 [.t 48, .t 50]), Oo 52 (.pick (.t 47) (.t 51) (.d (.p (.s (.bool false))))), Om 53 52, Og 54 53 true (.load true 3 (.t 6)), Og 55 53 true (.mov (.t 1)), Og 56 53 true (.mov (.t 2)), Og 57 53 true (.fadr 0 (.t 9)), Og 58 53 true (.load true 4 (.t 57)), Og 59 53 true (.fadr 0 (.t 10)), Og 60 53 true (.load true 4 (.t 59)), Og 61 53 true (.mov (.t 5)), Og 62 53 true (.call 221 [.t 54, .t 55, .t 56, .t 58, .t 60, .t 61]), Oo 63 (.pick (.t 53) (.t 62) (.d (.p (.s (.bool false))))), Om 12 63]) .ret))), [.tmp 12]⟩
theorem c_ref15_Holds : comp Tryz.prog G0 170 = some m_ref15_Holds := by kernel_rfl
theorem q_ref15_Holds : Q0 170 := mCall_pure rfl
def m_ref15_Never : MF := ⟨108, (.seq (.reg none [Oo 6 (.box (.t 0)), Oo 9 (.box (.t 3)), Oo 10 (.box (.t 4)), Oo 12 (.mov (.d (.p (.s (.bool false)))))]) (.seq (.seq (.reg none [Om 14 1, Oo 15 (.call 168 [.t 14]), Oo 16 (.un .not (.t 15))]) (.cond (.t 16) (.seq (.reg none [Oo 12 (.mov (.d (.p (.s (.bool false)))))]) .ret) .skip)) (.seq (.reg none [Of 17 4 9, Ol 18 17, Oo 19 (.iop .neq (.t 18) (.d (Ci (-2)))), Om 20 19, Og 21 20 true (.fadr 4 (.t 10)), Og 22 20 true (.load false 1 (.t 21)), Og 23 20 true (.iop .neq (.t 22) (.d (Ci (-2)))), Oo 24 (.pick (.t 20) (.t 23) (.d (.p (.s (.bool false))))), Om 13 24]) (.seq (.seq (.reg none [Om 25 1, Oo 26 (.call 169 [.t 25])]) (.cond (.t 26) (.seq (.reg none [Om 27 13, Om 28 27, Og 29 28 false (.mov (.t 1)), Og 30 28 false (.iop .eql (.t 29) (.d (Ci 10))), Og 31 28 false (.mov (.t 30)), Og 32 31 true (.fadr 4 (.t 9)), Og 33 31 true (.load false 1 (.t 32)), Og 34 31 true (.iop .eql (.t 33) (.d (Ci (-1)))), Og 35 31 true (.mov (.t 34)), Og 36 35 false (.fadr 4 (.t 10)), Og 37 35 false (.load false 1 (.t 36)), Og 38 35 false (.iop .eql (.t 37) (.d (Ci (-1)))), Og 39 31 true (.pick (.t 35) (.d (.p (.s (.bool true)))) (.t 38)), Og 40 28 false (.pick (.t 31) (.t 39) (.d (.p (.s (.bool false))))), Oo 41 (.pick (.t 28) (.d (.p (.s (.bool true)))) (.t 40)), Om 42 41, Og 43 42 true (.load true 3 (.t 6)), Og 44 42 true (.mov (.t 1)), Og 45 42 true (.mov (.t 2)), Og 46 42 true (.load true 5 (.t 9)), Og 47 42 true (.load true 5 (.t 10)), Og 48 42 true (.mov (.t 5)), Og 49 42 true (.call 170 [.t 43, .t 44, .t 45, .t 46, .t 47, .t 48]), Og 50 42 true (.un .not (.t 49)), Oo 51 (.pick (.t 42) (.t 50) (.d (.p (.s (.bool false))))), Om 12 51]) .ret) .skip)) (.seq (.seq (.reg none [Of 52 0 9, Of 53 0 52, Ol 54 53, Oo 55 (.iop .eql (.t 54) (.d (.p (.s (.int .u32 0))))), Om 56 55, Og 57 56 false (.fadr 0 (.t 10)), Og 58 56 false (.fadr 0 (.t 57)), Og 59 56 false (.load false 1 (.t 58)), Og 60 56 false (.iop .eql (.t 59) (.d (.p (.s (.int .u32 0))))), Oo 61 (.pick (.t 56) (.d (.p (.s (.bool true)))) (.t 60)), Om 62 61, Og 63 62 false (.load true 3 (.t 6)), Og 64 62 false (.mov (.t 1)), Og 65 62 false (.mov (.t 2)), Og 66 62 false (.load true 5 (.t 9)), Og 67 62 false (.load true 5 (.t 10)), Og 68 62 false (.mov (.t 5)), Og 69 62 false (.call 170 [.t 63, .t 64, .t 65, .t 66, .t 67, .t 68]), Oo 70 (.pick (.t 62) (.d (.p (.s (.bool true)))) (.t 69))]) (.cond (.t 70) (.seq (.reg none [Om 71 1, Oo 72 (.iop .eql (.t 71) (.d (Ci 14))), Om 73 72, Og 74 73 true (.fadr 0 (.t 9)), Og 75 73 true (.fadr 0 (.t 74)), Og 76 73 true (.load false 1 (.t 75)), Og 77 73 true (.iop .neq (.t 76) (.d (.p (.s (.int .u32 0))))), Oo 78 (.pick (.t 73) (.t 77) (.d (.p (.s (.bool false))))), Om 79 78, Og 80 79 true (.fadr 0 (.t 10)), Og 81 79 true (.fadr 0 (.t 80)), Og 82 79 true (.load false 1 (.t 81)), Og 83 79 true (.iop .neq (.t 82) (.d (.p (.s (.int .u32 0))))), Oo 84 (.pick (.t 79) (.t 83) (.d (.p (.s (.bool false))))), Om 85 84, Og 86 85 true (.load true 3 (.t 6)), Og 87 85 true (.mov (.t 1)), Og 88 85 true (.mov (.t 2)), Og 89 85 true (.load true 5 (.t 9)), Og 90 85 true (.load true 5 (.t 10)), Og 91 85 true (.call 170 [.t 86, .t 87, .t 88, .t 89, .t 90, (.d (Ci 0))]), Og 92 85 true (.un .not (.t 91)), Oo 93 (.pick (.t 85) (.t 92) (.d (.p (.s (.bool false))))), Om 12 93]) .ret) .skip)) (.seq (.reg none [Om 94 1, Oo 95 (.iop .neq (.t 94) (.d (Ci 14))), Om 96 95, Og 97 96 false (.mov (.t 13)), Oo 98 (.pick (.t 96) (.d (.p (.s (.bool true)))) (.t 97)), Om 99 98, Og 100 99 false (.load true 3 (.t 6)), Og 101 99 false (.mov (.t 1)), Og 102 99 false (.mov (.t 2)), Og 103 99 false (.load true 5 (.t 9)), Og 104 99 false (.load true 5 (.t 10)), Og 105 99 false (.call 170 [.t 100, .t 101, .t 102, .t 103, .t 104, (.d (Ci 0))]), Og 106 99 false (.un .not (.t 105)), Oo 107 (.pick (.t 99) (.d (.p (.s (.bool true)))) (.t 106)), Om 12 107]) .ret)))))), [.tmp 12]⟩
theorem c_ref15_Never : comp Tryz.prog G0 99 = some m_ref15_Never := by kernel_rfl
theorem q_ref15_Never : Q0 99 := mCall_pure rfl
def holdB (g : VGrid) (x y : VSpot) (walk : Int) : Bool := whenB g x.when && whenB g y.when && reachB x.when y.when walk
def neverB (g : VGrid) (x y : VSpot) (walk : Int) : Bool := decide ((x.when.weeks.val : Int) ≠ 0) && decide ((y.when.weeks.val : Int) ≠ 0) && (!holdB g x y 0 || (!holdB g x y walk && (decide (x.room ≠ -2) && decide (y.room ≠ -2))))
theorem slots_res (a b : VWhen) : ∃ q, res Tryz.prog G0 162 [a.P, b.P] = some q ∧ ∃ u v : Bool, q = .tup [B u, B v] := by
  refine res_ex c_pair_slots (Nat.le_of_ble_eq_true rfl) ?_
  simp only [m_pair_slots, Oo, Ou, Og, Ci, Om, Of, Ol, Ok]
  repeat' (first | simp only [go_sem, Int.reduceLT, Int.reduceLE, Int.reduceNeg, Int.reduceEq, Nat.reduceAdd, Nat.reduceEqDiff, Nat.reduceLeDiff, Nat.reduceBEq, reduceIte, reduceCtorEq] | (with_reducible first | apply c1 | (first | apply c2 | apply c3) <;> (intro hc; simp only [hc]) | (first | apply c4 | apply c5) <;> (intro hc; rw [hc])))
  all_goals exact ⟨_, _, rfl⟩
theorem needs_res : res Tryz.prog G0 96 [I 14] = some (.tup [B true, B true]) := by
  refine res_body c_pair_Needs (Nat.le_of_ble_eq_true rfl) ?_
  simp only [m_pair_Needs, Oo, Ou, Og, Ci, Om, Of, Ol, Ok]
  repeat' (first | simp only [go_sem, Int.reduceLT, Int.reduceLE, Int.reduceNeg, Int.reduceEq, Nat.reduceAdd, Nat.reduceEqDiff, Nat.reduceLeDiff, Nat.reduceBEq, reduceIte, reduceCtorEq] | (with_reducible first | apply c1 | (first | apply c2 | apply c3) <;> (intro hc; simp only [hc]) | (first | apply c4 | apply c5) <;> (intro hc; rw [hc])))
set_option maxRecDepth 100000 in
set_option maxHeartbeats 4000000 in
theorem holds_res (g : VGrid) (a : Int) (x y : VSpot) (walk : Int) : res Tryz.prog G0 97 [g.P, I 14, I a, x.P, y.P, I walk] = some (B (holdB g x y walk)) := by
  obtain ⟨q, hq, u, v, rfl⟩ := slots_res x.when y.when
  refine res_body c_pair_Holds (Nat.le_of_ble_eq_true rfl) ?_
  simp only [m_pair_Holds, Oo, Ou, Og, Ci, Om, Of, Ol, Ok]
  cases hx : whenB g x.when with
  | false =>
    repeat' (first | simp only [go_sem, Int.reduceLT, Int.reduceLE, Int.reduceNeg, Int.reduceEq, Nat.reduceAdd, Nat.reduceEqDiff, Nat.reduceLeDiff, Nat.reduceBEq, reduceIte, reduceCtorEq, q_pair_Needs, needs_res, q_when_Right, when_res, hx] | (with_reducible first | apply c1 | (first | apply c2 | apply c3) <;> (intro hc; simp only [hc]) | (first | apply c4 | apply c5) <;> (intro hc; rw [hc])))
    all_goals (simp [holdB, hx])
  | true =>
    cases hy : whenB g y.when with
    | false =>
      repeat' (first | simp only [go_sem, Int.reduceLT, Int.reduceLE, Int.reduceNeg, Int.reduceEq, Nat.reduceAdd, Nat.reduceEqDiff, Nat.reduceLeDiff, Nat.reduceBEq, reduceIte, reduceCtorEq, q_pair_Needs, needs_res, q_when_Right, when_res, hx, hy] | (with_reducible first | apply c1 | (first | apply c2 | apply c3) <;> (intro hc; simp only [hc]) | (first | apply c4 | apply c5) <;> (intro hc; rw [hc])))
      all_goals (simp [holdB, hy])
    | true =>
      repeat' (first | simp only [go_sem, Int.reduceLT, Int.reduceLE, Int.reduceNeg, Int.reduceEq, Nat.reduceAdd, Nat.reduceEqDiff, Nat.reduceLeDiff, Nat.reduceBEq, reduceIte, reduceCtorEq, q_pair_Needs, needs_res, q_when_Right, when_res, hx, hy, q_pair_slots, hq, q_person_Reach, reach_res] | (with_reducible first | apply c1 | (first | apply c2 | apply c3) <;> (intro hc; simp only [hc]) | (first | apply c4 | apply c5) <;> (intro hc; rw [hc])))
      all_goals first | rfl | (simp [holdB, hx, hy])
set_option maxRecDepth 100000 in
set_option maxHeartbeats 4000000 in
theorem never_res (g : VGrid) (x y : VSpot) (walk : Int) : res Tryz.prog G0 61 [g.P, I 14, I 0, x.P, y.P, I walk] = some (B (neverB g x y walk)) := by
  refine res_body c_pair_Never (Nat.le_of_ble_eq_true rfl) ?_
  simp only [m_pair_Never, Oo, Ou, Og, Ci, Om, Of, Ol, Ok]
  repeat' (first | simp only [go_sem, Int.reduceLT, Int.reduceLE, Int.reduceNeg, Int.reduceEq, Nat.reduceAdd, Nat.reduceEqDiff, Nat.reduceLeDiff, Nat.reduceBEq, reduceIte, reduceCtorEq, q_pair_Needs, needs_res, q_pair_Holds, holds_res] | (with_reducible first | apply c1 | (first | apply c2 | apply c3) <;> (intro hc; simp only [hc]) | (first | apply c4 | apply c5) <;> (intro hc; rw [hc])))
  all_goals first
    | (rw [s_bool]; simp only [neverB]; cases hz0 : holdB g x y 0 <;> cases hz1 : holdB g x y walk <;> simp_all; done)
    | (simp_all [neverB]; done)
theorem rrooms14_res : res Tryz.prog G0 169 [I 14] = some (B false) := by
  refine res_body c_ref15_rooms (Nat.le_of_ble_eq_true rfl) ?_
  simp only [m_ref15_rooms, Oo, Ou, Og, Ci, Om, Of, Ol, Ok]
  repeat' (first | simp only [go_sem, Int.reduceLT, Int.reduceLE, Int.reduceNeg, Int.reduceEq, Nat.reduceAdd, Nat.reduceEqDiff, Nat.reduceLeDiff, Nat.reduceBEq, reduceIte, reduceCtorEq] | (with_reducible first | apply c1 | (first | apply c2 | apply c3) <;> (intro hc; simp only [hc]) | (first | apply c4 | apply c5) <;> (intro hc; rw [hc])))
set_option maxRecDepth 100000 in
set_option maxHeartbeats 4000000 in
theorem rtimes14_res (g : VGrid) (n : Int) (a b : VWhen) (walk : Int) : res Tryz.prog G0 221 [g.P, I 14, I n, a.P, b.P, I walk] = some (B (reachB a b walk)) := by
  refine res_body c_ref15_times (Nat.le_of_ble_eq_true rfl) ?_
  simp only [m_ref15_times, Oo, Ou, Og, Ci, Om, Of, Ol, Ok]
  repeat' (first | simp only [go_sem, Int.reduceLT, Int.reduceLE, Int.reduceNeg, Int.reduceEq, Nat.reduceAdd, Nat.reduceEqDiff, Nat.reduceLeDiff, Nat.reduceBEq, reduceIte, reduceCtorEq, q_ref12_Reach, rreach_res] | (with_reducible first | apply c1 | (first | apply c2 | apply c3) <;> (intro hc; simp only [hc]) | (first | apply c4 | apply c5) <;> (intro hc; rw [hc])))
set_option maxRecDepth 100000 in
set_option maxHeartbeats 4000000 in
theorem rholds_res (g : VGrid) (a : Int) (x y : VSpot) (walk : Int) : res Tryz.prog G0 170 [g.P, I 14, I a, x.P, y.P, I walk] = some (B (holdB g x y walk)) := by
  have hk : pairB 14 = true := rfl
  refine res_body c_ref15_Holds (Nat.le_of_ble_eq_true rfl) ?_
  simp only [m_ref15_Holds, Oo, Ou, Og, Ci, Om, Of, Ol, Ok]
  repeat' (first | simp only [go_sem, Int.reduceLT, Int.reduceLE, Int.reduceNeg, Int.reduceEq, Nat.reduceAdd, Nat.reduceEqDiff, Nat.reduceLeDiff, Nat.reduceBEq, reduceIte, reduceCtorEq, q_ref15_Known, rpknown_res, hk, q_ref09_Right, rwhen_res, q_ref15_times, rtimes14_res] | (with_reducible first | apply c1 | (first | apply c2 | apply c3) <;> (intro hc; simp only [hc]) | (first | apply c4 | apply c5) <;> (intro hc; rw [hc])))
  all_goals (simp_all [holdB])
set_option maxRecDepth 100000 in
set_option maxHeartbeats 4000000 in
theorem rnever_res (g : VGrid) (x y : VSpot) (walk : Int) : res Tryz.prog G0 99 [g.P, I 14, I 0, x.P, y.P, I walk] = some (B (neverB g x y walk)) := by
  have hk : pairB 14 = true := rfl
  refine res_body c_ref15_Never (Nat.le_of_ble_eq_true rfl) ?_
  simp only [m_ref15_Never, Oo, Ou, Og, Ci, Om, Of, Ol, Ok]
  repeat' (first | simp only [go_sem, Int.reduceLT, Int.reduceLE, Int.reduceNeg, Int.reduceEq, Nat.reduceAdd, Nat.reduceEqDiff, Nat.reduceLeDiff, Nat.reduceBEq, reduceIte, reduceCtorEq, q_ref15_Known, rpknown_res, hk, q_ref15_rooms, rrooms14_res, q_ref15_Holds, rholds_res] | (with_reducible first | apply c1 | (first | apply c2 | apply c3) <;> (intro hc; simp only [hc]) | (first | apply c4 | apply c5) <;> (intro hc; rw [hc])))
  all_goals first
    | (rw [s_bool]; simp only [neverB]; cases hz0 : holdB g x y 0 <;> cases hz1 : holdB g x y walk <;> simp_all; done)
    | (simp_all [neverB]; done)
def m_fit_Clash : MF := ⟨50, (.seq (.reg none [Oo 4 (.box (.t 0)), Oo 8 (.mov (.d (.p (.s (.bool false)))))]) (.seq (.reg none [Oo 14 (.load true 15 (.t 4)), Om 15 1, Om 16 2, Oo 17 (.call 60 [.t 14, .t 15, .t 16]), Om 13 17, Oo 18 (.xtr 0 (.t 13)), Oo 19 (.xtr 1 (.t 13)), Oo 9 (.alloc [(.p (.s (.int .u32 0))), (.p (.s (.int .u8 0))), (Ci 0), (Ci 0), (Ci 0)]), Ou (.store 5 (.t 9) (.t 18)), Om 10 19]) (.seq (.reg none [Oo 21 (.load true 15 (.t 4)), Om 22 1, Om 23 3, Oo 24 (.call 60 [.t 21, .t 22, .t 23]), Om 20 24, Oo 25 (.xtr 0 (.t 20)), Oo 26 (.xtr 1 (.t 20)), Oo 11 (.alloc [(.p (.s (.int .u32 0))), (.p (.s (.int .u8 0))), (Ci 0), (Ci 0), (Ci 0)]), Ou (.store 5 (.t 11) (.t 25)), Om 12 26]) (.seq (.seq (.reg none [Om 27 10, Oo 28 (.un .not (.t 27)), Om 29 28, Og 30 29 false (.mov (.t 12)), Og 31 29 false (.un .not (.t 30)), Oo 32 (.pick (.t 29) (.d (.p (.s (.bool true)))) (.t 31)), Om 33 32, Og 34 33 false (.mov (.t 2)), Og 35 33 false (.mov (.t 3)), Og 36 33 false (.iop .eql (.t 34) (.t 35)), Oo 37 (.pick (.t 33) (.d (.p (.s (.bool true)))) (.t 36))]) (.cond (.t 37) (.seq (.reg none [Oo 8 (.mov (.d (.p (.s (.bool false)))))]) .ret) .skip)) (.seq (.reg (some #[0, 1, 0, 0, 0, 16, 0, 64, 0, 256, 1008, 2047, 4095]) [Of 38 1 4, Oo 39 (.load true 3 (.t 38)), Oo 40 (.load true 5 (.t 9)), Oo 41 (.load true 5 (.t 11)), Of 42 5 4, Ol 43 42, Of 44 4 9, Ol 45 44, Of 46 4 11, Ol 47 46, Oo 48 (.call 62 [.t 43, .t 45, .t 47]), Oo 49 (.call 61 [.t 39, (.d (Ci 14)), (.d (Ci 0)), .t 40, .t 41, .t 48]), Om 8 49]) .ret))))), [.tmp 8]⟩
theorem c_fit_Clash : comp Tryz.prog G0 33 = some m_fit_Clash := by kernel_rfl
theorem q_fit_Clash : Q0 33 := mCall_pure rfl
def m_ref42_clash : MF := ⟨47, (.seq (.reg none [Oo 4 (.box (.t 0)), Oo 8 (.mov (.d (.p (.s (.bool false)))))]) (.seq (.seq (.reg none [Om 11 2, Om 12 3, Oo 13 (.iop .eql (.t 11) (.t 12)), Om 14 13, Og 15 14 false (.mov (.t 1)), Og 16 14 false (.mov (.t 2)), Og 17 14 false (.iadrS 2 (.t 15) (.t 16)), Og 18 14 false (.fadr 0 (.t 17)), Og 19 14 false (.load false 1 (.t 18)), Og 20 14 false (.iop .lss (.t 19) (.d (Ci 0))), Oo 21 (.pick (.t 14) (.d (.p (.s (.bool true)))) (.t 20)), Om 22 21, Og 23 22 false (.mov (.t 1)), Og 24 22 false (.mov (.t 3)), Og 25 22 false (.iadrS 2 (.t 23) (.t 24)), Og 26 22 false (.fadr 0 (.t 25)), Og 27 22 false (.load false 1 (.t 26)), Og 28 22 false (.iop .lss (.t 27) (.d (Ci 0))), Oo 29 (.pick (.t 22) (.d (.p (.s (.bool true)))) (.t 28))]) (.cond (.t 29) (.seq (.reg none [Oo 8 (.mov (.d (.p (.s (.bool false)))))]) .ret) .skip)) (.seq (.reg (some #[0, 0, 0, 7, 0, 0, 0, 127, 0, 0, 1023, 2047]) [Oo 30 (.load true 15 (.t 4)), Om 31 1, Om 32 2, Oo 33 (.call 98 [.t 30, .t 31, .t 32]), Oo 34 (.load true 15 (.t 4)), Om 35 1, Om 36 3, Oo 37 (.call 98 [.t 34, .t 35, .t 36]), Oo 9 (.alloc [(.p (.s (.int .u32 0))), (.p (.s (.int .u8 0))), (Ci 0), (Ci 0), (Ci 0)]), Oo 10 (.alloc [(.p (.s (.int .u32 0))), (.p (.s (.int .u8 0))), (Ci 0), (Ci 0), (Ci 0)]), Ou (.store 5 (.t 9) (.t 33)), Ou (.store 5 (.t 10) (.t 37))]) (.seq (.reg (some #[0, 1, 0, 0, 0, 0, 0, 112, 255, 511]) [Of 38 1 4, Oo 39 (.load true 3 (.t 38)), Oo 40 (.load true 5 (.t 9)), Oo 41 (.load true 5 (.t 10)), Oo 42 (.load true 15 (.t 4)), Oo 43 (.load true 5 (.t 9)), Oo 44 (.load true 5 (.t 10)), Oo 45 (.call 100 [.t 42, .t 43, .t 44]), Oo 46 (.call 99 [.t 39, (.d (Ci 14)), (.d (Ci 0)), .t 40, .t 41, .t 45]), Om 8 46]) .ret)))), [.tmp 8]⟩
theorem c_ref42_clash : comp Tryz.prog G0 64 = some m_ref42_clash := by kernel_rfl
theorem q_ref42_clash : Q0 64 := mCall_pure rfl
def m_ref42_Clash : MF := ⟨38, (.seq (.reg none [Oo 4 (.box (.t 0)), Oo 8 (.mov (.d (.p (.s (.bool false)))))]) (.seq (.seq (.reg none [Oo 9 (.load true 15 (.t 4)), Om 10 1, Oo 11 (.call 48 [.t 9, .t 10]), Oo 12 (.un .not (.t 11)), Om 13 12, Og 14 13 false (.mov (.t 2)), Og 15 13 false (.iop .lss (.t 14) (.d (Ci 0))), Oo 16 (.pick (.t 13) (.d (.p (.s (.bool true)))) (.t 15)), Om 17 16, Og 18 17 false (.mov (.t 3)), Og 19 17 false (.iop .lss (.t 18) (.d (Ci 0))), Oo 20 (.pick (.t 17) (.d (.p (.s (.bool true)))) (.t 19)), Om 21 20, Og 22 21 false (.mov (.t 2)), Og 23 21 false (.mov (.t 1)), Og 24 21 false (.lenL (.t 23)), Og 25 21 false (.iop .geq (.t 22) (.t 24)), Oo 26 (.pick (.t 21) (.d (.p (.s (.bool true)))) (.t 25)), Om 27 26, Og 28 27 false (.mov (.t 3)), Og 29 27 false (.mov (.t 1)), Og 30 27 false (.lenL (.t 29)), Og 31 27 false (.iop .geq (.t 28) (.t 30)), Oo 32 (.pick (.t 27) (.d (.p (.s (.bool true)))) (.t 31))]) (.cond (.t 32) (.seq (.reg none [Oo 8 (.mov (.d (.p (.s (.bool false)))))]) .ret) .skip)) (.seq (.reg none [Oo 33 (.load true 15 (.t 4)), Om 34 1, Om 35 2, Om 36 3, Oo 37 (.call 64 [.t 33, .t 34, .t 35, .t 36]), Om 8 37]) .ret))), [.tmp 8]⟩
theorem c_ref42_Clash : comp Tryz.prog G0 35 = some m_ref42_Clash := by kernel_rfl
theorem q_ref42_Clash : Q0 35 := mCall_pure rfl
def clashB (p : VProblem) (l : List VSeat) (a b : Int) : Bool := pspotB p l a && pspotB p l b && decide (a ≠ b) && neverB p.grid (pspotV p l a) (pspotV p l b) (walkN p.walk (pspotV p l a).room (pspotV p l b).room)
theorem clash_res (p : VProblem) (hp : smP p) (l : List VSeat) (hl : l.length ≤ 1048576) (a b : Int) : res Tryz.prog G0 33 [p.P, .lst (l.map VSeat.P), I a, I b] = some (B (clashB p l a b)) := by
  refine res_body c_fit_Clash (Nat.le_of_ble_eq_true rfl) ?_
  simp only [m_fit_Clash, Oo, Ou, Og, Ci, Om, Of, Ol, Ok]
  repeat' (first | simp only [go_sem, Int.reduceLT, Int.reduceLE, Int.reduceNeg, Int.reduceEq, Nat.reduceAdd, Nat.reduceEqDiff, Nat.reduceLeDiff, Nat.reduceBEq, reduceIte, reduceCtorEq, q_plan_Spot, pspot_res p hp l hl, q_room_Walk, walk_res, q_pair_Never, never_res] | (with_reducible first | apply c1 | (first | apply c2 | apply c3) <;> (intro hc; simp only [hc]) | (first | apply c4 | apply c5) <;> (intro hc; rw [hc])))
  all_goals (simp_all [clashB])
theorem rpspot_res (p : VProblem) (l : List VSeat) (i : Nat) (k : VClass) (s : VSeat) (hk : p.classes[i]? = some k) (hs : l[i]? = some s) : res Tryz.prog G0 98 [p.P, .lst (l.map VSeat.P), I (i : Int)] = some (spotV k s).P := by
  refine res_body c_ref20_Spot (Nat.le_of_ble_eq_true rfl) ?_
  simp only [m_ref20_Spot, Oo, Ou, Og, Ci, Om, Of, Ol, Ok]
  repeat' (first | simp only [go_sem, Int.reduceLT, Int.reduceLE, Int.reduceNeg, Int.reduceEq, Nat.reduceAdd, Nat.reduceEqDiff, Nat.reduceLeDiff, Nat.reduceBEq, reduceIte, reduceCtorEq, hk, hs, q_ref13_Spot, rspot_res] | (with_reducible first | apply c1 | (first | apply c2 | apply c3) <;> (intro hc; simp only [hc]) | (first | apply c4 | apply c5) <;> (intro hc; rw [hc])))
  all_goals rfl
theorem rwalk20_res (p : VProblem) (x y : VSpot) : res Tryz.prog G0 100 [p.P, x.P, y.P] = some (I (walkN p.walk x.room y.room)) := by
  refine res_body c_ref20_Walk (Nat.le_of_ble_eq_true rfl) ?_
  simp only [m_ref20_Walk, Oo, Ou, Og, Ci, Om, Of, Ol, Ok]
  repeat' (first | simp only [go_sem, Int.reduceLT, Int.reduceLE, Int.reduceNeg, Int.reduceEq, Nat.reduceAdd, Nat.reduceEqDiff, Nat.reduceLeDiff, Nat.reduceBEq, reduceIte, reduceCtorEq, q_ref11_Walk, rwalk_res] | (with_reducible first | apply c1 | (first | apply c2 | apply c3) <;> (intro hc; simp only [hc]) | (first | apply c4 | apply c5) <;> (intro hc; rw [hc])))
end Go.Proofs.YtddmnddocbmjnaaGreat.Dv
namespace Go.Proofs.YtddmnddocbmjnaaGreat.Dv
def m_ref14_Insert : MF := ⟨36, (.seq (.reg none [Oo 4 (.mov (.d .nil))]) (.seq (.seq (.reg none [Om 6 0, Om 7 1, Oo 8 (.call 41 [.t 6, .t 7])]) (.cond (.t 8) (.seq (.reg none [Om 9 0, Om 4 9]) .ret) .skip)) (.seq (.reg none [Oo 5 (.mov (.d (Ci 0)))]) (.seq (.block 0 (.loop (.seq (.seq (.reg none [Om 10 5, Om 11 0, Ok 12 11, Oo 13 (.iop .lss (.t 10) (.t 12)), Om 14 13, Og 15 14 true (.mov (.t 0)), Og 16 14 true (.mov (.t 5)), Og 17 14 true (.iadrS 1 (.t 15) (.t 16)), Og 18 14 true (.load false 1 (.t 17)), Og 19 14 true (.mov (.t 1)), Og 20 14 true (.iop .lss (.t 18) (.t 19)), Oo 21 (.pick (.t 14) (.t 20) (.d (.p (.s (.bool false)))))]) (.cond (.t 21) .skip (.exit 0))) (.block 1 (.reg none [Om 22 5, Oo 23 (.iop .add (.t 22) (.d (Ci 1))), Om 5 23]))))) (.seq (.reg (some #[0, 0, 0, 6, 15, 0, 32, 127, 0, 0, 768, 2047, 4095]) [Oo 24 (.bldS false none 0 []), Om 25 0, Om 26 5, Oo 27 (.ssl 1 (.t 25) none (some (.t 26)) none), Oo 28 (.app false none 8 (.t 24) (.t 27)), Om 29 1, Oo 30 (.bldS false none 1 [.t 29]), Oo 31 (.app false none 8 (.t 28) (.t 30)), Om 32 0, Om 33 5, Oo 34 (.ssl 1 (.t 32) (some (.t 33)) none none), Oo 35 (.app false none 8 (.t 31) (.t 34)), Om 4 35]) .ret))))), [.tmp 4]⟩
theorem c_ref14_Insert : comp Tryz.prog G0 63 = some m_ref14_Insert := by kernel_rfl
theorem q_ref14_Insert : Q0 63 := mCall_pure rfl
def m_ref42_All : MF := ⟨34, (.seq (.reg none [Oo 1 (.box (.t 0)), Oo 2 (.mov (.d .nil))]) (.seq (.reg none [Oo 3 (.mov (.d .nil))]) (.seq (.seq (.reg none [Oo 4 (.mov (.d (Ci 0)))]) (.block 0 (.loop (.seq (.seq (.reg none [Om 6 4, Of 7 0 1, Ol 8 7, Ok 9 8, Oo 10 (.iop .lss (.t 6) (.t 9))]) (.cond (.t 10) .skip (.exit 0))) (.seq (.block 1 (.seq (.reg none [Oo 5 (.mov (.d (Ci 0)))]) (.block 2 (.loop (.seq (.seq (.reg none [Om 13 5, Of 14 0 1, Ol 15 14, Om 16 4, Oo 17 (.iadrS 1 (.t 15) (.t 16)), Ol 18 17, Ok 19 18, Oo 20 (.iop .lss (.t 13) (.t 19))]) (.cond (.t 20) .skip (.exit 2))) (.seq (.block 3 (.reg none [Om 23 3, Of 24 0 1, Ol 25 24, Om 26 4, Oo 27 (.iadrS 1 (.t 25) (.t 26)), Ol 28 27, Om 29 5, Oo 30 (.iadrS 1 (.t 28) (.t 29)), Ol 31 30, Oo 32 (.call 63 [.t 23, .t 31]), Om 3 32])) (.reg none [Om 21 5, Oo 22 (.iop .add (.t 21) (.d (Ci 1))), Om 5 22]))))))) (.reg none [Om 11 4, Oo 12 (.iop .add (.t 11) (.d (Ci 1))), Om 4 12])))))) (.seq (.reg none [Om 33 3, Om 2 33]) .ret)))), [.tmp 2]⟩
theorem c_ref42_All : comp Tryz.prog G0 34 = some m_ref42_All := by kernel_rfl
theorem q_ref42_All : Q0 34 := mCall_pure rfl
theorem app_ow_e {l : List PDV} {i id : Nat} {h : PT AObj} : appX false none 8 (.ow i l) (.p (.lst [])) h id = some { dv := .ow i l, rd := [], up := [] } := rfl
theorem szOk_I {l : List Int} : szOk 1 (l.map I) = true := by simp [szOk]; intros; rfl
theorem ssl_drop {l : List Int} {i : Nat} : sslX 1 (.p (.lst (l.map I))) (some (.p (.s (.int .i64 (i : Int))))) none none = if i ≤ l.length then some (.p (.lst ((l.drop i).map I))) else none := by
  simp only [sslX, lenAv, bnd, asI]
  rw [if_pos (by omega)]
  simp only [List.length_map, Int.toNat_natCast, Nat.le_refl, and_true, cut, szOk_I, or_true, if_true]
  split
  · rw [List.take_of_length_le (by simp), List.map_drop]
  · rfl
theorem ssl_takeL {l : List Int} {i : Nat} : sslX 1 (.p (.lst (l.map I))) none (some (.p (.s (.int .i64 (i : Int))))) none = if i ≤ l.length then some (.p (.lst ((l.take i).map I))) else none := by
  rw [ssl_take, List.length_map, List.map_take]
theorem put_sorted {l : List Int} {n : Int} {i : Nat} (hs : l.Pairwise (· < ·)) (h1 : ∀ y ∈ l.take i, y < n) (h2 : ∀ y ∈ l.drop i, n < y) : (l.take i ++ [n] ++ l.drop i).Pairwise (· < ·) ∧ ∀ y, y ∈ l.take i ++ [n] ++ l.drop i ↔ y = n ∨ y ∈ l := by
  have hs' := hs
  rw [← List.take_append_drop i l, List.pairwise_append] at hs'
  constructor
  · rw [List.pairwise_append, List.pairwise_append]
    refine ⟨⟨hs'.1, by simp, fun a ha b hb => ?_⟩, hs'.2.1, fun a ha b hb => ?_⟩
    · simp at hb; subst hb; exact h1 a ha
    · rw [List.mem_append, List.mem_singleton] at ha
      rcases ha with ha | rfl
      · exact hs'.2.2 a ha b hb
      · exact h2 b hb
  · intro y
    have : y ∈ l ↔ y ∈ l.take i ∨ y ∈ l.drop i := by rw [← List.mem_append, List.take_append_drop]
    rw [this]
    simp only [List.mem_append, List.mem_singleton]
    constructor
    · rintro ((h | h) | h)
      · exact .inr (.inl h)
      · exact .inl h
      · exact .inr (.inr h)
    · rintro (h | h | h)
      · exact .inl (.inr h)
      · exact .inl (.inl h)
      · exact .inr h
theorem insert_res (l : List Int) (hl : l.length ≤ 1048576) (n : Int) (hs : l.Pairwise (· < ·)) : ∃ q, res Tryz.prog G0 63 [L l, I n] = some q ∧ ∃ k : List Int, q = L k ∧ k.Pairwise (· < ·) ∧ (∀ y, y ∈ k ↔ y = n ∨ y ∈ l) ∧ k.length ≤ l.length + 1 := by
  refine res_ex c_ref14_Insert (Nat.le_of_ble_eq_true rfl) ?_
  simp only [m_ref14_Insert, Oo, Ou, Og, Ci, Om, Of, Ol, Ok]
  cases hmem : memB n l with
  | true =>
    repeat' (first | simp only [go_sem, Int.reduceLT, Int.reduceLE, Int.reduceNeg, Int.reduceEq, Nat.reduceAdd, Nat.reduceEqDiff, Nat.reduceLeDiff, Nat.reduceBEq, reduceIte, reduceCtorEq, q_ref14_Has, has_res l n (by omega), hmem] | (with_reducible first | apply c1 | (first | apply c2 | apply c3) <;> (intro hc; simp only [hc]) | (first | apply c4 | apply c5) <;> (intro hc; rw [hc])))
    refine ⟨l, rfl, hs, fun y => ⟨.inr, fun h => ?_⟩, by omega⟩
    rcases h with rfl | h
    · exact memB_iff.1 hmem
    · exact h
  | false =>
    have hno := memB_not.1 hmem
    repeat' (first | simp only [go_sem, Int.reduceLT, Int.reduceLE, Int.reduceNeg, Int.reduceEq, Nat.reduceAdd, Nat.reduceEqDiff, Nat.reduceLeDiff, Nat.reduceBEq, reduceIte, reduceCtorEq, q_ref14_Has, has_res l n (by omega), hmem] | (with_reducible first | apply c1 | (first | apply c2 | apply c3) <;> (intro hc; simp only [hc]) | (first | apply c4 | apply c5) <;> (intro hc; rw [hc])))
    refine X_for 5 l.length (fun i s => ∀ y ∈ l.take i, y < n) 0 (by omega) ?_ (Nat.zero_le _) (by simp) ?_
    · simp only [go_sem, Int.reduceLT, Int.reduceLE, Int.reduceNeg, Int.reduceEq, Nat.reduceAdd, Nat.reduceEqDiff, Nat.reduceLeDiff, Nat.reduceBEq, reduceIte, reduceCtorEq]; rfl
    intro i t h nx hf hi0 hi h5 hj
    have h0 := hf 0 rfl; simp only [PT.get_set, Nat.reduceEqDiff, if_true, if_false, reduceIte, PT.get_leaf] at h0; have h1 := hf 1 rfl; simp only [PT.get_set, Nat.reduceEqDiff, if_true, if_false, reduceIte, PT.get_leaf] at h1
    clear hf
    have fin : ∀ {k : List Int}, k = l.take i ++ [n] ++ l.drop i → (∀ y ∈ l.drop i, n < y) → ∃ k' : List Int, PDV.lst (k.map I) = L k' ∧ k'.Pairwise (· < ·) ∧ (∀ y, y ∈ k' ↔ y = n ∨ y ∈ l) ∧ k'.length ≤ l.length + 1 := fun {k} e hd => by
      obtain ⟨p1, p2⟩ := put_sorted hs hj hd
      refine ⟨_, rfl, by rw [e]; exact p1, by rw [e]; exact p2, by rw [e]; simp; omega⟩
    rcases Nat.lt_or_ge i l.length with hlt | hge
    · obtain ⟨x, hx, _, htk⟩ := get_dec (l := l) (i := i) (by simpa using hlt)
      have hdl : decide ((i : Int) < (l.length : Int)) = true := by simpa using hlt
      by_cases hxn : x < n
      · repeat' (first | simp only [go_sem, Int.reduceLT, Int.reduceLE, Int.reduceNeg, Int.reduceEq, Nat.reduceAdd, Nat.reduceEqDiff, Nat.reduceLeDiff, Nat.reduceBEq, reduceIte, reduceCtorEq, h0, h1, h5, hx, hdl, show decide (x < n) = true by simpa using hxn] | (with_reducible first | apply c1 | (first | apply c2 | apply c3) <;> (intro hc; simp only [hc]) | (first | apply c4 | apply c5) <;> (intro hc; rw [hc])))
        refine ⟨hlt, fun y hy => ?_⟩
        rw [htk, List.mem_append, List.mem_singleton] at hy
        rcases hy with hy | rfl
        · exact hj y hy
        · exact hxn
      · have hd : ∀ y ∈ l.drop i, n < y := by
          have e : l.drop i = x :: l.drop (i + 1) := by
            rw [List.drop_eq_getElem_cons hlt]
            congr 1
            exact (List.getElem?_eq_some_iff.1 hx).2
          have hne : x ≠ n := fun e => hno (e ▸ List.mem_of_getElem? hx)
          have hp := hs.sublist (List.drop_sublist i l)
          rw [e] at hp ⊢
          intro y hy
          rw [List.mem_cons] at hy
          rcases hy with rfl | hy
          · omega
          · have := (List.pairwise_cons.1 hp).1 y hy; omega
        have hdne : l.drop i ≠ [] := by simp; omega
        by_cases ht : l.take i = []
        · repeat' (first | simp only [go_sem, Int.reduceLT, Int.reduceLE, Int.reduceNeg, Int.reduceEq, Nat.reduceAdd, Nat.reduceEqDiff, Nat.reduceLeDiff, Nat.reduceBEq, reduceIte, reduceCtorEq, h0, h1, h5, hx, hdl, show decide (x < n) = false by simpa using hxn, bldS_nil, bldS_one one1_s, ssl_takeL, ssl_drop, hi, ht, app_ow_e, esK, app_ow_one (b := 8) (l := []) (hv := one1_s) (hb := by simp), app_ow_L (k := [.s (.int .i64 n)]) (l := l.drop i) (hl := hdne) (hb := by simp; omega)] | (with_reducible first | apply c1 | (first | apply c2 | apply c3) <;> (intro hc; simp only [hc]) | (first | apply c4 | apply c5) <;> (intro hc; rw [hc])))
          · rfl
          · (simp [nqs, quietL, nqP, nqA, clash, meets]) <;> ((repeat' apply And.intro) <;> first | rfl | omega | (right; (repeat' apply And.intro) <;> omega) | (left; rfl))
          · exact fin (k := n :: l.drop i) (by rw [ht]; rfl) hd
        · repeat' (first | simp only [go_sem, Int.reduceLT, Int.reduceLE, Int.reduceNeg, Int.reduceEq, Nat.reduceAdd, Nat.reduceEqDiff, Nat.reduceLeDiff, Nat.reduceBEq, reduceIte, reduceCtorEq, h0, h1, h5, hx, hdl, show decide (x < n) = false by simpa using hxn, bldS_nil, bldS_one one1_s, ssl_takeL, ssl_drop, hi, esK, app_ow_L (k := []) (l := l.take i) (hl := ht) (hb := by simp; omega), app_ow_one (b := 8) (l := (l.take i).map I) (hv := one1_s) (hb := by simp; omega), app_ow_L (k := (l.take i).map I ++ [.s (.int .i64 n)]) (l := l.drop i) (hl := hdne) (hb := by simp; omega)] | (with_reducible first | apply c1 | (first | apply c2 | apply c3) <;> (intro hc; simp only [hc]) | (first | apply c4 | apply c5) <;> (intro hc; rw [hc])))
          · rfl
          · (simp [nqs, quietL, nqP, nqA, clash, meets]) <;> ((repeat' apply And.intro) <;> first | rfl | omega | (right; (repeat' apply And.intro) <;> omega) | (left; rfl))
          · have := fin (k := l.take i ++ [n] ++ l.drop i) rfl hd
            rw [List.map_append, List.map_append] at this
            exact this
    · have hd : l.drop i = [] := by simp; omega
      have hd' : ∀ y ∈ l.drop i, n < y := by rw [hd]; simp
      have hdl : decide ((i : Int) < (l.length : Int)) = false := by simpa using hge
      by_cases ht : l.take i = []
      · repeat' (first | simp only [go_sem, Int.reduceLT, Int.reduceLE, Int.reduceNeg, Int.reduceEq, Nat.reduceAdd, Nat.reduceEqDiff, Nat.reduceLeDiff, Nat.reduceBEq, reduceIte, reduceCtorEq, h0, h1, h5, hdl, bldS_nil, bldS_one one1_s, ssl_takeL, ssl_drop, hi, ht, hd, app_ow_e, esK, app_ow_one (b := 8) (l := []) (hv := one1_s) (hb := by simp)] | (with_reducible first | apply c1 | (first | apply c2 | apply c3) <;> (intro hc; simp only [hc]) | (first | apply c4 | apply c5) <;> (intro hc; rw [hc])))
        · rfl
        · (simp [nqs, quietL, nqP, nqA, clash, meets]) <;> ((repeat' apply And.intro) <;> first | rfl | omega | (right; (repeat' apply And.intro) <;> omega) | (left; rfl))
        · exact fin (k := [n]) (by rw [ht, hd]; rfl) hd'
      · repeat' (first | simp only [go_sem, Int.reduceLT, Int.reduceLE, Int.reduceNeg, Int.reduceEq, Nat.reduceAdd, Nat.reduceEqDiff, Nat.reduceLeDiff, Nat.reduceBEq, reduceIte, reduceCtorEq, h0, h1, h5, hdl, bldS_nil, bldS_one one1_s, ssl_takeL, ssl_drop, hi, hd, app_ow_e, esK, app_ow_L (k := []) (l := l.take i) (hl := ht) (hb := by simp; omega), app_ow_one (b := 8) (l := (l.take i).map I) (hv := one1_s) (hb := by simp; omega)] | (with_reducible first | apply c1 | (first | apply c2 | apply c3) <;> (intro hc; simp only [hc]) | (first | apply c4 | apply c5) <;> (intro hc; rw [hc])))
        · rfl
        · (simp [nqs, quietL, nqP, nqA, clash, meets]) <;> ((repeat' apply And.intro) <;> first | rfl | omega | (right; (repeat' apply And.intro) <;> omega) | (left; rfl))
        · have := fin (k := l.take i ++ [n]) (by rw [hd]; simp) hd'
          rw [List.map_append] at this
          exact this
theorem snap_L {h : PT AObj} {d : DV} : True := trivial
def allP (x : VLoad) (k : List Int) : Prop := k.Pairwise (· < ·) ∧ ∀ y, y ∈ k ↔ y ∈ x.classes.flatten
theorem all_unique {a b : List Int} (ha : a.Pairwise (· < ·)) (hb : b.Pairwise (· < ·)) (h : ∀ y, y ∈ a ↔ y ∈ b) : a = b := by
  induction a generalizing b with
  | nil =>
    cases b with
    | nil => rfl
    | cons y b => have := (h y).2 (by simp); simp at this
  | cons x a ih =>
    cases b with
    | nil => have := (h x).1 (by simp); simp at this
    | cons y b =>
      rw [List.pairwise_cons] at ha hb
      have hxy : x = y := by
        have h1 := (h x).1 (by simp)
        have h2 := (h y).2 (by simp)
        rw [List.mem_cons] at h1 h2
        rcases h1 with h1 | h1
        · exact h1
        · rcases h2 with h2 | h2
          · exact h2.symm
          · have := ha.1 y h2; have := hb.1 x h1; omega
      subst hxy
      congr 1
      refine ih ha.2 hb.2 (fun z => ?_)
      have := h z
      simp only [List.mem_cons] at this
      constructor
      · intro hz
        rcases this.1 (.inr hz) with e | e
        · have := ha.1 z hz; omega
        · exact e
      · intro hz
        rcases this.2 (.inr hz) with e | e
        · have := hb.1 z hz; omega
        · exact e
theorem rall_res (x : VLoad) (hx : x.classes.length ≤ 8 ∧ ∀ r ∈ x.classes, r.length ≤ 8) : ∃ q, res Tryz.prog G0 34 [x.P] = some q ∧ ∃ k : List Int, q = L k ∧ allP x k ∧ k.length ≤ 64 := by
  obtain ⟨x1, x2⟩ := hx
  refine res_ex c_ref42_All (Nat.le_of_ble_eq_true rfl) ?_
  simp only [m_ref42_All, Oo, Ou, Og, Ci, Om, Of, Ol, Ok]
  repeat' (first | simp only [go_sem, Int.reduceLT, Int.reduceLE, Int.reduceNeg, Int.reduceEq, Nat.reduceAdd, Nat.reduceEqDiff, Nat.reduceLeDiff, Nat.reduceBEq, reduceIte, reduceCtorEq] | (with_reducible first | apply c1 | (first | apply c2 | apply c3) <;> (intro hc; simp only [hc]) | (first | apply c4 | apply c5) <;> (intro hc; rw [hc])))
  refine X_for 4 x.classes.length (fun i s => s.h.get 0 = some (.cells (DV.cells (.p x.P)) false) ∧ ∃ (d : DV) (k : List Int), s.t.get 3 = some d ∧ (∀ h, snap h d = some (L k, [])) ∧ k.Pairwise (· < ·) ∧ (∀ y, y ∈ k ↔ y ∈ (x.classes.take i).flatten) ∧ k.length ≤ 8 * i) 0 (by omega) ?_ (Nat.zero_le _) ?_ ?_
  · simp only [go_sem, Int.reduceLT, Int.reduceLE, Int.reduceNeg, Int.reduceEq, Nat.reduceAdd, Nat.reduceEqDiff, Nat.reduceLeDiff, Nat.reduceBEq, reduceIte, reduceCtorEq]; rfl
  · exact ⟨by simp only [go_sem, Int.reduceLT, Int.reduceLE, Int.reduceNeg, Int.reduceEq, Nat.reduceAdd, Nat.reduceEqDiff, Nat.reduceLeDiff, Nat.reduceBEq, reduceIte, reduceCtorEq], .nil, [], by simp only [go_sem, Int.reduceLT, Int.reduceLE, Int.reduceNeg, Int.reduceEq, Nat.reduceAdd, Nat.reduceEqDiff, Nat.reduceLeDiff, Nat.reduceBEq, reduceIte, reduceCtorEq], fun h => rfl, by simp, by simp, by simp⟩
  intro i t h nx hf hi0 hi h4 hj
  obtain ⟨hh, d, k, h3, hsn, hk1, hk2, hk3⟩ := hj
  dsimp only at hh h3
  have h1 := hf 1 rfl; simp only [PT.get_set, Nat.reduceEqDiff, if_true, if_false, reduceIte, PT.get_leaf] at h1
  clear hf
  rcases Nat.lt_or_ge i x.classes.length with hlt | hge
  · obtain ⟨r, hr, _, htk⟩ := get_dec (l := x.classes) (i := i) (by simpa using hlt)
    have hrl := x2 r (List.mem_of_getElem? hr)
    have hdl : decide ((i : Int) < (x.classes.length : Int)) = true := by simpa using hlt
    repeat' (first | simp only [go_sem, Int.reduceLT, Int.reduceLE, Int.reduceNeg, Int.reduceEq, Nat.reduceAdd, Nat.reduceEqDiff, Nat.reduceLeDiff, Nat.reduceBEq, reduceIte, reduceCtorEq, h1, h3, h4, hh, hdl] | (with_reducible first | apply c1 | (first | apply c2 | apply c3) <;> (intro hc; simp only [hc]) | (first | apply c4 | apply c5) <;> (intro hc; rw [hc])))
    refine X_for 5 r.length (fun j s => s.h.get 0 = some (.cells (DV.cells (.p x.P)) false) ∧ ∃ (d : DV) (k : List Int), s.t.get 3 = some d ∧ (∀ h, snap h d = some (L k, [])) ∧ k.Pairwise (· < ·) ∧ (∀ y, y ∈ k ↔ y ∈ (x.classes.take i).flatten ∨ y ∈ r.take j) ∧ k.length ≤ 8 * i + j) 0 (by omega) ?_ (Nat.zero_le _) ?_ ?_
    · simp only [go_sem, Int.reduceLT, Int.reduceLE, Int.reduceNeg, Int.reduceEq, Nat.reduceAdd, Nat.reduceEqDiff, Nat.reduceLeDiff, Nat.reduceBEq, reduceIte, reduceCtorEq]; rfl
    · exact ⟨by simp only [go_sem, Int.reduceLT, Int.reduceLE, Int.reduceNeg, Int.reduceEq, Nat.reduceAdd, Nat.reduceEqDiff, Nat.reduceLeDiff, Nat.reduceBEq, reduceIte, reduceCtorEq, hh], d, k, by simp only [go_sem, Int.reduceLT, Int.reduceLE, Int.reduceNeg, Int.reduceEq, Nat.reduceAdd, Nat.reduceEqDiff, Nat.reduceLeDiff, Nat.reduceBEq, reduceIte, reduceCtorEq, h3], hsn, hk1, by simpa using hk2, by omega⟩
    intro j t' h' nx' hf hj0 hj h5 hj2
    obtain ⟨hh', d', k', h3', hsn', hp1, hp2, hp3⟩ := hj2
    dsimp only at hh' h3'
    have f1 := hf 1 rfl; have f4 := hf 4 rfl
    simp only [PT.get_set, Nat.reduceEqDiff, if_true, if_false, reduceIte, h1, h4] at f1 f4
    clear hf
    rcases Nat.lt_or_ge j r.length with hlt2 | hge2
    · obtain ⟨y, hy, _, hty⟩ := get_dec (l := r) (i := j) (by simpa using hlt2)
      have hdl2 : decide ((j : Int) < (r.length : Int)) = true := by simpa using hlt2
      obtain ⟨q, hq, k2, rfl, e1, e2, e3⟩ := insert_res k' (by omega) y hp1
      repeat' (first | simp only [go_sem, Int.reduceLT, Int.reduceLE, Int.reduceNeg, Int.reduceEq, Nat.reduceAdd, Nat.reduceEqDiff, Nat.reduceLeDiff, Nat.reduceBEq, reduceIte, reduceCtorEq, f1, f4, h5, h3', hh', hr, hy, hdl2, hsn', q_ref14_Insert, hq] | (with_reducible first | apply c1 | (first | apply c2 | apply c3) <;> (intro hc; simp only [hc]) | (first | apply c4 | apply c5) <;> (intro hc; rw [hc])))
      refine ⟨hlt2, .p (L k2), k2, rfl, fun h => rfl, e1, fun z => ?_, by omega⟩
      rw [e2, hp2, hty, List.mem_append, List.mem_singleton]
      constructor
      · rintro (h | h | h)
        · exact .inr (.inr h)
        · exact .inl h
        · exact .inr (.inl h)
      · rintro (h | h | h)
        · exact .inr (.inl h)
        · exact .inr (.inr h)
        · exact .inl h
    · repeat' (first | simp only [go_sem, Int.reduceLT, Int.reduceLE, Int.reduceNeg, Int.reduceEq, Nat.reduceAdd, Nat.reduceEqDiff, Nat.reduceLeDiff, Nat.reduceBEq, reduceIte, reduceCtorEq, f1, f4, h5, h3', hh', hr, show decide ((j : Int) < (r.length : Int)) = false by simpa using hge2] | (with_reducible first | apply c1 | (first | apply c2 | apply c3) <;> (intro hc; simp only [hc]) | (first | apply c4 | apply c5) <;> (intro hc; rw [hc])))
      refine ⟨hlt, d', k', rfl, hsn', hp1, fun z => ?_, by omega⟩
      rw [hp2, htk, List.flatten_append, List.mem_append, List.take_of_length_le hge2]
      simp
  · have he : x.classes.take i = x.classes := List.take_of_length_le hge
    rw [he] at hk2
    repeat' (first | simp only [go_sem, Int.reduceLT, Int.reduceLE, Int.reduceNeg, Int.reduceEq, Nat.reduceAdd, Nat.reduceEqDiff, Nat.reduceLeDiff, Nat.reduceBEq, reduceIte, reduceCtorEq, h1, h3, h4, hh, show decide ((i : Int) < (x.classes.length : Int)) = false by simpa using hge] | (with_reducible first | apply c1 | (first | apply c2 | apply c3) <;> (intro hc; simp only [hc]) | (first | apply c4 | apply c5) <;> (intro hc; rw [hc])))
    exact ⟨L k, by rw [hsn]; rfl, k, rfl, ⟨hk1, hk2⟩, by omega⟩
end Go.Proofs.YtddmnddocbmjnaaGreat.Dv
namespace Go.Proofs.YtddmnddocbmjnaaGreat.Dv
theorem spot_when {k : VClass} {s : VSeat} (h : s.time < 0) : (spotV k s).when.weeks.val = 0 := by
  unfold spotV
  split
  · simp [show ¬ 0 ≤ s.time by omega]
  · rfl
theorem clashB_in {p : VProblem} {l : List VSeat} (hpl : planB p l = true) {i j : Nat} {k k' : VClass} {s s' : VSeat} (hk : p.classes[i]? = some k) (hs : l[i]? = some s) (hk' : p.classes[j]? = some k') (hs' : l[j]? = some s') :
    clashB p l i j = (decide ((i : Int) ≠ (j : Int)) && neverB p.grid (spotV k s) (spotV k' s') (walkN p.walk (spotV k s).room (spotV k' s').room)) := by
  have hi : i < l.length := (List.getElem?_eq_some_iff.1 hs).1
  have hj : j < l.length := (List.getElem?_eq_some_iff.1 hs').1
  have e1 : l[i] = s := (List.getElem?_eq_some_iff.1 hs).2
  have e2 : l[j] = s' := (List.getElem?_eq_some_iff.1 hs').2
  simp [clashB, pspotB, pspotV, hpl, hi, hj, hk, hk', e1, e2]
theorem rclash_res (p : VProblem) (l : List VSeat) (hpl : planB p l = true) (i j : Nat) (hi : i < l.length) (hj : j < l.length) : res Tryz.prog G0 64 [p.P, .lst (l.map VSeat.P), I (i : Int), I (j : Int)] = some (B (clashB p l i j)) := by
  have hpl' := hpl
  simp only [planB, Bool.and_eq_true, decide_eq_true_eq] at hpl'
  obtain ⟨s, hs, _, _⟩ := get_dec (l := l) (i := i) (by simpa using hi)
  obtain ⟨k, hk, _, _⟩ := get_dec (l := p.classes) (i := i) (by simp; omega)
  obtain ⟨s', hs', _, _⟩ := get_dec (l := l) (i := j) (by simpa using hj)
  obtain ⟨k', hk', _, _⟩ := get_dec (l := p.classes) (i := j) (by simp; omega)
  rw [clashB_in hpl hk hs hk' hs']
  refine res_body c_ref42_clash (Nat.le_of_ble_eq_true rfl) ?_
  simp only [m_ref42_clash, Oo, Ou, Og, Ci, Om, Of, Ol, Ok]
  by_cases hij : (i : Int) = (j : Int)
  case pos =>
    repeat' (first | simp only [go_sem, Int.reduceLT, Int.reduceLE, Int.reduceNeg, Int.reduceEq, Nat.reduceAdd, Nat.reduceEqDiff, Nat.reduceLeDiff, Nat.reduceBEq, reduceIte, reduceCtorEq, hs, hs', show decide ((i : Int) = (j : Int)) = true by simpa using hij] | (with_reducible first | apply c1 | (first | apply c2 | apply c3) <;> (intro hc; simp only [hc]) | (first | apply c4 | apply c5) <;> (intro hc; rw [hc])))
    simp [hij]
  have dij : decide ((i : Int) = (j : Int)) = false := by simpa using hij
  by_cases ht : s.time < 0
  case pos =>
    repeat' (first | simp only [go_sem, Int.reduceLT, Int.reduceLE, Int.reduceNeg, Int.reduceEq, Nat.reduceAdd, Nat.reduceEqDiff, Nat.reduceLeDiff, Nat.reduceBEq, reduceIte, reduceCtorEq, hs, hs', dij, show decide (s.time < 0) = true by simpa using ht] | (with_reducible first | apply c1 | (first | apply c2 | apply c3) <;> (intro hc; simp only [hc]) | (first | apply c4 | apply c5) <;> (intro hc; rw [hc])))
    simp [neverB, spot_when ht]
  by_cases ht' : s'.time < 0
  case pos =>
    repeat' (first | simp only [go_sem, Int.reduceLT, Int.reduceLE, Int.reduceNeg, Int.reduceEq, Nat.reduceAdd, Nat.reduceEqDiff, Nat.reduceLeDiff, Nat.reduceBEq, reduceIte, reduceCtorEq, hs, hs', dij, show decide (s.time < 0) = false by simpa using ht, show decide (s'.time < 0) = true by simpa using ht'] | (with_reducible first | apply c1 | (first | apply c2 | apply c3) <;> (intro hc; simp only [hc]) | (first | apply c4 | apply c5) <;> (intro hc; rw [hc])))
    simp [neverB, spot_when ht']
  repeat' (first | simp only [go_sem, Int.reduceLT, Int.reduceLE, Int.reduceNeg, Int.reduceEq, Nat.reduceAdd, Nat.reduceEqDiff, Nat.reduceLeDiff, Nat.reduceBEq, reduceIte, reduceCtorEq, hs, hs', dij, show decide (s.time < 0) = false by simpa using ht, show decide (s'.time < 0) = false by simpa using ht', q_ref20_Spot, rpspot_res p l i k s hk hs, rpspot_res p l j k' s' hk' hs', q_ref20_Walk, rwalk20_res, q_ref15_Never, rnever_res] | (with_reducible first | apply c1 | (first | apply c2 | apply c3) <;> (intro hc; simp only [hc]) | (first | apply c4 | apply c5) <;> (intro hc; rw [hc])))
  all_goals first
    | rfl
    | (simp [hij]; done)
theorem rClash_res (p : VProblem) (hp : smP p) (l : List VSeat) (hl : l.length ≤ 1048576) (a b : Int) : res Tryz.prog G0 35 [p.P, .lst (l.map VSeat.P), I a, I b] = some (B (clashB p l a b)) := by
  refine res_body c_ref42_Clash (Nat.le_of_ble_eq_true rfl) ?_
  simp only [m_ref42_Clash, Oo, Ou, Og, Ci, Om, Of, Ol, Ok]
  cases hpl : planB p l with
  | false =>
    repeat' (first | simp only [go_sem, Int.reduceLT, Int.reduceLE, Int.reduceNeg, Int.reduceEq, Nat.reduceAdd, Nat.reduceEqDiff, Nat.reduceLeDiff, Nat.reduceBEq, reduceIte, reduceCtorEq, q_ref19_Right, rplan_res p hp l hl, hpl] | (with_reducible first | apply c1 | (first | apply c2 | apply c3) <;> (intro hc; simp only [hc]) | (first | apply c4 | apply c5) <;> (intro hc; rw [hc])))
    simp [clashB, pspotB, hpl]
  | true =>
    by_cases ha : a < 0
    case pos =>
      repeat' (first | simp only [go_sem, Int.reduceLT, Int.reduceLE, Int.reduceNeg, Int.reduceEq, Nat.reduceAdd, Nat.reduceEqDiff, Nat.reduceLeDiff, Nat.reduceBEq, reduceIte, reduceCtorEq, q_ref19_Right, rplan_res p hp l hl, hpl, show decide (a < 0) = true by simpa using ha] | (with_reducible first | apply c1 | (first | apply c2 | apply c3) <;> (intro hc; simp only [hc]) | (first | apply c4 | apply c5) <;> (intro hc; rw [hc])))
      simp [clashB, pspotB, show ¬ 0 ≤ a by omega]
    by_cases hb : b < 0
    case pos =>
      repeat' (first | simp only [go_sem, Int.reduceLT, Int.reduceLE, Int.reduceNeg, Int.reduceEq, Nat.reduceAdd, Nat.reduceEqDiff, Nat.reduceLeDiff, Nat.reduceBEq, reduceIte, reduceCtorEq, q_ref19_Right, rplan_res p hp l hl, hpl, show decide (a < 0) = false by simpa using ha, show decide (b < 0) = true by simpa using hb] | (with_reducible first | apply c1 | (first | apply c2 | apply c3) <;> (intro hc; simp only [hc]) | (first | apply c4 | apply c5) <;> (intro hc; rw [hc])))
      simp [clashB, pspotB, show ¬ 0 ≤ b by omega]
    by_cases ha2 : (l.length : Int) ≤ a
    case pos =>
      repeat' (first | simp only [go_sem, Int.reduceLT, Int.reduceLE, Int.reduceNeg, Int.reduceEq, Nat.reduceAdd, Nat.reduceEqDiff, Nat.reduceLeDiff, Nat.reduceBEq, reduceIte, reduceCtorEq, q_ref19_Right, rplan_res p hp l hl, hpl, show decide (a < 0) = false by simpa using ha, show decide (b < 0) = false by simpa using hb, show decide ((l.length : Int) ≤ a) = true by simpa using ha2] | (with_reducible first | apply c1 | (first | apply c2 | apply c3) <;> (intro hc; simp only [hc]) | (first | apply c4 | apply c5) <;> (intro hc; rw [hc])))
      simp [clashB, pspotB, show ¬ a < l.length by omega]
    by_cases hb2 : (l.length : Int) ≤ b
    case pos =>
      repeat' (first | simp only [go_sem, Int.reduceLT, Int.reduceLE, Int.reduceNeg, Int.reduceEq, Nat.reduceAdd, Nat.reduceEqDiff, Nat.reduceLeDiff, Nat.reduceBEq, reduceIte, reduceCtorEq, q_ref19_Right, rplan_res p hp l hl, hpl, show decide (a < 0) = false by simpa using ha, show decide (b < 0) = false by simpa using hb, show decide ((l.length : Int) ≤ a) = false by simpa using ha2, show decide ((l.length : Int) ≤ b) = true by simpa using hb2] | (with_reducible first | apply c1 | (first | apply c2 | apply c3) <;> (intro hc; simp only [hc]) | (first | apply c4 | apply c5) <;> (intro hc; rw [hc])))
      simp [clashB, pspotB, show ¬ b < l.length by omega]
    obtain ⟨i, rfl⟩ := Int.eq_ofNat_of_zero_le (show 0 ≤ a by omega)
    obtain ⟨j, rfl⟩ := Int.eq_ofNat_of_zero_le (show 0 ≤ b by omega)
    repeat' (first | simp only [go_sem, Int.reduceLT, Int.reduceLE, Int.reduceNeg, Int.reduceEq, Nat.reduceAdd, Nat.reduceEqDiff, Nat.reduceLeDiff, Nat.reduceBEq, reduceIte, reduceCtorEq, q_ref19_Right, rplan_res p hp l hl, hpl, show decide ((l.length : Int) ≤ (i : Int)) = false by (simp only [decide_eq_false_iff_not]; omega), show decide ((l.length : Int) ≤ (j : Int)) = false by (simp only [decide_eq_false_iff_not]; omega), q_ref42_clash, rclash_res p l hpl i j (by omega) (by omega)] | (with_reducible first | apply c1 | (first | apply c2 | apply c3) <;> (intro hc; simp only [hc]) | (first | apply c4 | apply c5) <;> (intro hc; rw [hc])))
end Go.Proofs.YtddmnddocbmjnaaGreat.Dv
