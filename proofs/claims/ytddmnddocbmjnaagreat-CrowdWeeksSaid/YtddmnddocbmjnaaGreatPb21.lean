/- Part 21 of the proof: CrowdWeeks: whatever plain data comes in, the call returns true and leaves its arguments as they were. No condition. -/
import Derived.Test.YtddmnddocbmjnaaGreatPb20
import Derived.KernelRfl
import Derived.Test.YtddmnddocbmjnaaGreatChecked
set_option linter.all false
set_option linter.unusedVariables false
set_option linter.unusedSectionVars false
set_option linter.unusedSimpArgs false
namespace Go.Proofs.YtddmnddocbmjnaaGreat.Dv
def m_ref17_Few : MF := ⟨237, (.seq (.reg none [Oo 1 (.box (.t 0)), Oo 2 (.mov (.d (.p (.s (.bool false)))))]) (.seq (.seq (.reg none [Of 13 4 1, Ol 14 13, Ok 15 14, Oo 16 (.iop .gtr (.t 15) (.d (Ci 30))), Om 17 16, Og 18 17 false (.fadr 5 (.t 1)), Og 19 17 false (.load false 1 (.t 18)), Og 20 17 false (.lenL (.t 19)), Og 21 17 false (.iop .gtr (.t 20) (.d (Ci 40))), Oo 22 (.pick (.t 17) (.d (.p (.s (.bool true)))) (.t 21)), Om 23 22, Og 24 23 false (.fadr 6 (.t 1)), Og 25 23 false (.load false 1 (.t 24)), Og 26 23 false (.lenL (.t 25)), Og 27 23 false (.iop .gtr (.t 26) (.d (Ci 30))), Oo 28 (.pick (.t 23) (.d (.p (.s (.bool true)))) (.t 27)), Om 29 28, Og 30 29 false (.fadr 7 (.t 1)), Og 31 29 false (.load false 1 (.t 30)), Og 32 29 false (.lenL (.t 31)), Og 33 29 false (.iop .gtr (.t 32) (.d (Ci 50))), Oo 34 (.pick (.t 29) (.d (.p (.s (.bool true)))) (.t 33)), Om 35 34, Og 36 35 false (.fadr 8 (.t 1)), Og 37 35 false (.load false 1 (.t 36)), Og 38 35 false (.lenL (.t 37)), Og 39 35 false (.iop .gtr (.t 38) (.d (Ci 20))), Oo 40 (.pick (.t 35) (.d (.p (.s (.bool true)))) (.t 39)), Om 41 40, Og 42 41 false (.fadr 9 (.t 1)), Og 43 41 false (.load false 1 (.t 42)), Og 44 41 false (.lenL (.t 43)), Og 45 41 false (.iop .gtr (.t 44) (.d (Ci 210))), Oo 46 (.pick (.t 41) (.d (.p (.s (.bool true)))) (.t 45)), Om 47 46, Og 48 47 false (.fadr 10 (.t 1)), Og 49 47 false (.load false 1 (.t 48)), Og 50 47 false (.lenL (.t 49)), Og 51 47 false (.iop .gtr (.t 50) (.d (Ci 70))), Oo 52 (.pick (.t 47) (.d (.p (.s (.bool true)))) (.t 51))]) (.cond (.t 52) (.seq (.reg none [Oo 2 (.mov (.d (.p (.s (.bool false)))))]) .ret) .skip)) (.seq (.reg none [Oo 3 (.mov (.d (Ci 0)))]) (.seq (.seq (.reg none [Oo 4 (.mov (.d (Ci 0)))]) (.block 0 (.loop (.seq (.seq (.reg none [Om 53 4, Of 54 4 1, Ol 55 54, Ok 56 55, Oo 57 (.iop .lss (.t 53) (.t 56))]) (.cond (.t 57) .skip (.exit 0))) (.seq (.block 1 (.reg none [Om 60 3, Of 61 4 1, Ol 62 61, Om 63 4, Oo 64 (.iadrS 4 (.t 62) (.t 63)), Of 65 3 64, Ol 66 65, Ok 67 66, Oo 68 (.iop .add (.t 60) (.t 67)), Om 3 68])) (.reg none [Om 58 4, Oo 59 (.iop .add (.t 58) (.d (Ci 1))), Om 4 59])))))) (.seq (.seq (.reg none [Oo 5 (.mov (.d (Ci 0)))]) (.block 2 (.loop (.seq (.seq (.reg none [Om 69 5, Of 70 5 1, Ol 71 70, Ok 72 71, Oo 73 (.iop .lss (.t 69) (.t 72))]) (.cond (.t 73) .skip (.exit 2))) (.seq (.block 3 (.reg none [Om 76 3, Of 77 5 1, Ol 78 77, Om 79 5, Oo 80 (.iadrS 1 (.t 78) (.t 79)), Ol 81 80, Ok 82 81, Oo 83 (.iop .add (.t 76) (.t 82)), Om 3 83])) (.reg none [Om 74 5, Oo 75 (.iop .add (.t 74) (.d (Ci 1))), Om 5 75])))))) (.seq (.seq (.reg none [Oo 6 (.mov (.d (Ci 0)))]) (.block 4 (.loop (.seq (.seq (.reg none [Om 84 6, Of 85 6 1, Ol 86 85, Ok 87 86, Oo 88 (.iop .lss (.t 84) (.t 87))]) (.cond (.t 88) .skip (.exit 4))) (.seq (.block 5 (.reg none [Om 91 3, Of 92 6 1, Ol 93 92, Om 94 6, Oo 95 (.iadrS 2 (.t 93) (.t 94)), Of 96 1 95, Ol 97 96, Ok 98 97, Oo 99 (.iop .add (.t 91) (.t 98)), Om 3 99])) (.reg none [Om 89 6, Oo 90 (.iop .add (.t 89) (.d (Ci 1))), Om 6 90])))))) (.seq (.seq (.reg none [Oo 7 (.mov (.d (Ci 0)))]) (.block 6 (.loop (.seq (.seq (.reg none [Om 100 7, Of 101 7 1, Ol 102 101, Ok 103 102, Oo 104 (.iop .lss (.t 100) (.t 103))]) (.cond (.t 104) .skip (.exit 6))) (.seq (.block 7 (.reg (some #[0, 0, 2, 0, 14, 30, 62, 126, 255, 0, 512, 0, 3584, 7680, 15872, 32256, 65535, 0, 131072, 0, 917504, 1966080, 4063232, 8257536, 16777215, 33554431]) [Om 107 3, Of 108 7 1, Ol 109 108, Om 110 7, Oo 111 (.iadrS 7 (.t 109) (.t 110)), Of 112 3 111, Ol 113 112, Ok 114 113, Oo 115 (.iop .add (.t 107) (.t 114)), Of 116 7 1, Ol 117 116, Om 118 7, Oo 119 (.iadrS 7 (.t 117) (.t 118)), Of 120 4 119, Ol 121 120, Ok 122 121, Oo 123 (.iop .add (.t 115) (.t 122)), Of 124 7 1, Ol 125 124, Om 126 7, Oo 127 (.iadrS 7 (.t 125) (.t 126)), Of 128 5 127, Ol 129 128, Ok 130 129, Oo 131 (.iop .add (.t 123) (.t 130)), Om 3 131])) (.reg none [Om 105 7, Oo 106 (.iop .add (.t 105) (.d (Ci 1))), Om 7 106])))))) (.seq (.seq (.reg none [Oo 8 (.mov (.d (Ci 0)))]) (.block 8 (.loop (.seq (.seq (.reg none [Om 132 8, Of 133 9 1, Ol 134 133, Ok 135 134, Oo 136 (.iop .lss (.t 132) (.t 135))]) (.cond (.t 136) .skip (.exit 8))) (.seq (.block 9 (.reg none [Om 139 3, Of 140 9 1, Ol 141 140, Om 142 8, Oo 143 (.iadrS 2 (.t 141) (.t 142)), Of 144 1 143, Ol 145 144, Ok 146 145, Oo 147 (.iop .add (.t 139) (.t 146)), Om 3 147])) (.reg none [Om 137 8, Oo 138 (.iop .add (.t 137) (.d (Ci 1))), Om 8 138])))))) (.seq (.seq (.reg none [Oo 9 (.mov (.d (Ci 0)))]) (.block 10 (.loop (.seq (.seq (.reg none [Om 148 9, Of 149 10 1, Ol 150 149, Ok 151 150, Oo 152 (.iop .lss (.t 148) (.t 151))]) (.cond (.t 152) .skip (.exit 10))) (.seq (.block 11 (.reg none [Om 155 3, Of 156 10 1, Ol 157 156, Om 158 9, Oo 159 (.iadrS 6 (.t 157) (.t 158)), Of 160 1 159, Ol 161 160, Ok 162 161, Oo 163 (.iop .add (.t 155) (.t 162)), Om 3 163])) (.reg none [Om 153 9, Oo 154 (.iop .add (.t 153) (.d (Ci 1))), Om 9 154])))))) (.seq (.seq (.reg none [Oo 10 (.mov (.d (Ci 0)))]) (.block 12 (.loop (.seq (.seq (.reg none [Om 164 10, Of 165 8 1, Ol 166 165, Ok 167 166, Oo 168 (.iop .lss (.t 164) (.t 167))]) (.cond (.t 168) .skip (.exit 12))) (.seq (.block 13 (.seq (.reg none [Om 171 3, Of 172 8 1, Ol 173 172, Om 174 10, Oo 175 (.iadrS 2 (.t 173) (.t 174)), Of 176 1 175, Ol 177 176, Ok 178 177, Oo 179 (.iop .add (.t 171) (.t 178)), Om 3 179]) (.seq (.reg none [Oo 11 (.mov (.d (Ci 0)))]) (.block 14 (.loop (.seq (.seq (.reg none [Om 180 11, Of 181 8 1, Ol 182 181, Om 183 10, Oo 184 (.iadrS 2 (.t 182) (.t 183)), Of 185 1 184, Ol 186 185, Ok 187 186, Oo 188 (.iop .lss (.t 180) (.t 187))]) (.cond (.t 188) .skip (.exit 14))) (.seq (.block 15 (.seq (.reg none [Om 191 3, Of 192 8 1, Ol 193 192, Om 194 10, Oo 195 (.iadrS 2 (.t 193) (.t 194)), Of 196 1 195, Ol 197 196, Om 198 11, Oo 199 (.iadrS 1 (.t 197) (.t 198)), Of 200 0 199, Ol 201 200, Ok 202 201, Oo 203 (.iop .add (.t 191) (.t 202)), Om 3 203]) (.seq (.reg none [Oo 12 (.mov (.d (Ci 0)))]) (.block 16 (.loop (.seq (.seq (.reg none [Om 204 12, Of 205 8 1, Ol 206 205, Om 207 10, Oo 208 (.iadrS 2 (.t 206) (.t 207)), Of 209 1 208, Ol 210 209, Om 211 11, Oo 212 (.iadrS 1 (.t 210) (.t 211)), Of 213 0 212, Ol 214 213, Ok 215 214, Oo 216 (.iop .lss (.t 204) (.t 215))]) (.cond (.t 216) .skip (.exit 16))) (.seq (.block 17 (.reg none [Om 219 3, Of 220 8 1, Ol 221 220, Om 222 10, Oo 223 (.iadrS 2 (.t 221) (.t 222)), Of 224 1 223, Ol 225 224, Om 226 11, Oo 227 (.iadrS 1 (.t 225) (.t 226)), Of 228 0 227, Ol 229 228, Om 230 12, Oo 231 (.iadrS 1 (.t 229) (.t 230)), Ol 232 231, Ok 233 232, Oo 234 (.iop .add (.t 219) (.t 233)), Om 3 234])) (.reg none [Om 217 12, Oo 218 (.iop .add (.t 217) (.d (Ci 1))), Om 12 218])))))))) (.reg none [Om 189 11, Oo 190 (.iop .add (.t 189) (.d (Ci 1))), Om 11 190])))))))) (.reg none [Om 169 10, Oo 170 (.iop .add (.t 169) (.d (Ci 1))), Om 10 170])))))) (.seq (.reg none [Om 235 3, Oo 236 (.iop .leq (.t 235) (.d (Ci 3000))), Om 2 236]) .ret))))))))))), [.tmp 2]⟩
theorem c_ref17_Few : comp Tryz.prog G0 30 = some m_ref17_Few := by kernel_rfl
theorem q_ref17_Few : Q0 30 := mCall_pure rfl
def sumL {α : Type} (f : α → Nat) (l : List α) : Nat := (l.map f).sum
theorem sumL_snoc {α : Type} {f : α → Nat} {l : List α} {x : α} : sumL f (l ++ [x]) = sumL f l + f x := by simp [sumL]
theorem sumL_zero {α : Type} {f : α → Nat} : sumL f [] = 0 := rfl
theorem sumL_mem {α : Type} {f : α → Nat} : ∀ {l : List α} {x : α}, x ∈ l → f x ≤ sumL f l
  | [], x, h => by simp at h
  | a :: l, x, h => by
    simp only [sumL, List.map_cons, List.sum_cons]
    rcases List.mem_cons.1 h with rfl | h
    · omega
    · have := sumL_mem (f := f) h
      simp only [sumL] at this
      omega
theorem sumL_le {α : Type} {f : α → Nat} {b : Nat} : ∀ {l : List α}, (∀ x ∈ l, f x ≤ b) → sumL f l ≤ l.length * b
  | [], _ => by simp [sumL]
  | a :: l, h => by
    have h1 := h a (by simp)
    have h2 := sumL_le (l := l) (fun x hx => h x (by simp [hx]))
    simp only [sumL, List.map_cons, List.sum_cons, List.length_cons, Nat.succ_mul] at h2 ⊢
    omega
theorem wrap_wrap {a b : Int} : IntKind.wrap .i64 (IntKind.wrap .i64 a + b) = IntKind.wrap .i64 (a + b) := by
  unfold IntKind.wrap
  simp [IntKind.bits, IntKind.signed, IntKind.min, IntKind.max]
  omega
theorem wrap_0 : IntKind.wrap .i64 ((0 : Nat) : Int) = 0 := by decide
def wayN (w : VWay) : Nat := w.parts.length + sumL List.length w.parts
def couN (c : VCourse) : Nat := c.ways.length + sumL wayN c.ways
def claN (c : VClass) : Nat := c.persons.length + c.times.length + c.places.length
def fewN (p : VProblem) : Nat := sumL (fun x : VRoom => x.shut.length) p.rooms + sumL List.length p.walk + sumL (fun x : VPerson => x.away.length) p.persons + sumL claN p.classes + sumL (fun x : VStudent => x.courses.length) p.students + sumL (fun x : VRule => x.classes.length) p.rules + sumL couN p.courses
def fewL (p : VProblem) : Prop := p.rooms.length ≤ 30 ∧ p.walk.length ≤ 40 ∧ p.persons.length ≤ 30 ∧ p.classes.length ≤ 50 ∧ p.courses.length ≤ 20 ∧ p.students.length ≤ 210 ∧ p.rules.length ≤ 70
instance (p : VProblem) : Decidable (fewL p) := by unfold fewL; infer_instance
def FewB (p : VProblem) : Bool := decide (fewL p) && decide (IntKind.wrap .i64 (fewN p : Int) ≤ 3000)
set_option maxHeartbeats 1000000 in
theorem Few_res (p : VProblem) (hc : ∀ c ∈ p.courses, c.ways.length ≤ 140737488351232 ∧ ∀ w ∈ c.ways, w.parts.length ≤ 140737488351232) : res Tryz.prog G0 30 [p.P] = some (B (FewB p)) := by
  refine res_body c_ref17_Few (Nat.le_of_ble_eq_true rfl) ?_
  simp only [m_ref17_Few, Oo, Ou, Og, Ci, Om, Of, Ol, Ok]
  by_cases k0 : p.rooms.length ≤ 30
  case neg =>
    repeat' (first | simp only [go_sem, Int.reduceLT, Int.reduceLE, Int.reduceNeg, Int.reduceEq, Nat.reduceAdd, Nat.reduceEqDiff, Nat.reduceLeDiff, Nat.reduceBEq, reduceIte, reduceCtorEq, show decide ((30 : Int) < (p.rooms.length : Int)) = true by (simp only [decide_eq_true_eq]; omega)] | (with_reducible first | apply c1 | (first | apply c2 | apply c3) <;> (intro hc; simp only [hc]) | (first | apply c4 | apply c5) <;> (intro hc; rw [hc])))
    simp [FewB, fewL, k0]
  by_cases k1 : p.walk.length ≤ 40
  case neg =>
    repeat' (first | simp only [go_sem, Int.reduceLT, Int.reduceLE, Int.reduceNeg, Int.reduceEq, Nat.reduceAdd, Nat.reduceEqDiff, Nat.reduceLeDiff, Nat.reduceBEq, reduceIte, reduceCtorEq, show decide ((30 : Int) < (p.rooms.length : Int)) = false by (simp only [decide_eq_false_iff_not]; omega), show decide ((40 : Int) < (p.walk.length : Int)) = true by (simp only [decide_eq_true_eq]; omega)] | (with_reducible first | apply c1 | (first | apply c2 | apply c3) <;> (intro hc; simp only [hc]) | (first | apply c4 | apply c5) <;> (intro hc; rw [hc])))
    simp [FewB, fewL, k1]
  by_cases k2 : p.persons.length ≤ 30
  case neg =>
    repeat' (first | simp only [go_sem, Int.reduceLT, Int.reduceLE, Int.reduceNeg, Int.reduceEq, Nat.reduceAdd, Nat.reduceEqDiff, Nat.reduceLeDiff, Nat.reduceBEq, reduceIte, reduceCtorEq, show decide ((30 : Int) < (p.rooms.length : Int)) = false by (simp only [decide_eq_false_iff_not]; omega), show decide ((40 : Int) < (p.walk.length : Int)) = false by (simp only [decide_eq_false_iff_not]; omega), show decide ((30 : Int) < (p.persons.length : Int)) = true by (simp only [decide_eq_true_eq]; omega)] | (with_reducible first | apply c1 | (first | apply c2 | apply c3) <;> (intro hc; simp only [hc]) | (first | apply c4 | apply c5) <;> (intro hc; rw [hc])))
    simp [FewB, fewL, k2]
  by_cases k3 : p.classes.length ≤ 50
  case neg =>
    repeat' (first | simp only [go_sem, Int.reduceLT, Int.reduceLE, Int.reduceNeg, Int.reduceEq, Nat.reduceAdd, Nat.reduceEqDiff, Nat.reduceLeDiff, Nat.reduceBEq, reduceIte, reduceCtorEq, show decide ((30 : Int) < (p.rooms.length : Int)) = false by (simp only [decide_eq_false_iff_not]; omega), show decide ((40 : Int) < (p.walk.length : Int)) = false by (simp only [decide_eq_false_iff_not]; omega), show decide ((30 : Int) < (p.persons.length : Int)) = false by (simp only [decide_eq_false_iff_not]; omega), show decide ((50 : Int) < (p.classes.length : Int)) = true by (simp only [decide_eq_true_eq]; omega)] | (with_reducible first | apply c1 | (first | apply c2 | apply c3) <;> (intro hc; simp only [hc]) | (first | apply c4 | apply c5) <;> (intro hc; rw [hc])))
    simp [FewB, fewL, k3]
  by_cases k4 : p.courses.length ≤ 20
  case neg =>
    repeat' (first | simp only [go_sem, Int.reduceLT, Int.reduceLE, Int.reduceNeg, Int.reduceEq, Nat.reduceAdd, Nat.reduceEqDiff, Nat.reduceLeDiff, Nat.reduceBEq, reduceIte, reduceCtorEq, show decide ((30 : Int) < (p.rooms.length : Int)) = false by (simp only [decide_eq_false_iff_not]; omega), show decide ((40 : Int) < (p.walk.length : Int)) = false by (simp only [decide_eq_false_iff_not]; omega), show decide ((30 : Int) < (p.persons.length : Int)) = false by (simp only [decide_eq_false_iff_not]; omega), show decide ((50 : Int) < (p.classes.length : Int)) = false by (simp only [decide_eq_false_iff_not]; omega), show decide ((20 : Int) < (p.courses.length : Int)) = true by (simp only [decide_eq_true_eq]; omega)] | (with_reducible first | apply c1 | (first | apply c2 | apply c3) <;> (intro hc; simp only [hc]) | (first | apply c4 | apply c5) <;> (intro hc; rw [hc])))
    simp [FewB, fewL, k4]
  by_cases k5 : p.students.length ≤ 210
  case neg =>
    repeat' (first | simp only [go_sem, Int.reduceLT, Int.reduceLE, Int.reduceNeg, Int.reduceEq, Nat.reduceAdd, Nat.reduceEqDiff, Nat.reduceLeDiff, Nat.reduceBEq, reduceIte, reduceCtorEq, show decide ((30 : Int) < (p.rooms.length : Int)) = false by (simp only [decide_eq_false_iff_not]; omega), show decide ((40 : Int) < (p.walk.length : Int)) = false by (simp only [decide_eq_false_iff_not]; omega), show decide ((30 : Int) < (p.persons.length : Int)) = false by (simp only [decide_eq_false_iff_not]; omega), show decide ((50 : Int) < (p.classes.length : Int)) = false by (simp only [decide_eq_false_iff_not]; omega), show decide ((20 : Int) < (p.courses.length : Int)) = false by (simp only [decide_eq_false_iff_not]; omega), show decide ((210 : Int) < (p.students.length : Int)) = true by (simp only [decide_eq_true_eq]; omega)] | (with_reducible first | apply c1 | (first | apply c2 | apply c3) <;> (intro hc; simp only [hc]) | (first | apply c4 | apply c5) <;> (intro hc; rw [hc])))
    simp [FewB, fewL, k5]
  by_cases k6 : p.rules.length ≤ 70
  case neg =>
    repeat' (first | simp only [go_sem, Int.reduceLT, Int.reduceLE, Int.reduceNeg, Int.reduceEq, Nat.reduceAdd, Nat.reduceEqDiff, Nat.reduceLeDiff, Nat.reduceBEq, reduceIte, reduceCtorEq, show decide ((30 : Int) < (p.rooms.length : Int)) = false by (simp only [decide_eq_false_iff_not]; omega), show decide ((40 : Int) < (p.walk.length : Int)) = false by (simp only [decide_eq_false_iff_not]; omega), show decide ((30 : Int) < (p.persons.length : Int)) = false by (simp only [decide_eq_false_iff_not]; omega), show decide ((50 : Int) < (p.classes.length : Int)) = false by (simp only [decide_eq_false_iff_not]; omega), show decide ((20 : Int) < (p.courses.length : Int)) = false by (simp only [decide_eq_false_iff_not]; omega), show decide ((210 : Int) < (p.students.length : Int)) = false by (simp only [decide_eq_false_iff_not]; omega), show decide ((70 : Int) < (p.rules.length : Int)) = true by (simp only [decide_eq_true_eq]; omega)] | (with_reducible first | apply c1 | (first | apply c2 | apply c3) <;> (intro hc; simp only [hc]) | (first | apply c4 | apply c5) <;> (intro hc; rw [hc])))
    simp [FewB, fewL, k6]
  repeat' (first | simp only [go_sem, Int.reduceLT, Int.reduceLE, Int.reduceNeg, Int.reduceEq, Nat.reduceAdd, Nat.reduceEqDiff, Nat.reduceLeDiff, Nat.reduceBEq, reduceIte, reduceCtorEq, show decide ((30 : Int) < (p.rooms.length : Int)) = false by (simp only [decide_eq_false_iff_not]; omega), show decide ((40 : Int) < (p.walk.length : Int)) = false by (simp only [decide_eq_false_iff_not]; omega), show decide ((30 : Int) < (p.persons.length : Int)) = false by (simp only [decide_eq_false_iff_not]; omega), show decide ((50 : Int) < (p.classes.length : Int)) = false by (simp only [decide_eq_false_iff_not]; omega), show decide ((20 : Int) < (p.courses.length : Int)) = false by (simp only [decide_eq_false_iff_not]; omega), show decide ((210 : Int) < (p.students.length : Int)) = false by (simp only [decide_eq_false_iff_not]; omega), show decide ((70 : Int) < (p.rules.length : Int)) = false by (simp only [decide_eq_false_iff_not]; omega)] | (with_reducible first | apply c1 | (first | apply c2 | apply c3) <;> (intro hc; simp only [hc]) | (first | apply c4 | apply c5) <;> (intro hc; rw [hc])))
  refine X_for 4 p.rooms.length (fun i s => s.h.get 0 = some (.cells (DV.cells (.p p.P)) false) ∧ s.t.get 3 = some (.p (I (IntKind.wrap .i64 ((sumL (fun x : VRoom => x.shut.length) (p.rooms.take i) : Nat) : Int))))) 0 (by omega) ?_ (Nat.zero_le _) ?_ ?_
  · simp only [go_sem, Int.reduceLT, Int.reduceLE, Int.reduceNeg, Int.reduceEq, Nat.reduceAdd, Nat.reduceEqDiff, Nat.reduceLeDiff, Nat.reduceBEq, reduceIte, reduceCtorEq]; rfl
  · exact ⟨by simp only [go_sem, Int.reduceLT, Int.reduceLE, Int.reduceNeg, Int.reduceEq, Nat.reduceAdd, Nat.reduceEqDiff, Nat.reduceLeDiff, Nat.reduceBEq, reduceIte, reduceCtorEq], by simp only [go_sem, Int.reduceLT, Int.reduceLE, Int.reduceNeg, Int.reduceEq, Nat.reduceAdd, Nat.reduceEqDiff, Nat.reduceLeDiff, Nat.reduceBEq, reduceIte, reduceCtorEq, sumL_zero, wrap_0]⟩
  intro i t h nx hf hi0 hi hci hj
  obtain ⟨hh, h3⟩ := hj
  dsimp only at hh h3
  have h1 := hf 1 rfl; simp only [PT.get_set, Nat.reduceEqDiff, if_true, if_false, reduceIte, PT.get_leaf] at h1
  clear hf
  rcases Nat.lt_or_ge i p.rooms.length with hlt | hge
  · obtain ⟨x, hx, _, htk⟩ := get_dec (l := p.rooms) (i := i) (by simpa using hlt)
    have hdl : decide ((i : Int) < (p.rooms.length : Int)) = true := by simpa using hlt
    repeat' (first | simp only [go_sem, Int.reduceLT, Int.reduceLE, Int.reduceNeg, Int.reduceEq, Nat.reduceAdd, Nat.reduceEqDiff, Nat.reduceLeDiff, Nat.reduceBEq, reduceIte, reduceCtorEq, h1, h3, hci, hh, hx, hdl, wrap_wrap] | (with_reducible first | apply c1 | (first | apply c2 | apply c3) <;> (intro hc; simp only [hc]) | (first | apply c4 | apply c5) <;> (intro hc; rw [hc])))
    refine ⟨hlt, ?_⟩
    rw [htk, sumL_snoc]
    simp only [Int.natCast_add, Int.add_assoc]
  rw [List.take_of_length_le hge] at h3
  repeat' (first | simp only [go_sem, Int.reduceLT, Int.reduceLE, Int.reduceNeg, Int.reduceEq, Nat.reduceAdd, Nat.reduceEqDiff, Nat.reduceLeDiff, Nat.reduceBEq, reduceIte, reduceCtorEq, h1, h3, hci, hh, show decide ((i : Int) < (p.rooms.length : Int)) = false by simpa using hge] | (with_reducible first | apply c1 | (first | apply c2 | apply c3) <;> (intro hc; simp only [hc]) | (first | apply c4 | apply c5) <;> (intro hc; rw [hc])))
  have g1 := h1
  clear h1 hci hi0 hi hge
  refine X_for 5 p.walk.length (fun i s => s.h.get 0 = some (.cells (DV.cells (.p p.P)) false) ∧ s.t.get 3 = some (.p (I (IntKind.wrap .i64 ((sumL (fun x : VRoom => x.shut.length) p.rooms + sumL List.length (p.walk.take i) : Nat) : Int))))) 0 (by omega) ?_ (Nat.zero_le _) ?_ ?_
  · simp only [go_sem, Int.reduceLT, Int.reduceLE, Int.reduceNeg, Int.reduceEq, Nat.reduceAdd, Nat.reduceEqDiff, Nat.reduceLeDiff, Nat.reduceBEq, reduceIte, reduceCtorEq]; rfl
  · exact ⟨by simp only [go_sem, Int.reduceLT, Int.reduceLE, Int.reduceNeg, Int.reduceEq, Nat.reduceAdd, Nat.reduceEqDiff, Nat.reduceLeDiff, Nat.reduceBEq, reduceIte, reduceCtorEq, hh], by simp only [go_sem, Int.reduceLT, Int.reduceLE, Int.reduceNeg, Int.reduceEq, Nat.reduceAdd, Nat.reduceEqDiff, Nat.reduceLeDiff, Nat.reduceBEq, reduceIte, reduceCtorEq, h3, sumL_zero, wrap_0]⟩
  intro i t h nx hf hi0 hi hci hj
  obtain ⟨hh, h3⟩ := hj
  dsimp only at hh h3
  have h1 := hf 1 rfl; simp only [PT.get_set, Nat.reduceEqDiff, if_true, if_false, reduceIte, PT.get_leaf, g1] at h1
  clear hf
  rcases Nat.lt_or_ge i p.walk.length with hlt | hge
  · obtain ⟨x, hx, _, htk⟩ := get_dec (l := p.walk) (i := i) (by simpa using hlt)
    have hdl : decide ((i : Int) < (p.walk.length : Int)) = true := by simpa using hlt
    repeat' (first | simp only [go_sem, Int.reduceLT, Int.reduceLE, Int.reduceNeg, Int.reduceEq, Nat.reduceAdd, Nat.reduceEqDiff, Nat.reduceLeDiff, Nat.reduceBEq, reduceIte, reduceCtorEq, h1, h3, hci, hh, hx, hdl, wrap_wrap] | (with_reducible first | apply c1 | (first | apply c2 | apply c3) <;> (intro hc; simp only [hc]) | (first | apply c4 | apply c5) <;> (intro hc; rw [hc])))
    refine ⟨hlt, ?_⟩
    rw [htk, sumL_snoc]
    simp only [Int.natCast_add, Int.add_assoc]
  rw [List.take_of_length_le hge] at h3
  repeat' (first | simp only [go_sem, Int.reduceLT, Int.reduceLE, Int.reduceNeg, Int.reduceEq, Nat.reduceAdd, Nat.reduceEqDiff, Nat.reduceLeDiff, Nat.reduceBEq, reduceIte, reduceCtorEq, h1, h3, hci, hh, show decide ((i : Int) < (p.walk.length : Int)) = false by simpa using hge] | (with_reducible first | apply c1 | (first | apply c2 | apply c3) <;> (intro hc; simp only [hc]) | (first | apply c4 | apply c5) <;> (intro hc; rw [hc])))
  have g1 := h1
  clear h1 hci hi0 hi hge
  refine X_for 6 p.persons.length (fun i s => s.h.get 0 = some (.cells (DV.cells (.p p.P)) false) ∧ s.t.get 3 = some (.p (I (IntKind.wrap .i64 ((sumL (fun x : VRoom => x.shut.length) p.rooms + sumL List.length p.walk + sumL (fun x : VPerson => x.away.length) (p.persons.take i) : Nat) : Int))))) 0 (by omega) ?_ (Nat.zero_le _) ?_ ?_
  · simp only [go_sem, Int.reduceLT, Int.reduceLE, Int.reduceNeg, Int.reduceEq, Nat.reduceAdd, Nat.reduceEqDiff, Nat.reduceLeDiff, Nat.reduceBEq, reduceIte, reduceCtorEq]; rfl
  · exact ⟨by simp only [go_sem, Int.reduceLT, Int.reduceLE, Int.reduceNeg, Int.reduceEq, Nat.reduceAdd, Nat.reduceEqDiff, Nat.reduceLeDiff, Nat.reduceBEq, reduceIte, reduceCtorEq, hh], by simp only [go_sem, Int.reduceLT, Int.reduceLE, Int.reduceNeg, Int.reduceEq, Nat.reduceAdd, Nat.reduceEqDiff, Nat.reduceLeDiff, Nat.reduceBEq, reduceIte, reduceCtorEq, h3, sumL_zero, wrap_0]⟩
  intro i t h nx hf hi0 hi hci hj
  obtain ⟨hh, h3⟩ := hj
  dsimp only at hh h3
  have h1 := hf 1 rfl; simp only [PT.get_set, Nat.reduceEqDiff, if_true, if_false, reduceIte, PT.get_leaf, g1] at h1
  clear hf
  rcases Nat.lt_or_ge i p.persons.length with hlt | hge
  · obtain ⟨x, hx, _, htk⟩ := get_dec (l := p.persons) (i := i) (by simpa using hlt)
    have hdl : decide ((i : Int) < (p.persons.length : Int)) = true := by simpa using hlt
    repeat' (first | simp only [go_sem, Int.reduceLT, Int.reduceLE, Int.reduceNeg, Int.reduceEq, Nat.reduceAdd, Nat.reduceEqDiff, Nat.reduceLeDiff, Nat.reduceBEq, reduceIte, reduceCtorEq, h1, h3, hci, hh, hx, hdl, wrap_wrap] | (with_reducible first | apply c1 | (first | apply c2 | apply c3) <;> (intro hc; simp only [hc]) | (first | apply c4 | apply c5) <;> (intro hc; rw [hc])))
    refine ⟨hlt, ?_⟩
    rw [htk, sumL_snoc]
    simp only [Int.natCast_add, Int.add_assoc]
  rw [List.take_of_length_le hge] at h3
  repeat' (first | simp only [go_sem, Int.reduceLT, Int.reduceLE, Int.reduceNeg, Int.reduceEq, Nat.reduceAdd, Nat.reduceEqDiff, Nat.reduceLeDiff, Nat.reduceBEq, reduceIte, reduceCtorEq, h1, h3, hci, hh, show decide ((i : Int) < (p.persons.length : Int)) = false by simpa using hge] | (with_reducible first | apply c1 | (first | apply c2 | apply c3) <;> (intro hc; simp only [hc]) | (first | apply c4 | apply c5) <;> (intro hc; rw [hc])))
  have g1 := h1
  clear h1 hci hi0 hi hge
  refine X_for 7 p.classes.length (fun i s => s.h.get 0 = some (.cells (DV.cells (.p p.P)) false) ∧ s.t.get 3 = some (.p (I (IntKind.wrap .i64 ((sumL (fun x : VRoom => x.shut.length) p.rooms + sumL List.length p.walk + sumL (fun x : VPerson => x.away.length) p.persons + sumL claN (p.classes.take i) : Nat) : Int))))) 0 (by omega) ?_ (Nat.zero_le _) ?_ ?_
  · simp only [go_sem, Int.reduceLT, Int.reduceLE, Int.reduceNeg, Int.reduceEq, Nat.reduceAdd, Nat.reduceEqDiff, Nat.reduceLeDiff, Nat.reduceBEq, reduceIte, reduceCtorEq]; rfl
  · exact ⟨by simp only [go_sem, Int.reduceLT, Int.reduceLE, Int.reduceNeg, Int.reduceEq, Nat.reduceAdd, Nat.reduceEqDiff, Nat.reduceLeDiff, Nat.reduceBEq, reduceIte, reduceCtorEq, hh], by simp only [go_sem, Int.reduceLT, Int.reduceLE, Int.reduceNeg, Int.reduceEq, Nat.reduceAdd, Nat.reduceEqDiff, Nat.reduceLeDiff, Nat.reduceBEq, reduceIte, reduceCtorEq, h3, sumL_zero, wrap_0]⟩
  intro i t h nx hf hi0 hi hci hj
  obtain ⟨hh, h3⟩ := hj
  dsimp only at hh h3
  have h1 := hf 1 rfl; simp only [PT.get_set, Nat.reduceEqDiff, if_true, if_false, reduceIte, PT.get_leaf, g1] at h1
  clear hf
  rcases Nat.lt_or_ge i p.classes.length with hlt | hge
  · obtain ⟨x, hx, _, htk⟩ := get_dec (l := p.classes) (i := i) (by simpa using hlt)
    have hdl : decide ((i : Int) < (p.classes.length : Int)) = true := by simpa using hlt
    repeat' (first | simp only [go_sem, Int.reduceLT, Int.reduceLE, Int.reduceNeg, Int.reduceEq, Nat.reduceAdd, Nat.reduceEqDiff, Nat.reduceLeDiff, Nat.reduceBEq, reduceIte, reduceCtorEq, h1, h3, hci, hh, hx, hdl, wrap_wrap] | (with_reducible first | apply c1 | (first | apply c2 | apply c3) <;> (intro hc; simp only [hc]) | (first | apply c4 | apply c5) <;> (intro hc; rw [hc])))
    refine ⟨hlt, ?_⟩
    rw [htk, sumL_snoc, claN]
    simp only [Int.natCast_add, Int.add_assoc]
  rw [List.take_of_length_le hge] at h3
  repeat' (first | simp only [go_sem, Int.reduceLT, Int.reduceLE, Int.reduceNeg, Int.reduceEq, Nat.reduceAdd, Nat.reduceEqDiff, Nat.reduceLeDiff, Nat.reduceBEq, reduceIte, reduceCtorEq, h1, h3, hci, hh, show decide ((i : Int) < (p.classes.length : Int)) = false by simpa using hge] | (with_reducible first | apply c1 | (first | apply c2 | apply c3) <;> (intro hc; simp only [hc]) | (first | apply c4 | apply c5) <;> (intro hc; rw [hc])))
  have g1 := h1
  clear h1 hci hi0 hi hge
  refine X_for 8 p.students.length (fun i s => s.h.get 0 = some (.cells (DV.cells (.p p.P)) false) ∧ s.t.get 3 = some (.p (I (IntKind.wrap .i64 ((sumL (fun x : VRoom => x.shut.length) p.rooms + sumL List.length p.walk + sumL (fun x : VPerson => x.away.length) p.persons + sumL claN p.classes + sumL (fun x : VStudent => x.courses.length) (p.students.take i) : Nat) : Int))))) 0 (by omega) ?_ (Nat.zero_le _) ?_ ?_
  · simp only [go_sem, Int.reduceLT, Int.reduceLE, Int.reduceNeg, Int.reduceEq, Nat.reduceAdd, Nat.reduceEqDiff, Nat.reduceLeDiff, Nat.reduceBEq, reduceIte, reduceCtorEq]; rfl
  · exact ⟨by simp only [go_sem, Int.reduceLT, Int.reduceLE, Int.reduceNeg, Int.reduceEq, Nat.reduceAdd, Nat.reduceEqDiff, Nat.reduceLeDiff, Nat.reduceBEq, reduceIte, reduceCtorEq, hh], by simp only [go_sem, Int.reduceLT, Int.reduceLE, Int.reduceNeg, Int.reduceEq, Nat.reduceAdd, Nat.reduceEqDiff, Nat.reduceLeDiff, Nat.reduceBEq, reduceIte, reduceCtorEq, h3, sumL_zero, wrap_0]⟩
  intro i t h nx hf hi0 hi hci hj
  obtain ⟨hh, h3⟩ := hj
  dsimp only at hh h3
  have h1 := hf 1 rfl; simp only [PT.get_set, Nat.reduceEqDiff, if_true, if_false, reduceIte, PT.get_leaf, g1] at h1
  clear hf
  rcases Nat.lt_or_ge i p.students.length with hlt | hge
  · obtain ⟨x, hx, _, htk⟩ := get_dec (l := p.students) (i := i) (by simpa using hlt)
    have hdl : decide ((i : Int) < (p.students.length : Int)) = true := by simpa using hlt
    repeat' (first | simp only [go_sem, Int.reduceLT, Int.reduceLE, Int.reduceNeg, Int.reduceEq, Nat.reduceAdd, Nat.reduceEqDiff, Nat.reduceLeDiff, Nat.reduceBEq, reduceIte, reduceCtorEq, h1, h3, hci, hh, hx, hdl, wrap_wrap] | (with_reducible first | apply c1 | (first | apply c2 | apply c3) <;> (intro hc; simp only [hc]) | (first | apply c4 | apply c5) <;> (intro hc; rw [hc])))
    refine ⟨hlt, ?_⟩
    rw [htk, sumL_snoc]
    simp only [Int.natCast_add, Int.add_assoc]
  rw [List.take_of_length_le hge] at h3
  repeat' (first | simp only [go_sem, Int.reduceLT, Int.reduceLE, Int.reduceNeg, Int.reduceEq, Nat.reduceAdd, Nat.reduceEqDiff, Nat.reduceLeDiff, Nat.reduceBEq, reduceIte, reduceCtorEq, h1, h3, hci, hh, show decide ((i : Int) < (p.students.length : Int)) = false by simpa using hge] | (with_reducible first | apply c1 | (first | apply c2 | apply c3) <;> (intro hc; simp only [hc]) | (first | apply c4 | apply c5) <;> (intro hc; rw [hc])))
  have g1 := h1
  clear h1 hci hi0 hi hge
  refine X_for 9 p.rules.length (fun i s => s.h.get 0 = some (.cells (DV.cells (.p p.P)) false) ∧ s.t.get 3 = some (.p (I (IntKind.wrap .i64 ((sumL (fun x : VRoom => x.shut.length) p.rooms + sumL List.length p.walk + sumL (fun x : VPerson => x.away.length) p.persons + sumL claN p.classes + sumL (fun x : VStudent => x.courses.length) p.students + sumL (fun x : VRule => x.classes.length) (p.rules.take i) : Nat) : Int))))) 0 (by omega) ?_ (Nat.zero_le _) ?_ ?_
  · simp only [go_sem, Int.reduceLT, Int.reduceLE, Int.reduceNeg, Int.reduceEq, Nat.reduceAdd, Nat.reduceEqDiff, Nat.reduceLeDiff, Nat.reduceBEq, reduceIte, reduceCtorEq]; rfl
  · exact ⟨by simp only [go_sem, Int.reduceLT, Int.reduceLE, Int.reduceNeg, Int.reduceEq, Nat.reduceAdd, Nat.reduceEqDiff, Nat.reduceLeDiff, Nat.reduceBEq, reduceIte, reduceCtorEq, hh], by simp only [go_sem, Int.reduceLT, Int.reduceLE, Int.reduceNeg, Int.reduceEq, Nat.reduceAdd, Nat.reduceEqDiff, Nat.reduceLeDiff, Nat.reduceBEq, reduceIte, reduceCtorEq, h3, sumL_zero, wrap_0]⟩
  intro i t h nx hf hi0 hi hci hj
  obtain ⟨hh, h3⟩ := hj
  dsimp only at hh h3
  have h1 := hf 1 rfl; simp only [PT.get_set, Nat.reduceEqDiff, if_true, if_false, reduceIte, PT.get_leaf, g1] at h1
  clear hf
  rcases Nat.lt_or_ge i p.rules.length with hlt | hge
  · obtain ⟨x, hx, _, htk⟩ := get_dec (l := p.rules) (i := i) (by simpa using hlt)
    have hdl : decide ((i : Int) < (p.rules.length : Int)) = true := by simpa using hlt
    repeat' (first | simp only [go_sem, Int.reduceLT, Int.reduceLE, Int.reduceNeg, Int.reduceEq, Nat.reduceAdd, Nat.reduceEqDiff, Nat.reduceLeDiff, Nat.reduceBEq, reduceIte, reduceCtorEq, h1, h3, hci, hh, hx, hdl, wrap_wrap] | (with_reducible first | apply c1 | (first | apply c2 | apply c3) <;> (intro hc; simp only [hc]) | (first | apply c4 | apply c5) <;> (intro hc; rw [hc])))
    refine ⟨hlt, ?_⟩
    rw [htk, sumL_snoc]
    simp only [Int.natCast_add, Int.add_assoc]
  rw [List.take_of_length_le hge] at h3
  repeat' (first | simp only [go_sem, Int.reduceLT, Int.reduceLE, Int.reduceNeg, Int.reduceEq, Nat.reduceAdd, Nat.reduceEqDiff, Nat.reduceLeDiff, Nat.reduceBEq, reduceIte, reduceCtorEq, h1, h3, hci, hh, show decide ((i : Int) < (p.rules.length : Int)) = false by simpa using hge] | (with_reducible first | apply c1 | (first | apply c2 | apply c3) <;> (intro hc; simp only [hc]) | (first | apply c4 | apply c5) <;> (intro hc; rw [hc])))
  have g1 := h1
  clear h1 hci hi0 hi hge
  refine X_for 10 p.courses.length (fun i s => s.h.get 0 = some (.cells (DV.cells (.p p.P)) false) ∧ s.t.get 3 = some (.p (I (IntKind.wrap .i64 ((sumL (fun x : VRoom => x.shut.length) p.rooms + sumL List.length p.walk + sumL (fun x : VPerson => x.away.length) p.persons + sumL claN p.classes + sumL (fun x : VStudent => x.courses.length) p.students + sumL (fun x : VRule => x.classes.length) p.rules + sumL couN (p.courses.take i) : Nat) : Int))))) 0 (by omega) ?_ (Nat.zero_le _) ?_ ?_
  · simp only [go_sem, Int.reduceLT, Int.reduceLE, Int.reduceNeg, Int.reduceEq, Nat.reduceAdd, Nat.reduceEqDiff, Nat.reduceLeDiff, Nat.reduceBEq, reduceIte, reduceCtorEq]; rfl
  · exact ⟨by simp only [go_sem, Int.reduceLT, Int.reduceLE, Int.reduceNeg, Int.reduceEq, Nat.reduceAdd, Nat.reduceEqDiff, Nat.reduceLeDiff, Nat.reduceBEq, reduceIte, reduceCtorEq, hh], by simp only [go_sem, Int.reduceLT, Int.reduceLE, Int.reduceNeg, Int.reduceEq, Nat.reduceAdd, Nat.reduceEqDiff, Nat.reduceLeDiff, Nat.reduceBEq, reduceIte, reduceCtorEq, h3, sumL_zero, wrap_0]⟩
  intro i t h nx hf hi0 hi hci hj
  obtain ⟨hh, h3⟩ := hj
  dsimp only at hh h3
  have h1 := hf 1 rfl; simp only [PT.get_set, Nat.reduceEqDiff, if_true, if_false, reduceIte, PT.get_leaf, g1] at h1
  clear hf
  rcases Nat.lt_or_ge i p.courses.length with hlt | hge
  · obtain ⟨x, hx, _, htk⟩ := get_dec (l := p.courses) (i := i) (by simpa using hlt)
    have hdl : decide ((i : Int) < (p.courses.length : Int)) = true := by simpa using hlt
    obtain ⟨hxw, hxp⟩ := hc x (List.mem_of_getElem? hx)
    repeat' (first | simp only [go_sem, Int.reduceLT, Int.reduceLE, Int.reduceNeg, Int.reduceEq, Nat.reduceAdd, Nat.reduceEqDiff, Nat.reduceLeDiff, Nat.reduceBEq, reduceIte, reduceCtorEq, h1, h3, hci, hh, hx, hdl, wrap_wrap] | (with_reducible first | apply c1 | (first | apply c2 | apply c3) <;> (intro hc; simp only [hc]) | (first | apply c4 | apply c5) <;> (intro hc; rw [hc])))
    refine X_for 11 x.ways.length (fun j s => s.h.get 0 = some (.cells (DV.cells (.p p.P)) false) ∧ s.t.get 3 = some (.p (I (IntKind.wrap .i64 ((sumL (fun x : VRoom => x.shut.length) p.rooms + sumL List.length p.walk + sumL (fun x : VPerson => x.away.length) p.persons + sumL claN p.classes + sumL (fun x : VStudent => x.courses.length) p.students + sumL (fun x : VRule => x.classes.length) p.rules + sumL couN (p.courses.take i) + (x.ways.length + sumL wayN (x.ways.take j)) : Nat) : Int))))) 0 (by omega) ?_ (Nat.zero_le _) ?_ ?_
    · simp only [go_sem, Int.reduceLT, Int.reduceLE, Int.reduceNeg, Int.reduceEq, Nat.reduceAdd, Nat.reduceEqDiff, Nat.reduceLeDiff, Nat.reduceBEq, reduceIte, reduceCtorEq]; rfl
    · exact ⟨by simp only [go_sem, Int.reduceLT, Int.reduceLE, Int.reduceNeg, Int.reduceEq, Nat.reduceAdd, Nat.reduceEqDiff, Nat.reduceLeDiff, Nat.reduceBEq, reduceIte, reduceCtorEq, hh], by simp only [go_sem, Int.reduceLT, Int.reduceLE, Int.reduceNeg, Int.reduceEq, Nat.reduceAdd, Nat.reduceEqDiff, Nat.reduceLeDiff, Nat.reduceBEq, reduceIte, reduceCtorEq, sumL_zero]; simp only [Int.natCast_add, Int.add_assoc]⟩
    intro j t' h' nx' hf hj0 hj hcj hjj
    obtain ⟨hh', h3'⟩ := hjj
    dsimp only at hh' h3'
    have f1 := hf 1 rfl; have f10 := hf 10 rfl
    simp only [PT.get_set, Nat.reduceEqDiff, if_true, if_false, reduceIte, h1, hci] at f1 f10
    clear hf
    rcases Nat.lt_or_ge j x.ways.length with hlt2 | hge2
    · obtain ⟨w, hw, _, htw⟩ := get_dec (l := x.ways) (i := j) (by simpa using hlt2)
      have hdl2 : decide ((j : Int) < (x.ways.length : Int)) = true := by simpa using hlt2
      have hwp := hxp w (List.mem_of_getElem? hw)
      repeat' (first | simp only [go_sem, Int.reduceLT, Int.reduceLE, Int.reduceNeg, Int.reduceEq, Nat.reduceAdd, Nat.reduceEqDiff, Nat.reduceLeDiff, Nat.reduceBEq, reduceIte, reduceCtorEq, f1, f10, h3', hcj, hh', hx, hw, hdl2, wrap_wrap] | (with_reducible first | apply c1 | (first | apply c2 | apply c3) <;> (intro hc; simp only [hc]) | (first | apply c4 | apply c5) <;> (intro hc; rw [hc])))
      refine X_for 12 w.parts.length (fun m s => s.h.get 0 = some (.cells (DV.cells (.p p.P)) false) ∧ s.t.get 3 = some (.p (I (IntKind.wrap .i64 ((sumL (fun x : VRoom => x.shut.length) p.rooms + sumL List.length p.walk + sumL (fun x : VPerson => x.away.length) p.persons + sumL claN p.classes + sumL (fun x : VStudent => x.courses.length) p.students + sumL (fun x : VRule => x.classes.length) p.rules + sumL couN (p.courses.take i) + (x.ways.length + (sumL wayN (x.ways.take j) + (w.parts.length + sumL List.length (w.parts.take m)))) : Nat) : Int))))) 0 (by omega) ?_ (Nat.zero_le _) ?_ ?_
      · simp only [go_sem, Int.reduceLT, Int.reduceLE, Int.reduceNeg, Int.reduceEq, Nat.reduceAdd, Nat.reduceEqDiff, Nat.reduceLeDiff, Nat.reduceBEq, reduceIte, reduceCtorEq]; rfl
      · exact ⟨by simp only [go_sem, Int.reduceLT, Int.reduceLE, Int.reduceNeg, Int.reduceEq, Nat.reduceAdd, Nat.reduceEqDiff, Nat.reduceLeDiff, Nat.reduceBEq, reduceIte, reduceCtorEq, hh'], by simp only [go_sem, Int.reduceLT, Int.reduceLE, Int.reduceNeg, Int.reduceEq, Nat.reduceAdd, Nat.reduceEqDiff, Nat.reduceLeDiff, Nat.reduceBEq, reduceIte, reduceCtorEq, sumL_zero]; simp only [Int.natCast_add, Int.add_assoc]⟩
      intro m t2 h2 nx2 hf hm0 hm hcm hmm
      obtain ⟨hh2, h32⟩ := hmm
      dsimp only at hh2 h32
      have g1 := hf 1 rfl; have g10 := hf 10 rfl; have g11 := hf 11 rfl
      simp only [PT.get_set, Nat.reduceEqDiff, if_true, if_false, reduceIte, f1, f10, hcj] at g1 g10 g11
      clear hf
      rcases Nat.lt_or_ge m w.parts.length with hlt3 | hge3
      · obtain ⟨r, hr, _, htr⟩ := get_dec (l := w.parts) (i := m) (by simpa using hlt3)
        have hdl3 : decide ((m : Int) < (w.parts.length : Int)) = true := by simpa using hlt3
        repeat' (first | simp only [go_sem, Int.reduceLT, Int.reduceLE, Int.reduceNeg, Int.reduceEq, Nat.reduceAdd, Nat.reduceEqDiff, Nat.reduceLeDiff, Nat.reduceBEq, reduceIte, reduceCtorEq, g1, g10, g11, h32, hcm, hh2, hx, hw, hr, hdl3, wrap_wrap] | (with_reducible first | apply c1 | (first | apply c2 | apply c3) <;> (intro hc; simp only [hc]) | (first | apply c4 | apply c5) <;> (intro hc; rw [hc])))
        refine ⟨hlt3, ?_⟩
        rw [htr, sumL_snoc]
        simp only [Int.natCast_add, Int.add_assoc]
      · rw [List.take_of_length_le hge3] at h32
        repeat' (first | simp only [go_sem, Int.reduceLT, Int.reduceLE, Int.reduceNeg, Int.reduceEq, Nat.reduceAdd, Nat.reduceEqDiff, Nat.reduceLeDiff, Nat.reduceBEq, reduceIte, reduceCtorEq, g1, g10, g11, h32, hcm, hh2, hx, hw, show decide ((m : Int) < (w.parts.length : Int)) = false by simpa using hge3] | (with_reducible first | apply c1 | (first | apply c2 | apply c3) <;> (intro hc; simp only [hc]) | (first | apply c4 | apply c5) <;> (intro hc; rw [hc])))
        refine ⟨hlt2, ?_⟩
        rw [htw, sumL_snoc, wayN] <;> simp only [h32, Int.natCast_add, Int.add_assoc]
    · rw [List.take_of_length_le hge2] at h3'
      repeat' (first | simp only [go_sem, Int.reduceLT, Int.reduceLE, Int.reduceNeg, Int.reduceEq, Nat.reduceAdd, Nat.reduceEqDiff, Nat.reduceLeDiff, Nat.reduceBEq, reduceIte, reduceCtorEq, f1, f10, h3', hcj, hh', hx, show decide ((j : Int) < (x.ways.length : Int)) = false by simpa using hge2] | (with_reducible first | apply c1 | (first | apply c2 | apply c3) <;> (intro hc; simp only [hc]) | (first | apply c4 | apply c5) <;> (intro hc; rw [hc])))
      refine ⟨hlt, ?_⟩
      rw [htk, sumL_snoc, couN] <;> simp only [h3', Int.natCast_add, Int.add_assoc]
  rw [List.take_of_length_le hge] at h3
  repeat' (first | simp only [go_sem, Int.reduceLT, Int.reduceLE, Int.reduceNeg, Int.reduceEq, Nat.reduceAdd, Nat.reduceEqDiff, Nat.reduceLeDiff, Nat.reduceBEq, reduceIte, reduceCtorEq, h1, h3, hci, hh, show decide ((i : Int) < (p.courses.length : Int)) = false by simpa using hge] | (with_reducible first | apply c1 | (first | apply c2 | apply c3) <;> (intro hc; simp only [hc]) | (first | apply c4 | apply c5) <;> (intro hc; rw [hc])))
  have g1 := h1
  have : fewL p := ⟨k0, k1, k2, k3, k4, k5, k6⟩
  simp only [FewB, fewN, this, decide_true, Bool.true_and, Nat.add_assoc]
def m_law43_few : MF := ⟨71, (.seq (.reg none [Oo 2 (.box (.t 0)), Oo 4 (.mov (.d (.p (.s (.bool false)))))]) (.seq (.seq (.reg none [Oo 7 (.load true 15 (.t 2)), Oo 8 (.call 30 [.t 7]), Oo 9 (.un .not (.t 8)), Om 10 9, Og 11 10 false (.fadr 7 (.t 2)), Og 12 10 false (.load false 1 (.t 11)), Og 13 10 false (.lenL (.t 12)), Og 14 10 false (.iop .gtr (.t 13) (.d (Ci 8))), Oo 15 (.pick (.t 10) (.d (.p (.s (.bool true)))) (.t 14)), Om 16 15, Og 17 16 false (.fadr 9 (.t 2)), Og 18 16 false (.load false 1 (.t 17)), Og 19 16 false (.lenL (.t 18)), Og 20 16 false (.iop .gtr (.t 19) (.d (Ci 10))), Oo 21 (.pick (.t 16) (.d (.p (.s (.bool true)))) (.t 20)), Om 22 21, Og 23 22 false (.fadr 8 (.t 2)), Og 24 22 false (.load false 1 (.t 23)), Og 25 22 false (.lenL (.t 24)), Og 26 22 false (.iop .gtr (.t 25) (.d (Ci 6))), Oo 27 (.pick (.t 22) (.d (.p (.s (.bool true)))) (.t 26)), Om 28 27, Og 29 28 false (.mov (.t 1)), Og 30 28 false (.lenL (.t 29)), Og 31 28 false (.iop .gtr (.t 30) (.d (Ci 20))), Oo 32 (.pick (.t 28) (.d (.p (.s (.bool true)))) (.t 31))]) (.cond (.t 32) (.seq (.reg none [Oo 4 (.mov (.d (.p (.s (.bool false)))))]) .ret) .skip)) (.seq (.seq (.reg none [Oo 5 (.mov (.d (Ci 0)))]) (.block 0 (.loop (.seq (.seq (.reg none [Om 33 5, Of 34 8 2, Ol 35 34, Ok 36 35, Oo 37 (.iop .lss (.t 33) (.t 36))]) (.cond (.t 37) .skip (.exit 0))) (.seq (.block 1 (.seq (.seq (.reg none [Of 40 8 2, Ol 41 40, Om 42 5, Oo 43 (.iadrS 2 (.t 41) (.t 42)), Of 44 1 43, Ol 45 44, Ok 46 45, Oo 47 (.iop .gtr (.t 46) (.d (Ci 3)))]) (.cond (.t 47) (.seq (.reg none [Oo 4 (.mov (.d (.p (.s (.bool false)))))]) .ret) .skip)) (.seq (.reg none [Oo 6 (.mov (.d (Ci 0)))]) (.block 2 (.loop (.seq (.seq (.reg none [Om 48 6, Of 49 8 2, Ol 50 49, Om 51 5, Oo 52 (.iadrS 2 (.t 50) (.t 51)), Of 53 1 52, Ol 54 53, Ok 55 54, Oo 56 (.iop .lss (.t 48) (.t 55))]) (.cond (.t 56) .skip (.exit 2))) (.seq (.block 3 (.seq (.reg none [Of 59 8 2, Ol 60 59, Om 61 5, Oo 62 (.iadrS 2 (.t 60) (.t 61)), Of 63 1 62, Ol 64 63, Om 65 6, Oo 66 (.iadrS 1 (.t 64) (.t 65)), Of 67 0 66, Ol 68 67, Ok 69 68, Oo 70 (.iop .gtr (.t 69) (.d (Ci 3)))]) (.cond (.t 70) (.seq (.reg none [Oo 4 (.mov (.d (.p (.s (.bool false)))))]) .ret) .skip))) (.reg none [Om 57 6, Oo 58 (.iop .add (.t 57) (.d (Ci 1))), Om 6 58])))))))) (.reg none [Om 38 5, Oo 39 (.iop .add (.t 38) (.d (Ci 1))), Om 5 39])))))) (.seq (.reg none [Oo 4 (.mov (.d (.p (.s (.bool true)))))]) .ret)))), [.tmp 4]⟩
theorem c_law43_few : comp Tryz.prog G0 8 = some m_law43_few := by kernel_rfl
theorem q_law43_few : Q0 8 := mCall_pure rfl
def couS (c : VCourse) : Bool := decide (c.ways.length ≤ 3) && c.ways.all fun w => decide (w.parts.length ≤ 3)
def fewB (p : VProblem) (l : List VSeat) : Bool := FewB p && decide (p.classes.length ≤ 8) && decide (p.students.length ≤ 10) && decide (p.courses.length ≤ 6) && decide (l.length ≤ 20) && p.courses.all couS
theorem few_res (p : VProblem) (hc : ∀ c ∈ p.courses, c.ways.length ≤ 140737488351232 ∧ ∀ w ∈ c.ways, w.parts.length ≤ 140737488351232) (l : List VSeat) : res Tryz.prog G0 8 [p.P, .lst (l.map VSeat.P)] = some (B (fewB p l)) := by
  refine res_body c_law43_few (Nat.le_of_ble_eq_true rfl) ?_
  simp only [m_law43_few, Oo, Ou, Og, Ci, Om, Of, Ol, Ok]
  cases hF : FewB p with
  | false =>
    repeat' (first | simp only [go_sem, Int.reduceLT, Int.reduceLE, Int.reduceNeg, Int.reduceEq, Nat.reduceAdd, Nat.reduceEqDiff, Nat.reduceLeDiff, Nat.reduceBEq, reduceIte, reduceCtorEq, q_ref17_Few, Few_res p hc, hF] | (with_reducible first | apply c1 | (first | apply c2 | apply c3) <;> (intro hc; simp only [hc]) | (first | apply c4 | apply c5) <;> (intro hc; rw [hc])))
    simp [fewB, hF]
  | true =>
    by_cases k1 : p.classes.length ≤ 8
    case neg =>
      repeat' (first | simp only [go_sem, Int.reduceLT, Int.reduceLE, Int.reduceNeg, Int.reduceEq, Nat.reduceAdd, Nat.reduceEqDiff, Nat.reduceLeDiff, Nat.reduceBEq, reduceIte, reduceCtorEq, q_ref17_Few, Few_res p hc, hF, show decide ((8 : Int) < (p.classes.length : Int)) = true by (simp only [decide_eq_true_eq]; omega)] | (with_reducible first | apply c1 | (first | apply c2 | apply c3) <;> (intro hc; simp only [hc]) | (first | apply c4 | apply c5) <;> (intro hc; rw [hc])))
      simp [fewB, k1]
    by_cases k2 : p.students.length ≤ 10
    case neg =>
      repeat' (first | simp only [go_sem, Int.reduceLT, Int.reduceLE, Int.reduceNeg, Int.reduceEq, Nat.reduceAdd, Nat.reduceEqDiff, Nat.reduceLeDiff, Nat.reduceBEq, reduceIte, reduceCtorEq, q_ref17_Few, Few_res p hc, hF, show decide ((8 : Int) < (p.classes.length : Int)) = false by (simp only [decide_eq_false_iff_not]; omega), show decide ((10 : Int) < (p.students.length : Int)) = true by (simp only [decide_eq_true_eq]; omega)] | (with_reducible first | apply c1 | (first | apply c2 | apply c3) <;> (intro hc; simp only [hc]) | (first | apply c4 | apply c5) <;> (intro hc; rw [hc])))
      simp [fewB, k2]
    by_cases k3 : p.courses.length ≤ 6
    case neg =>
      repeat' (first | simp only [go_sem, Int.reduceLT, Int.reduceLE, Int.reduceNeg, Int.reduceEq, Nat.reduceAdd, Nat.reduceEqDiff, Nat.reduceLeDiff, Nat.reduceBEq, reduceIte, reduceCtorEq, q_ref17_Few, Few_res p hc, hF, show decide ((8 : Int) < (p.classes.length : Int)) = false by (simp only [decide_eq_false_iff_not]; omega), show decide ((10 : Int) < (p.students.length : Int)) = false by (simp only [decide_eq_false_iff_not]; omega), show decide ((6 : Int) < (p.courses.length : Int)) = true by (simp only [decide_eq_true_eq]; omega)] | (with_reducible first | apply c1 | (first | apply c2 | apply c3) <;> (intro hc; simp only [hc]) | (first | apply c4 | apply c5) <;> (intro hc; rw [hc])))
      simp [fewB, k3]
    by_cases k4 : l.length ≤ 20
    case neg =>
      repeat' (first | simp only [go_sem, Int.reduceLT, Int.reduceLE, Int.reduceNeg, Int.reduceEq, Nat.reduceAdd, Nat.reduceEqDiff, Nat.reduceLeDiff, Nat.reduceBEq, reduceIte, reduceCtorEq, q_ref17_Few, Few_res p hc, hF, show decide ((8 : Int) < (p.classes.length : Int)) = false by (simp only [decide_eq_false_iff_not]; omega), show decide ((10 : Int) < (p.students.length : Int)) = false by (simp only [decide_eq_false_iff_not]; omega), show decide ((6 : Int) < (p.courses.length : Int)) = false by (simp only [decide_eq_false_iff_not]; omega), show decide ((20 : Int) < (l.length : Int)) = true by (simp only [decide_eq_true_eq]; omega)] | (with_reducible first | apply c1 | (first | apply c2 | apply c3) <;> (intro hc; simp only [hc]) | (first | apply c4 | apply c5) <;> (intro hc; rw [hc])))
      simp [fewB, k4]
    repeat' (first | simp only [go_sem, Int.reduceLT, Int.reduceLE, Int.reduceNeg, Int.reduceEq, Nat.reduceAdd, Nat.reduceEqDiff, Nat.reduceLeDiff, Nat.reduceBEq, reduceIte, reduceCtorEq, q_ref17_Few, Few_res p hc, hF, show decide ((8 : Int) < (p.classes.length : Int)) = false by (simp only [decide_eq_false_iff_not]; omega), show decide ((10 : Int) < (p.students.length : Int)) = false by (simp only [decide_eq_false_iff_not]; omega), show decide ((6 : Int) < (p.courses.length : Int)) = false by (simp only [decide_eq_false_iff_not]; omega), show decide ((20 : Int) < (l.length : Int)) = false by (simp only [decide_eq_false_iff_not]; omega)] | (with_reducible first | apply c1 | (first | apply c2 | apply c3) <;> (intro hc; simp only [hc]) | (first | apply c4 | apply c5) <;> (intro hc; rw [hc])))
    refine X_for 5 p.courses.length (fun i s => s.h.get 0 = some (.cells (DV.cells (.p p.P)) false) ∧ ∀ c ∈ p.courses.take i, couS c = true) 0 (by omega) ?_ (Nat.zero_le _) ?_ ?_
    · simp only [go_sem, Int.reduceLT, Int.reduceLE, Int.reduceNeg, Int.reduceEq, Nat.reduceAdd, Nat.reduceEqDiff, Nat.reduceLeDiff, Nat.reduceBEq, reduceIte, reduceCtorEq]; rfl
    · exact ⟨by simp only [go_sem, Int.reduceLT, Int.reduceLE, Int.reduceNeg, Int.reduceEq, Nat.reduceAdd, Nat.reduceEqDiff, Nat.reduceLeDiff, Nat.reduceBEq, reduceIte, reduceCtorEq], by simp⟩
    intro i t h nx hf hi0 hi h5 hj
    obtain ⟨hh, hjc⟩ := hj
    dsimp only at hh
    have h2 := hf 2 rfl; simp only [PT.get_set, Nat.reduceEqDiff, if_true, if_false, reduceIte, PT.get_leaf] at h2
    clear hf
    rcases Nat.lt_or_ge i p.courses.length with hlt | hge
    · obtain ⟨c, hcx, _, htk⟩ := get_dec (l := p.courses) (i := i) (by simpa using hlt)
      have hdl : decide ((i : Int) < (p.courses.length : Int)) = true := by simpa using hlt
      have hcm := List.mem_of_getElem? hcx
      have bad : couS c = false → PDV.s (.bool false) = B (fewB p l) := fun hb => by
        have : p.courses.all couS = false := by rw [List.all_eq_false]; exact ⟨c, hcm, by simp [hb]⟩
        simp [fewB, this]
      by_cases hw : c.ways.length ≤ 3
      case neg =>
        repeat' (first | simp only [go_sem, Int.reduceLT, Int.reduceLE, Int.reduceNeg, Int.reduceEq, Nat.reduceAdd, Nat.reduceEqDiff, Nat.reduceLeDiff, Nat.reduceBEq, reduceIte, reduceCtorEq, h2, h5, hh, hcx, hdl, show decide ((3 : Int) < (c.ways.length : Int)) = true by (simp only [decide_eq_true_eq]; omega)] | (with_reducible first | apply c1 | (first | apply c2 | apply c3) <;> (intro hc; simp only [hc]) | (first | apply c4 | apply c5) <;> (intro hc; rw [hc])))
        exact bad (by simp [couS, hw])
      repeat' (first | simp only [go_sem, Int.reduceLT, Int.reduceLE, Int.reduceNeg, Int.reduceEq, Nat.reduceAdd, Nat.reduceEqDiff, Nat.reduceLeDiff, Nat.reduceBEq, reduceIte, reduceCtorEq, h2, h5, hh, hcx, hdl, show decide ((3 : Int) < (c.ways.length : Int)) = false by (simp only [decide_eq_false_iff_not]; omega)] | (with_reducible first | apply c1 | (first | apply c2 | apply c3) <;> (intro hc; simp only [hc]) | (first | apply c4 | apply c5) <;> (intro hc; rw [hc])))
      refine X_for 6 c.ways.length (fun j s => s.h.get 0 = some (.cells (DV.cells (.p p.P)) false) ∧ ∀ w ∈ c.ways.take j, w.parts.length ≤ 3) 0 (by omega) ?_ (Nat.zero_le _) ?_ ?_
      · simp only [go_sem, Int.reduceLT, Int.reduceLE, Int.reduceNeg, Int.reduceEq, Nat.reduceAdd, Nat.reduceEqDiff, Nat.reduceLeDiff, Nat.reduceBEq, reduceIte, reduceCtorEq]; rfl
      · exact ⟨by simp only [go_sem, Int.reduceLT, Int.reduceLE, Int.reduceNeg, Int.reduceEq, Nat.reduceAdd, Nat.reduceEqDiff, Nat.reduceLeDiff, Nat.reduceBEq, reduceIte, reduceCtorEq, hh], by simp⟩
      intro j t' h' nx' hf hj0 hj h6 hj2
      obtain ⟨hh', hjw⟩ := hj2
      dsimp only at hh'
      have f2 := hf 2 rfl; have f5 := hf 5 rfl
      simp only [PT.get_set, Nat.reduceEqDiff, if_true, if_false, reduceIte, h2, h5] at f2 f5
      clear hf
      rcases Nat.lt_or_ge j c.ways.length with hlt2 | hge2
      · obtain ⟨w, hwx, _, htw⟩ := get_dec (l := c.ways) (i := j) (by simpa using hlt2)
        have hdl2 : decide ((j : Int) < (c.ways.length : Int)) = true := by simpa using hlt2
        by_cases hp : w.parts.length ≤ 3
        case neg =>
          repeat' (first | simp only [go_sem, Int.reduceLT, Int.reduceLE, Int.reduceNeg, Int.reduceEq, Nat.reduceAdd, Nat.reduceEqDiff, Nat.reduceLeDiff, Nat.reduceBEq, reduceIte, reduceCtorEq, f2, f5, h6, hh', hcx, hwx, hdl2, show decide ((3 : Int) < (w.parts.length : Int)) = true by (simp only [decide_eq_true_eq]; omega)] | (with_reducible first | apply c1 | (first | apply c2 | apply c3) <;> (intro hc; simp only [hc]) | (first | apply c4 | apply c5) <;> (intro hc; rw [hc])))
          refine bad ?_
          have : c.ways.all (fun w => decide (w.parts.length ≤ 3)) = false := by rw [List.all_eq_false]; exact ⟨w, List.mem_of_getElem? hwx, by simp [hp]⟩
          simp [couS, this]
        repeat' (first | simp only [go_sem, Int.reduceLT, Int.reduceLE, Int.reduceNeg, Int.reduceEq, Nat.reduceAdd, Nat.reduceEqDiff, Nat.reduceLeDiff, Nat.reduceBEq, reduceIte, reduceCtorEq, f2, f5, h6, hh', hcx, hwx, hdl2, show decide ((3 : Int) < (w.parts.length : Int)) = false by (simp only [decide_eq_false_iff_not]; omega)] | (with_reducible first | apply c1 | (first | apply c2 | apply c3) <;> (intro hc; simp only [hc]) | (first | apply c4 | apply c5) <;> (intro hc; rw [hc])))
        refine ⟨hlt2, fun y hy => ?_⟩
        rw [htw, List.mem_append, List.mem_singleton] at hy
        rcases hy with hy | rfl
        · exact hjw y hy
        · exact hp
      · rw [List.take_of_length_le hge2] at hjw
        repeat' (first | simp only [go_sem, Int.reduceLT, Int.reduceLE, Int.reduceNeg, Int.reduceEq, Nat.reduceAdd, Nat.reduceEqDiff, Nat.reduceLeDiff, Nat.reduceBEq, reduceIte, reduceCtorEq, f2, f5, h6, hh', hcx, show decide ((j : Int) < (c.ways.length : Int)) = false by simpa using hge2] | (with_reducible first | apply c1 | (first | apply c2 | apply c3) <;> (intro hc; simp only [hc]) | (first | apply c4 | apply c5) <;> (intro hc; rw [hc])))
        refine ⟨hlt, fun y hy => ?_⟩
        rw [htk, List.mem_append, List.mem_singleton] at hy
        rcases hy with hy | rfl
        · exact hjc y hy
        · simp only [couS, Bool.and_eq_true, decide_eq_true_eq, List.all_eq_true]
          exact ⟨hw, hjw⟩
    · rw [List.take_of_length_le hge] at hjc
      repeat' (first | simp only [go_sem, Int.reduceLT, Int.reduceLE, Int.reduceNeg, Int.reduceEq, Nat.reduceAdd, Nat.reduceEqDiff, Nat.reduceLeDiff, Nat.reduceBEq, reduceIte, reduceCtorEq, h2, h5, hh, show decide ((i : Int) < (p.courses.length : Int)) = false by simpa using hge] | (with_reducible first | apply c1 | (first | apply c2 | apply c3) <;> (intro hc; simp only [hc]) | (first | apply c4 | apply c5) <;> (intro hc; rw [hc])))
      have : p.courses.all couS = true := List.all_eq_true.2 hjc
      simp [fewB, hF, k1, k2, k3, k4, this]
end Go.Proofs.YtddmnddocbmjnaaGreat.Dv
namespace Go.Proofs.YtddmnddocbmjnaaGreat.Dv
def iR (n : Int) : Prop := -9223372036854775808 ≤ n ∧ n ≤ 9223372036854775807
def LB (n : Nat) : Prop := n ≤ 140737488351232
section
variable {P : Program} {n : Nat} {t e : TypeId} {ds : List PDV}
theorem w_i64 (hu : P.underlying t = some (.int .i64)) (h : wt P n t ds) : ∃ m, ds = [I m] ∧ iR m := by
  cases n with
  | zero => simp [wt] at h
  | succ n =>
    simp only [wt, hu] at h
    obtain ⟨m, rfl, hw⟩ := h
    refine ⟨m, rfl, ?_⟩
    simp [Lit.wf, IntKind.min, IntKind.max, IntKind.signed, IntKind.bits] at hw
    exact hw
theorem w_u {k : IntKind} {N : Nat} (hk : k.min = 0 ∧ k.max = (N : Int)) (hu : P.underlying t = some (.int k)) (h : wt P n t ds) : ∃ m : Fin (N + 1), ds = [.s (.int k (m.val : Int))] := by
  cases n with
  | zero => simp [wt] at h
  | succ n =>
    simp only [wt, hu] at h
    obtain ⟨m, rfl, hw⟩ := h
    simp only [Lit.wf, hk.1, hk.2, Bool.and_eq_true, decide_eq_true_eq] at hw
    exact ⟨⟨m.toNat, by omega⟩, by rw [Int.toNat_of_nonneg hw.1]⟩
theorem w_str (hu : P.underlying t = some .string) (h : wt P n t ds) : ∃ s : ByteArray, ds = [.s (.string s)] ∧ LB s.size := by
  cases n with
  | zero => simp [wt] at h
  | succ n =>
    simp only [wt, hu] at h
    obtain ⟨m, rfl, hw⟩ := h
    exact ⟨m, rfl, by simpa [LB, reachBytes] using hw⟩
theorem w_bool (hu : P.underlying t = some .bool) (h : wt P n t ds) : ∃ b : Bool, ds = [.s (.bool b)] := by
  cases n with
  | zero => simp [wt] at h
  | succ n => simpa only [wt, hu] using h
theorem all_view {α : Type} {f : α → PDV} {R : α → Prop} : ∀ {l : List PDV}, (∀ x ∈ l, ∃ y, x = f y ∧ R y) → ∃ ys : List α, l = ys.map f ∧ ∀ y ∈ ys, R y
  | [], _ => ⟨[], rfl, by simp⟩
  | x :: l, h => by
    obtain ⟨y, rfl, hy⟩ := h x (by simp)
    obtain ⟨ys, rfl, hys⟩ := all_view (l := l) (fun x hx => h x (by simp [hx]))
    refine ⟨y :: ys, rfl, fun z hz => ?_⟩
    rcases List.mem_cons.1 hz with rfl | hz
    · exact hy
    · exact hys z hz
theorem w_ls {α : Type} {f : α → PDV} {R : α → Prop} (hu : P.underlying t = some (.slice e)) (ha : aggT P e = some true) (he : ∀ m c, wt P m e c → ∃ y, PDV.agg c = f y ∧ R y) (h : wt P n t ds) : ∃ l : List α, ds = [.lst (l.map f)] ∧ LB l.length ∧ ∀ y ∈ l, R y := by
  cases n with
  | zero => simp [wt] at h
  | succ n =>
    simp only [wt, hu] at h
    obtain ⟨l, rfl, hl, hx⟩ := h
    obtain ⟨ys, rfl, hys⟩ := all_view (f := f) (R := R) (l := l) (fun x hm => by
      rcases hx x hm with ⟨_, c, rfl, hc⟩ | ⟨hf, _⟩
      · exact he n c hc
      · rw [ha] at hf; cases hf)
    exact ⟨ys, rfl, by simpa [LB, reachBytes] using hl, hys⟩
theorem w_l1 {α : Type} {f : α → PDV} {R : α → Prop} (hu : P.underlying t = some (.slice e)) (ha : aggT P e = some false) (he : ∀ m d, wt P m e [d] → ∃ y, d = f y ∧ R y) (h : wt P n t ds) : ∃ l : List α, ds = [.lst (l.map f)] ∧ LB l.length ∧ ∀ y ∈ l, R y := by
  cases n with
  | zero => simp [wt] at h
  | succ n =>
    simp only [wt, hu] at h
    obtain ⟨l, rfl, hl, hx⟩ := h
    obtain ⟨ys, rfl, hys⟩ := all_view (f := f) (R := R) (l := l) (fun x hm => by
      rcases hx x hm with ⟨hf, _⟩ | ⟨_, hc⟩
      · rw [ha] at hf; cases hf
      · exact he n x hc)
    exact ⟨ys, rfl, by simpa [LB, reachBytes] using hl, hys⟩
def bgL (l : List Int) : Prop := LB l.length ∧ ∀ y ∈ l, iR y
def bgLL (l : List (List Int)) : Prop := LB l.length ∧ ∀ r ∈ l, bgL r
end
theorem w_li {n : Nat} {ds : List PDV} (h : wt Tryz.prog n 51 ds) : ∃ l : List Int, ds = [L l] ∧ bgL l := by
  obtain ⟨l, h1, h2, h3⟩ := w_l1 (f := I) (R := iR) Tryz.underlying51 (by kernel_rfl) (fun m d hd => by
    obtain ⟨y, hy, hr⟩ := w_i64 Tryz.underlying3 hd
    exact ⟨y, by simpa using hy, hr⟩) h
  exact ⟨l, h1, h2, h3⟩
theorem w_lli {n : Nat} {ds : List PDV} (h : wt Tryz.prog n 25 ds) : ∃ l : List (List Int), ds = [LL l] ∧ bgLL l := by
  obtain ⟨l, h1, h2, h3⟩ := w_l1 (f := L) (R := bgL) Tryz.underlying25 (by kernel_rfl) (fun m d hd => by
    obtain ⟨y, hy, hr⟩ := w_li hd
    exact ⟨y, by simpa using hy, hr⟩) h
  exact ⟨l, h1, h2, h3⟩
def VGrid.bg (x : VGrid) : Prop := iR x.weeks ∧ iR x.days ∧ iR x.slots
theorem w_Grid {n : Nat} {ds : List PDV} (h : wt Tryz.prog n 23 ds) : ∃ x : VGrid, ds = x.P.cells ∧ x.bg := by
  cases n with
  | zero => simp [wt] at h
  | succ n =>
    simp only [wt, Tryz.underlying23, Tiled] at h
    obtain ⟨a0, b0, rfl, h0, a1, b1, rfl, h1, a2, b2, rfl, h2, rfl⟩ := h
    obtain ⟨x0, rfl, q0⟩ := w_i64 Tryz.underlying3 h0
    obtain ⟨x1, rfl, q1⟩ := w_i64 Tryz.underlying3 h1
    obtain ⟨x2, rfl, q2⟩ := w_i64 Tryz.underlying3 h2
    exact ⟨⟨x0, x1, x2⟩, rfl, ⟨q0, q1, q2⟩⟩
def VWhen.bg (x : VWhen) : Prop := iR x.start ∧ iR x.len
theorem w_When {n : Nat} {ds : List PDV} (h : wt Tryz.prog n 80 ds) : ∃ x : VWhen, ds = x.P.cells ∧ x.bg := by
  cases n with
  | zero => simp [wt] at h
  | succ n =>
    simp only [wt, Tryz.underlying80, Tiled] at h
    obtain ⟨a0, b0, rfl, h0, a1, b1, rfl, h1, a2, b2, rfl, h2, a3, b3, rfl, h3, rfl⟩ := h
    obtain ⟨x0, rfl⟩ := w_u (N := 4294967295) ⟨rfl, rfl⟩ Tryz.underlying78 h0
    obtain ⟨x1, rfl⟩ := w_u (N := 255) ⟨rfl, rfl⟩ Tryz.underlying5 h1
    obtain ⟨x2, rfl, q2⟩ := w_i64 Tryz.underlying3 h2
    obtain ⟨x3, rfl, q3⟩ := w_i64 Tryz.underlying3 h3
    exact ⟨⟨x0, x1, x2, x3⟩, rfl, ⟨q2, q3⟩⟩
def VRoom.bg (x : VRoom) : Prop := LB x.name.size ∧ iR x.seats ∧ (LB x.shut.length ∧ ∀ y ∈ x.shut, y.bg)
theorem w_Room {n : Nat} {ds : List PDV} (h : wt Tryz.prog n 107 ds) : ∃ x : VRoom, ds = x.P.cells ∧ x.bg := by
  cases n with
  | zero => simp [wt] at h
  | succ n =>
    simp only [wt, Tryz.underlying107, Tiled] at h
    obtain ⟨a0, b0, rfl, h0, a1, b1, rfl, h1, a2, b2, rfl, h2, a3, b3, rfl, h3, rfl⟩ := h
    obtain ⟨x0, rfl, q0⟩ := w_str Tryz.underlying9 h0
    obtain ⟨x1, rfl, q1⟩ := w_i64 Tryz.underlying3 h1
    obtain ⟨x2, rfl⟩ := w_u (N := 65535) ⟨rfl, rfl⟩ Tryz.underlying83 h2
    obtain ⟨x3, rfl, q3⟩ := w_ls (f := VWhen.P) (R := VWhen.bg) Tryz.underlying105 (by kernel_rfl) (fun m c hc => by obtain ⟨y, hy, hr⟩ := w_When hc; exact ⟨y, by rw [hy]; rfl, hr⟩) h3
    exact ⟨⟨x0, x1, x2, x3⟩, rfl, ⟨q0, q1, q3⟩⟩
def VPerson.bg (x : VPerson) : Prop := LB x.name.size ∧ (LB x.away.length ∧ ∀ y ∈ x.away, y.bg)
theorem w_Person {n : Nat} {ds : List PDV} (h : wt Tryz.prog n 109 ds) : ∃ x : VPerson, ds = x.P.cells ∧ x.bg := by
  cases n with
  | zero => simp [wt] at h
  | succ n =>
    simp only [wt, Tryz.underlying109, Tiled] at h
    obtain ⟨a0, b0, rfl, h0, a1, b1, rfl, h1, rfl⟩ := h
    obtain ⟨x0, rfl, q0⟩ := w_str Tryz.underlying9 h0
    obtain ⟨x1, rfl, q1⟩ := w_ls (f := VWhen.P) (R := VWhen.bg) Tryz.underlying105 (by kernel_rfl) (fun m c hc => by obtain ⟨y, hy, hr⟩ := w_When hc; exact ⟨y, by rw [hy]; rfl, hr⟩) h1
    exact ⟨⟨x0, x1⟩, rfl, ⟨q0, q1⟩⟩
def VTime.bg (x : VTime) : Prop := x.when.bg ∧ iR x.cost
theorem w_Time {n : Nat} {ds : List PDV} (h : wt Tryz.prog n 82 ds) : ∃ x : VTime, ds = x.P.cells ∧ x.bg := by
  cases n with
  | zero => simp [wt] at h
  | succ n =>
    simp only [wt, Tryz.underlying82, Tiled] at h
    obtain ⟨a0, b0, rfl, h0, a1, b1, rfl, h1, rfl⟩ := h
    obtain ⟨x0, rfl, q0⟩ := w_When h0
    obtain ⟨x1, rfl, q1⟩ := w_i64 Tryz.underlying3 h1
    exact ⟨⟨x0, x1⟩, rfl, ⟨q0, q1⟩⟩
def VPlace.bg (x : VPlace) : Prop := iR x.room ∧ iR x.cost
theorem w_Place {n : Nat} {ds : List PDV} (h : wt Tryz.prog n 160 ds) : ∃ x : VPlace, ds = x.P.cells ∧ x.bg := by
  cases n with
  | zero => simp [wt] at h
  | succ n =>
    simp only [wt, Tryz.underlying160, Tiled] at h
    obtain ⟨a0, b0, rfl, h0, a1, b1, rfl, h1, rfl⟩ := h
    obtain ⟨x0, rfl, q0⟩ := w_i64 Tryz.underlying3 h0
    obtain ⟨x1, rfl, q1⟩ := w_i64 Tryz.underlying3 h1
    exact ⟨⟨x0, x1⟩, rfl, ⟨q0, q1⟩⟩
def VClass.bg (x : VClass) : Prop := LB x.name.size ∧ iR x.seats ∧ bgL x.persons ∧ (LB x.times.length ∧ ∀ y ∈ x.times, y.bg) ∧ (LB x.places.length ∧ ∀ y ∈ x.places, y.bg) ∧ iR x.over
theorem w_Class {n : Nat} {ds : List PDV} (h : wt Tryz.prog n 87 ds) : ∃ x : VClass, ds = x.P.cells ∧ x.bg := by
  cases n with
  | zero => simp [wt] at h
  | succ n =>
    simp only [wt, Tryz.underlying87, Tiled] at h
    obtain ⟨a0, b0, rfl, h0, a1, b1, rfl, h1, a2, b2, rfl, h2, a3, b3, rfl, h3, a4, b4, rfl, h4, a5, b5, rfl, h5, a6, b6, rfl, h6, rfl⟩ := h
    obtain ⟨x0, rfl, q0⟩ := w_str Tryz.underlying9 h0
    obtain ⟨x1, rfl, q1⟩ := w_i64 Tryz.underlying3 h1
    obtain ⟨x2, rfl⟩ := w_u (N := 65535) ⟨rfl, rfl⟩ Tryz.underlying83 h2
    obtain ⟨x3, rfl, q3⟩ := w_li h3
    obtain ⟨x4, rfl, q4⟩ := w_ls (f := VTime.P) (R := VTime.bg) Tryz.underlying84 (by kernel_rfl) (fun m c hc => by obtain ⟨y, hy, hr⟩ := w_Time hc; exact ⟨y, by rw [hy]; rfl, hr⟩) h4
    obtain ⟨x5, rfl, q5⟩ := w_ls (f := VPlace.P) (R := VPlace.bg) Tryz.underlying85 (by kernel_rfl) (fun m c hc => by obtain ⟨y, hy, hr⟩ := w_Place hc; exact ⟨y, by rw [hy]; rfl, hr⟩) h5
    obtain ⟨x6, rfl, q6⟩ := w_i64 Tryz.underlying3 h6
    exact ⟨⟨x0, x1, x2, x3, x4, x5, x6⟩, rfl, ⟨q0, q1, q3, q4, q5, q6⟩⟩
def VWay.bg (x : VWay) : Prop := bgLL x.parts
theorem w_Way {n : Nat} {ds : List PDV} (h : wt Tryz.prog n 67 ds) : ∃ x : VWay, ds = x.P.cells ∧ x.bg := by
  cases n with
  | zero => simp [wt] at h
  | succ n =>
    simp only [wt, Tryz.underlying67, Tiled] at h
    obtain ⟨a0, b0, rfl, h0, rfl⟩ := h
    obtain ⟨x0, rfl, q0⟩ := w_lli h0
    exact ⟨⟨x0⟩, rfl, q0⟩
def VCourse.bg (x : VCourse) : Prop := LB x.name.size ∧ (LB x.ways.length ∧ ∀ y ∈ x.ways, y.bg)
theorem w_Course {n : Nat} {ds : List PDV} (h : wt Tryz.prog n 65 ds) : ∃ x : VCourse, ds = x.P.cells ∧ x.bg := by
  cases n with
  | zero => simp [wt] at h
  | succ n =>
    simp only [wt, Tryz.underlying65, Tiled] at h
    obtain ⟨a0, b0, rfl, h0, a1, b1, rfl, h1, rfl⟩ := h
    obtain ⟨x0, rfl, q0⟩ := w_str Tryz.underlying9 h0
    obtain ⟨x1, rfl, q1⟩ := w_ls (f := VWay.P) (R := VWay.bg) Tryz.underlying63 (by kernel_rfl) (fun m c hc => by obtain ⟨y, hy, hr⟩ := w_Way hc; exact ⟨y, by rw [hy]; rfl, hr⟩) h1
    exact ⟨⟨x0, x1⟩, rfl, ⟨q0, q1⟩⟩
def VStudent.bg (x : VStudent) : Prop := LB x.name.size ∧ bgL x.courses
theorem w_Student {n : Nat} {ds : List PDV} (h : wt Tryz.prog n 111 ds) : ∃ x : VStudent, ds = x.P.cells ∧ x.bg := by
  cases n with
  | zero => simp [wt] at h
  | succ n =>
    simp only [wt, Tryz.underlying111, Tiled] at h
    obtain ⟨a0, b0, rfl, h0, a1, b1, rfl, h1, rfl⟩ := h
    obtain ⟨x0, rfl, q0⟩ := w_str Tryz.underlying9 h0
    obtain ⟨x1, rfl, q1⟩ := w_li h1
    exact ⟨⟨x0, x1⟩, rfl, ⟨q0, q1⟩⟩
def VRule.bg (x : VRule) : Prop := iR x.kind ∧ bgL x.classes ∧ iR x.a ∧ iR x.b ∧ iR x.cost
theorem w_Rule {n : Nat} {ds : List PDV} (h : wt Tryz.prog n 114 ds) : ∃ x : VRule, ds = x.P.cells ∧ x.bg := by
  cases n with
  | zero => simp [wt] at h
  | succ n =>
    simp only [wt, Tryz.underlying114, Tiled] at h
    obtain ⟨a0, b0, rfl, h0, a1, b1, rfl, h1, a2, b2, rfl, h2, a3, b3, rfl, h3, a4, b4, rfl, h4, a5, b5, rfl, h5, rfl⟩ := h
    obtain ⟨x0, rfl, q0⟩ := w_i64 Tryz.underlying112 h0
    obtain ⟨x1, rfl, q1⟩ := w_li h1
    obtain ⟨x2, rfl, q2⟩ := w_i64 Tryz.underlying3 h2
    obtain ⟨x3, rfl, q3⟩ := w_i64 Tryz.underlying3 h3
    obtain ⟨x4, rfl⟩ := w_bool Tryz.underlying4 h4
    obtain ⟨x5, rfl, q5⟩ := w_i64 Tryz.underlying3 h5
    exact ⟨⟨x0, x1, x2, x3, x4, x5⟩, rfl, ⟨q0, q1, q2, q3, q5⟩⟩
def VWeigh.bg (x : VWeigh) : Prop := iR x.time ∧ iR x.place ∧ iR x.rule ∧ iR x.clash
theorem w_Weigh {n : Nat} {ds : List PDV} (h : wt Tryz.prog n 32 ds) : ∃ x : VWeigh, ds = x.P.cells ∧ x.bg := by
  cases n with
  | zero => simp [wt] at h
  | succ n =>
    simp only [wt, Tryz.underlying32, Tiled] at h
    obtain ⟨a0, b0, rfl, h0, a1, b1, rfl, h1, a2, b2, rfl, h2, a3, b3, rfl, h3, rfl⟩ := h
    obtain ⟨x0, rfl, q0⟩ := w_i64 Tryz.underlying3 h0
    obtain ⟨x1, rfl, q1⟩ := w_i64 Tryz.underlying3 h1
    obtain ⟨x2, rfl, q2⟩ := w_i64 Tryz.underlying3 h2
    obtain ⟨x3, rfl, q3⟩ := w_i64 Tryz.underlying3 h3
    exact ⟨⟨x0, x1, x2, x3⟩, rfl, ⟨q0, q1, q2, q3⟩⟩
def VProblem.bg (x : VProblem) : Prop := LB x.name.size ∧ x.grid.bg ∧ (LB x.rooms.length ∧ ∀ y ∈ x.rooms, y.bg) ∧ bgLL x.walk ∧ (LB x.persons.length ∧ ∀ y ∈ x.persons, y.bg) ∧ (LB x.classes.length ∧ ∀ y ∈ x.classes, y.bg) ∧ (LB x.courses.length ∧ ∀ y ∈ x.courses, y.bg) ∧ (LB x.students.length ∧ ∀ y ∈ x.students, y.bg) ∧ (LB x.rules.length ∧ ∀ y ∈ x.rules, y.bg) ∧ x.weigh.bg
theorem w_Problem {n : Nat} {ds : List PDV} (h : wt Tryz.prog n 34 ds) : ∃ x : VProblem, ds = x.P.cells ∧ x.bg := by
  cases n with
  | zero => simp [wt] at h
  | succ n =>
    simp only [wt, Tryz.underlying34, Tiled] at h
    obtain ⟨a0, b0, rfl, h0, a1, b1, rfl, h1, a2, b2, rfl, h2, a3, b3, rfl, h3, a4, b4, rfl, h4, a5, b5, rfl, h5, a6, b6, rfl, h6, a7, b7, rfl, h7, a8, b8, rfl, h8, a9, b9, rfl, h9, rfl⟩ := h
    obtain ⟨x0, rfl, q0⟩ := w_str Tryz.underlying9 h0
    obtain ⟨x1, rfl, q1⟩ := w_Grid h1
    obtain ⟨x2, rfl, q2⟩ := w_ls (f := VRoom.P) (R := VRoom.bg) Tryz.underlying24 (by kernel_rfl) (fun m c hc => by obtain ⟨y, hy, hr⟩ := w_Room hc; exact ⟨y, by rw [hy]; rfl, hr⟩) h2
    obtain ⟨x3, rfl, q3⟩ := w_lli h3
    obtain ⟨x4, rfl, q4⟩ := w_ls (f := VPerson.P) (R := VPerson.bg) Tryz.underlying26 (by kernel_rfl) (fun m c hc => by obtain ⟨y, hy, hr⟩ := w_Person hc; exact ⟨y, by rw [hy]; rfl, hr⟩) h4
    obtain ⟨x5, rfl, q5⟩ := w_ls (f := VClass.P) (R := VClass.bg) Tryz.underlying27 (by kernel_rfl) (fun m c hc => by obtain ⟨y, hy, hr⟩ := w_Class hc; exact ⟨y, by rw [hy]; rfl, hr⟩) h5
    obtain ⟨x6, rfl, q6⟩ := w_ls (f := VCourse.P) (R := VCourse.bg) Tryz.underlying28 (by kernel_rfl) (fun m c hc => by obtain ⟨y, hy, hr⟩ := w_Course hc; exact ⟨y, by rw [hy]; rfl, hr⟩) h6
    obtain ⟨x7, rfl, q7⟩ := w_ls (f := VStudent.P) (R := VStudent.bg) Tryz.underlying29 (by kernel_rfl) (fun m c hc => by obtain ⟨y, hy, hr⟩ := w_Student hc; exact ⟨y, by rw [hy]; rfl, hr⟩) h7
    obtain ⟨x8, rfl, q8⟩ := w_ls (f := VRule.P) (R := VRule.bg) Tryz.underlying30 (by kernel_rfl) (fun m c hc => by obtain ⟨y, hy, hr⟩ := w_Rule hc; exact ⟨y, by rw [hy]; rfl, hr⟩) h8
    obtain ⟨x9, rfl, q9⟩ := w_Weigh h9
    exact ⟨⟨x0, x1, x2, x3, x4, x5, x6, x7, x8, x9⟩, rfl, ⟨q0, q1, q2, q3, q4, q5, q6, q7, q8, q9⟩⟩
def VSeat.bg (x : VSeat) : Prop := iR x.time ∧ iR x.place
theorem w_Seat {n : Nat} {ds : List PDV} (h : wt Tryz.prog n 70 ds) : ∃ x : VSeat, ds = x.P.cells ∧ x.bg := by
  cases n with
  | zero => simp [wt] at h
  | succ n =>
    simp only [wt, Tryz.underlying70, Tiled] at h
    obtain ⟨a0, b0, rfl, h0, a1, b1, rfl, h1, rfl⟩ := h
    obtain ⟨x0, rfl, q0⟩ := w_i64 Tryz.underlying3 h0
    obtain ⟨x1, rfl, q1⟩ := w_i64 Tryz.underlying3 h1
    exact ⟨⟨x0, x1⟩, rfl, ⟨q0, q1⟩⟩
def VLoad.bg (x : VLoad) : Prop := bgLL x.classes
theorem w_Load {n : Nat} {ds : List PDV} (h : wt Tryz.prog n 44 ds) : ∃ x : VLoad, ds = x.P.cells ∧ x.bg := by
  cases n with
  | zero => simp [wt] at h
  | succ n =>
    simp only [wt, Tryz.underlying44, Tiled] at h
    obtain ⟨a0, b0, rfl, h0, rfl⟩ := h
    obtain ⟨x0, rfl, q0⟩ := w_lli h0
    exact ⟨⟨x0⟩, rfl, q0⟩
theorem w_seats {n : Nat} {ds : List PDV} (h : wt Tryz.prog n 35 ds) : ∃ l : List VSeat, ds = [.lst (l.map VSeat.P)] ∧ LB l.length ∧ ∀ y ∈ l, y.bg :=
  w_ls Tryz.underlying35 (by kernel_rfl) (fun m c hc => by obtain ⟨y, hy, hr⟩ := w_Seat hc; exact ⟨y, by rw [hy]; rfl, hr⟩) h
end Go.Proofs.YtddmnddocbmjnaaGreat.Dv
namespace Go.Proofs.YtddmnddocbmjnaaGreat.Dv
theorem bg_courses {p : VProblem} (h : p.bg) : ∀ c ∈ p.courses, c.ways.length ≤ 140737488351232 ∧ ∀ w ∈ c.ways, w.parts.length ≤ 140737488351232 := by
  obtain ⟨_, _, _, _, _, _, ⟨_, h⟩, _⟩ := h
  intro c hc
  obtain ⟨_, h1, h2⟩ := h c hc
  exact ⟨h1, fun w hw => (h2 w hw).1⟩
theorem few_sum {p : VProblem} (h : p.bg) {l : List VSeat} (hf : fewB p l = true) : fewN p ≤ 3000 ∧ fewL p ∧ p.classes.length ≤ 8 ∧ p.students.length ≤ 10 ∧ p.courses.length ≤ 6 ∧ l.length ≤ 20 ∧ ∀ c ∈ p.courses, c.ways.length ≤ 3 ∧ ∀ w ∈ c.ways, w.parts.length ≤ 3 := by
  simp only [fewB, FewB, Bool.and_eq_true, decide_eq_true_eq, List.all_eq_true, couS] at hf
  obtain ⟨⟨⟨⟨⟨⟨hL, hw⟩, k1⟩, k2⟩, k3⟩, k4⟩, hc⟩ := hf
  refine ⟨?_, hL, k1, k2, k3, k4, hc⟩
  obtain ⟨l0, l1, l2, l3, l4, l5, l6⟩ := hL
  obtain ⟨_, _, ⟨_, b0⟩, ⟨_, b1⟩, ⟨_, b2⟩, ⟨_, b3⟩, ⟨_, b4⟩, ⟨_, b5⟩, ⟨_, b6⟩, _⟩ := h
  have s0 := sumL_le (f := fun x : VRoom => x.shut.length) (b := 140737488351232) (l := p.rooms) (fun x hx => (b0 x hx).2.2.1)
  have s1 := sumL_le (f := List.length) (b := 140737488351232) (l := p.walk) (fun x hx => (b1 x hx).1)
  have s2 := sumL_le (f := fun x : VPerson => x.away.length) (b := 140737488351232) (l := p.persons) (fun x hx => (b2 x hx).2.1)
  have s3 := sumL_le (f := claN) (b := 422212465053696) (l := p.classes) (fun x hx => by
    obtain ⟨_, _, ⟨q1, _⟩, ⟨q2, _⟩, ⟨q3, _⟩, _⟩ := b3 x hx
    unfold LB at q1 q2 q3
    unfold claN
    omega)
  have s5 := sumL_le (f := fun x : VStudent => x.courses.length) (b := 140737488351232) (l := p.students) (fun x hx => (b5 x hx).2.1)
  have s6 := sumL_le (f := fun x : VRule => x.classes.length) (b := 140737488351232) (l := p.rules) (fun x hx => (b6 x hx).2.1.1)
  have s4 := sumL_le (f := couN) (b := 1407374883512320) (l := p.courses) (fun x hx => by
    obtain ⟨q1, q2⟩ := hc x hx
    have := sumL_le (f := wayN) (b := 422212465053700) (l := x.ways) (fun w hw => by
      have q3 := q2 w hw
      have := sumL_le (f := List.length) (b := 140737488351232) (l := w.parts) (fun r hr => (((b4 x hx).2.2 w hw).2 r hr).1)
      unfold wayN
      omega)
    unfold couN
    omega)
  rw [wrap_id (by omega) (by unfold fewN; omega)] at hw
  omega
theorem few_sm {p : VProblem} (h : p.bg) {l : List VSeat} (hf : fewB p l = true) : smP p ∧ l.length ≤ 20 := by
  obtain ⟨hN, hL, k1, k2, k3, k4, hc⟩ := few_sum h hf
  obtain ⟨l0, l1, l2, l3, l4, l5, l6⟩ := hL
  obtain ⟨_, _, _, _, _, _, _, _, ⟨_, b6⟩, _⟩ := h
  unfold fewN at hN
  refine ⟨⟨⟨by omega, fun x hx => ?_⟩, ⟨by omega, fun x hx => ?_⟩, ⟨by omega, fun x hx => ?_⟩, ⟨by omega, fun x hx => ?_⟩, ⟨by omega, fun x hx => ?_⟩, ⟨by omega, fun x hx => ?_⟩⟩, k4⟩
  · have := sumL_mem (f := fun x : VRoom => x.shut.length) hx
    omega
  · have := sumL_mem (f := fun x : VPerson => x.away.length) hx
    omega
  · have := sumL_mem (f := claN) hx
    have e : claN x = x.persons.length + x.times.length + x.places.length := rfl
    unfold smC
    omega
  · have h1 := sumL_mem (f := couN) hx
    have e1 : couN x = x.ways.length + sumL wayN x.ways := rfl
    refine ⟨by omega, fun w hw => ?_⟩
    have h2 := sumL_mem (f := wayN) hw
    have e2 : wayN w = w.parts.length + sumL List.length w.parts := rfl
    refine ⟨by omega, fun r hr => ?_⟩
    have h3 := sumL_mem (f := List.length) hr
    omega
  · have := sumL_mem (f := fun x : VStudent => x.courses.length) hx
    omega
  · have := sumL_mem (f := fun x : VRule => x.classes.length) hx
    obtain ⟨q1, _⟩ := b6 x hx
    exact ⟨by omega, q1.1, q1.2⟩
end Go.Proofs.YtddmnddocbmjnaaGreat.Dv
namespace Go.Proofs.YtddmnddocbmjnaaGreat.Dv
theorem heads_true : callP Tryz.prog G0 60 10 [] = some (.s (.bool true)) := by kernel_rfl
end Go.Proofs.YtddmnddocbmjnaaGreat.Dv
namespace Go.Proofs.YtddmnddocbmjnaaGreat.Dv
end Go.Proofs.YtddmnddocbmjnaaGreat.Dv
namespace Go.Proofs.YtddmnddocbmjnaaGreat.Dv
theorem q_law43_heads {fn : FuncId} {xs : List DV} {dst : Option Nat} {id : Nat} {s : St} : mCall G0 fn (callR Tryz.prog G0) 10 xs dst id s = mRes Tryz.prog G0 10 dst s (snaps s.h xs) := mCall_pure rfl
theorem res_callP {P : Program} {G : Cfg} {k : Nat} {f : FuncId} {ps : List PDV} {q : PDV} (h : callP P G k f ps = some q) : res P G f ps = some q := by
  unfold callP at h
  split at h
  · rename_i r h' n' hc
    unfold res
    rw [callR_of P G hc]
    exact h
  · cases h
theorem heads_res : res Tryz.prog G0 10 [] = some (B true) := res_callP heads_true
theorem short_S {w : List VLoad} (h : shortB w = true) : (∀ x ∈ w, loadS x) ∧ w.length ≤ 12 := by
  simp only [shortB, Bool.and_eq_true, decide_eq_true_eq, List.all_eq_true, shortX] at h
  exact ⟨fun x hx => h.2 x hx, h.1⟩
theorem wtV_t {P : Program} {t : TypeId} {x : PDV} (h : wtV P t x) (ha : aggT P t = some true) : ∃ c, x = .agg c ∧ wt P 12 t c := by
  rcases h with ⟨_, h⟩ | ⟨h, _⟩
  · exact h
  · rw [ha] at h; cases h
theorem wtV_f {P : Program} {t : TypeId} {x : PDV} (h : wtV P t x) (ha : aggT P t = some false) : wt P 12 t [x] := by
  rcases h with ⟨h, _⟩ | ⟨_, h⟩
  · rw [ha] at h; cases h
  · exact h
end Go.Proofs.YtddmnddocbmjnaaGreat.Dv
