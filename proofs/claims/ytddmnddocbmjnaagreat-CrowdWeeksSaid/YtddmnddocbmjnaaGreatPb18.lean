/- Part 18 of the proof: CrowdWeeks: whatever plain data comes in, the call returns true and leaves its arguments as they were. No condition. -/
import Derived.Test.YtddmnddocbmjnaaGreatPb17
import Derived.KernelRfl
set_option linter.all false
set_option linter.unusedVariables false
set_option linter.unusedSectionVars false
set_option linter.unusedSimpArgs false
namespace Go.Proofs.YtddmnddocbmjnaaGreat.Dv
def m_class_Seat : MF := ⟨29, (.seq (.reg none [Oo 2 (.box (.t 0)), Oo 3 (.box (.t 1)), Oo 4 (.mov (.d (.p (.s (.bool false)))))]) (.seq (.reg none [Of 5 0 3, Ol 6 5, Oo 7 (.iop .geq (.t 6) (.d (Ci (-1)))), Om 8 7, Og 9 8 true (.fadr 0 (.t 3)), Og 10 8 true (.load false 1 (.t 9)), Og 11 8 true (.fadr 4 (.t 2)), Og 12 8 true (.load false 1 (.t 11)), Og 13 8 true (.lenL (.t 12)), Og 14 8 true (.iop .lss (.t 10) (.t 13)), Oo 15 (.pick (.t 8) (.t 14) (.d (.p (.s (.bool false))))), Om 16 15, Og 17 16 true (.fadr 1 (.t 3)), Og 18 16 true (.load false 1 (.t 17)), Og 19 16 true (.iop .geq (.t 18) (.d (Ci (-1)))), Oo 20 (.pick (.t 16) (.t 19) (.d (.p (.s (.bool false))))), Om 21 20, Og 22 21 true (.fadr 1 (.t 3)), Og 23 21 true (.load false 1 (.t 22)), Og 24 21 true (.fadr 5 (.t 2)), Og 25 21 true (.load false 1 (.t 24)), Og 26 21 true (.lenL (.t 25)), Og 27 21 true (.iop .lss (.t 23) (.t 26)), Oo 28 (.pick (.t 21) (.t 27) (.d (.p (.s (.bool false))))), Om 4 28]) .ret)), [.tmp 4]⟩
theorem c_class_Seat : comp Tryz.prog G0 77 = some m_class_Seat := by kernel_rfl
theorem k_class_Seat : callable Tryz.prog 77 = true := by kernel_rfl
def m_ref13_Seat : MF := ⟨29, (.seq (.reg none [Oo 2 (.box (.t 0)), Oo 3 (.box (.t 1)), Oo 4 (.mov (.d (.p (.s (.bool false)))))]) (.seq (.reg none [Of 5 0 3, Ol 6 5, Oo 7 (.iop .geq (.t 6) (.d (Ci (-1)))), Om 8 7, Og 9 8 true (.fadr 0 (.t 3)), Og 10 8 true (.load false 1 (.t 9)), Og 11 8 true (.fadr 4 (.t 2)), Og 12 8 true (.load false 1 (.t 11)), Og 13 8 true (.lenL (.t 12)), Og 14 8 true (.iop .lss (.t 10) (.t 13)), Oo 15 (.pick (.t 8) (.t 14) (.d (.p (.s (.bool false))))), Om 16 15, Og 17 16 true (.fadr 1 (.t 3)), Og 18 16 true (.load false 1 (.t 17)), Og 19 16 true (.iop .geq (.t 18) (.d (Ci (-1)))), Oo 20 (.pick (.t 16) (.t 19) (.d (.p (.s (.bool false))))), Om 21 20, Og 22 21 true (.fadr 1 (.t 3)), Og 23 21 true (.load false 1 (.t 22)), Og 24 21 true (.fadr 5 (.t 2)), Og 25 21 true (.load false 1 (.t 24)), Og 26 21 true (.lenL (.t 25)), Og 27 21 true (.iop .lss (.t 23) (.t 26)), Oo 28 (.pick (.t 21) (.t 27) (.d (.p (.s (.bool false))))), Om 4 28]) .ret)), [.tmp 4]⟩
theorem c_ref13_Seat : comp Tryz.prog G0 82 = some m_ref13_Seat := by kernel_rfl
theorem q_ref13_Seat : Q0 82 := mCall_pure rfl
def m_ref13_Spot : MF := ⟨41, (.seq (.reg none [Oo 2 (.box (.t 0)), Oo 3 (.box (.t 1)), Oo 4 (.alloc [(.p (.s (.int .u32 0))), (.p (.s (.int .u8 0))), (Ci 0), (Ci 0), (Ci 0)]), Oo 5 (.mov (.d (.p (.s (.bool false)))))]) (.seq (.seq (.reg none [Oo 7 (.load true 7 (.t 2)), Oo 8 (.load true 2 (.t 3)), Oo 9 (.call 82 [.t 7, .t 8]), Oo 10 (.un .not (.t 9))]) (.cond (.t 10) (.seq (.reg none [Oo 11 (.bld [(.p (.s (.int .u32 0))), (.p (.s (.int .u8 0))), (Ci 0), (Ci 0), (Ci 0)] []), Ou (.store 5 (.t 4) (.t 11)), Oo 5 (.mov (.d (.p (.s (.bool false)))))]) .ret) .skip)) (.seq (.reg none [Oo 12 (.bld [(.p (.s (.int .u32 0))), (.p (.s (.int .u8 0))), (Ci 0), (Ci 0), (Ci 0)] [(4, 1, (.d (Ci (-1))))]), Oo 6 (.alloc [(.p (.s (.int .u32 0))), (.p (.s (.int .u8 0))), (Ci 0), (Ci 0), (Ci 0)]), Ou (.store 5 (.t 6) (.t 12))]) (.seq (.seq (.reg none [Of 13 0 3, Ol 14 13, Oo 15 (.iop .geq (.t 14) (.d (Ci 0)))]) (.cond (.t 15) (.reg none [Of 16 4 2, Ol 17 16, Of 18 0 3, Ol 19 18, Oo 20 (.iadrS 5 (.t 17) (.t 19)), Of 21 0 20, Oo 22 (.load true 4 (.t 21)), Of 23 0 6, Ou (.store 4 (.t 23) (.t 22))]) .skip)) (.seq (.seq (.reg none [Of 24 1 3, Ol 25 24, Oo 26 (.iop .geq (.t 25) (.d (Ci 0)))]) (.cond (.t 26) (.reg none [Of 27 5 2, Ol 28 27, Of 29 1 3, Ol 30 29, Oo 31 (.iadrS 2 (.t 28) (.t 30)), Of 32 0 31, Ol 33 32, Of 34 4 6, Ou (.store 1 (.t 34) (.t 33))]) (.seq (.reg none [Of 35 5 2, Ol 36 35, Ok 37 36, Oo 38 (.iop .gtr (.t 37) (.d (Ci 0)))]) (.cond (.t 38) (.reg none [Of 39 4 6, Ou (.store 1 (.t 39) (.d (Ci (-2))))]) .skip)))) (.seq (.reg none [Oo 40 (.load true 5 (.t 6)), Ou (.store 5 (.t 4) (.t 40)), Oo 5 (.mov (.d (.p (.s (.bool true)))))]) .ret)))))), [.cell 4 true 5, .tmp 5]⟩
theorem c_ref13_Spot : comp Tryz.prog G0 83 = some m_ref13_Spot := by kernel_rfl
theorem q_ref13_Spot : Q0 83 := mCall_pure rfl
def seatB (c : VClass) (s : VSeat) : Bool := decide (-1 ≤ s.time) && decide (s.time < c.times.length) && decide (-1 ≤ s.place) && decide (s.place < c.places.length)
theorem seat_res (c : VClass) (s : VSeat) : res Tryz.prog G0 77 [c.P, s.P] = some (B (seatB c s)) := by
  refine res_body c_class_Seat (Nat.le_of_ble_eq_true rfl) ?_
  simp only [m_class_Seat, Oo, Ou, Og, Ci, Om, Of, Ol, Ok]
  repeat' (first | simp only [go_sem, Int.reduceLT, Int.reduceLE, Int.reduceNeg, Int.reduceEq, Nat.reduceAdd, Nat.reduceEqDiff, Nat.reduceLeDiff, Nat.reduceBEq, reduceIte, reduceCtorEq] | (with_reducible first | apply c1 | (first | apply c2 | apply c3) <;> (intro hc; simp only [hc]) | (first | apply c4 | apply c5) <;> (intro hc; rw [hc])))
  all_goals (try (rw [s_bool, Bool.eq_iff_iff]; (try simp only [Bool.and_eq_true, Bool.or_eq_true, Bool.and_eq_false_iff, Bool.or_eq_false_iff, Bool.not_eq_true', Bool.not_eq_false', decide_eq_true_eq, decide_eq_false_iff_not, Bool.true_eq_false, Bool.false_eq_true, iff_true, true_iff, iff_false, false_iff, and_true, true_and, and_false, false_and, ne_eq, Decidable.not_not, not_true_eq_false, not_false_eq_true, Int.natCast_eq_zero, seatB] at *); first | done | omega | (simp_all; done) | (simp_all; omega)))
theorem rseat_res (c : VClass) (s : VSeat) : res Tryz.prog G0 82 [c.P, s.P] = some (B (seatB c s)) := by
  refine res_body c_ref13_Seat (Nat.le_of_ble_eq_true rfl) ?_
  simp only [m_ref13_Seat, Oo, Ou, Og, Ci, Om, Of, Ol, Ok]
  repeat' (first | simp only [go_sem, Int.reduceLT, Int.reduceLE, Int.reduceNeg, Int.reduceEq, Nat.reduceAdd, Nat.reduceEqDiff, Nat.reduceLeDiff, Nat.reduceBEq, reduceIte, reduceCtorEq] | (with_reducible first | apply c1 | (first | apply c2 | apply c3) <;> (intro hc; simp only [hc]) | (first | apply c4 | apply c5) <;> (intro hc; rw [hc])))
  all_goals (try (rw [s_bool, Bool.eq_iff_iff]; (try simp only [Bool.and_eq_true, Bool.or_eq_true, Bool.and_eq_false_iff, Bool.or_eq_false_iff, Bool.not_eq_true', Bool.not_eq_false', decide_eq_true_eq, decide_eq_false_iff_not, Bool.true_eq_false, Bool.false_eq_true, iff_true, true_iff, iff_false, false_iff, and_true, true_and, and_false, false_and, ne_eq, Decidable.not_not, not_true_eq_false, not_false_eq_true, Int.natCast_eq_zero, seatB] at *); first | done | omega | (simp_all; done) | (simp_all; omega)))
def spotV (c : VClass) (s : VSeat) : VSpot := if seatB c s then ⟨if 0 ≤ s.time then ((c.times[s.time.toNat]?).map VTime.when).getD ⟨0, 0, 0, 0⟩ else ⟨0, 0, 0, 0⟩, if 0 ≤ s.place then ((c.places[s.place.toNat]?).map VPlace.room).getD 0 else if c.places.length = 0 then -1 else -2⟩ else ⟨⟨0, 0, 0, 0⟩, 0⟩
theorem when_cells (w : VWhen) : DV.cells (.p w.P) = [.p (.s (.int .u32 (w.weeks.val : Int))), .p (.s (.int .u8 (w.days.val : Int))), .p (I w.start), .p (I w.len)] := rfl
theorem rspot_res (c : VClass) (s : VSeat) : res Tryz.prog G0 83 [c.P, s.P] = some (.tup [(spotV c s).P, B (seatB c s)]) := by
  refine res_body c_ref13_Spot (Nat.le_of_ble_eq_true rfl) ?_
  simp only [m_ref13_Spot, Oo, Ou, Og, Ci, Om, Of, Ol, Ok]
  cases hs : seatB c s with
  | false =>
    repeat' (first | simp only [go_sem, Int.reduceLT, Int.reduceLE, Int.reduceNeg, Int.reduceEq, Nat.reduceAdd, Nat.reduceEqDiff, Nat.reduceLeDiff, Nat.reduceBEq, reduceIte, reduceCtorEq, q_ref13_Seat, rseat_res, hs] | (with_reducible first | apply c1 | (first | apply c2 | apply c3) <;> (intro hc; simp only [hc]) | (first | apply c4 | apply c5) <;> (intro hc; rw [hc])))
    all_goals (simp [spotV, hs, VSpot.P])
  | true =>
    have hs' := hs
    simp only [seatB, Bool.and_eq_true, decide_eq_true_eq] at hs'
    obtain ⟨⟨⟨a1, a2⟩, a3⟩, a4⟩ := hs'
    have ht : (s.time = -1) ∨ ∃ (i : Nat) (tm : VTime), s.time = (i : Int) ∧ c.times[i]? = some tm := by
      by_cases h : s.time < 0
      · left; omega
      · obtain ⟨i, hi⟩ := Int.eq_ofNat_of_zero_le (show 0 ≤ s.time by omega)
        exact .inr ⟨i, c.times[i]'(by omega), hi, List.getElem?_eq_getElem (by omega)⟩
    have hp : (s.place = -1 ∧ c.places.length = 0) ∨ (s.place = -1 ∧ ¬ c.places.length = 0) ∨ ∃ (i : Nat) (pl : VPlace), s.place = (i : Int) ∧ c.places[i]? = some pl := by
      by_cases h : s.place < 0
      · by_cases h0 : c.places.length = 0
        · left; exact ⟨by omega, h0⟩
        · right; left; exact ⟨by omega, h0⟩
      · obtain ⟨i, hi⟩ := Int.eq_ofNat_of_zero_le (show 0 ≤ s.place by omega)
        exact .inr (.inr ⟨i, c.places[i]'(by omega), hi, List.getElem?_eq_getElem (by omega)⟩)
    rcases ht with ht | ⟨i, tm, ht, hti⟩
    · rcases hp with ⟨hp, hp0⟩ | ⟨hp, hp0⟩ | ⟨j, pl, hp, hpj⟩
      · repeat' (first | simp only [go_sem, Int.reduceLT, Int.reduceLE, Int.reduceNeg, Int.reduceEq, Nat.reduceAdd, Nat.reduceEqDiff, Nat.reduceLeDiff, Nat.reduceBEq, reduceIte, reduceCtorEq, q_ref13_Seat, rseat_res, hs, ht, hp, when_cells, show decide ((0 : Int) < (c.places.length : Int)) = false by (simp only [decide_eq_false_iff_not]; omega)] | (with_reducible first | apply c1 | (first | apply c2 | apply c3) <;> (intro hc; simp only [hc]) | (first | apply c4 | apply c5) <;> (intro hc; rw [hc])))
        all_goals (simp [spotV, hs, ht, hp, hp0, VSpot.P])
      · repeat' (first | simp only [go_sem, Int.reduceLT, Int.reduceLE, Int.reduceNeg, Int.reduceEq, Nat.reduceAdd, Nat.reduceEqDiff, Nat.reduceLeDiff, Nat.reduceBEq, reduceIte, reduceCtorEq, q_ref13_Seat, rseat_res, hs, ht, hp, when_cells, show decide ((0 : Int) < (c.places.length : Int)) = true by (simp only [decide_eq_true_eq]; omega)] | (with_reducible first | apply c1 | (first | apply c2 | apply c3) <;> (intro hc; simp only [hc]) | (first | apply c4 | apply c5) <;> (intro hc; rw [hc])))
        all_goals (simp [spotV, hs, ht, hp, hp0, VSpot.P])
      · repeat' (first | simp only [go_sem, Int.reduceLT, Int.reduceLE, Int.reduceNeg, Int.reduceEq, Nat.reduceAdd, Nat.reduceEqDiff, Nat.reduceLeDiff, Nat.reduceBEq, reduceIte, reduceCtorEq, q_ref13_Seat, rseat_res, hs, ht, hp, hpj, when_cells, show decide ((-1 : Int) < (j : Int)) = true by (simp; omega), show decide ((0 : Int) ≤ (j : Int)) = true by simp] | (with_reducible first | apply c1 | (first | apply c2 | apply c3) <;> (intro hc; simp only [hc]) | (first | apply c4 | apply c5) <;> (intro hc; rw [hc])))
        all_goals (simp [spotV, hs, ht, hp, hpj, VSpot.P])
    · rcases hp with ⟨hp, hp0⟩ | ⟨hp, hp0⟩ | ⟨j, pl, hp, hpj⟩
      · repeat' (first | simp only [go_sem, Int.reduceLT, Int.reduceLE, Int.reduceNeg, Int.reduceEq, Nat.reduceAdd, Nat.reduceEqDiff, Nat.reduceLeDiff, Nat.reduceBEq, reduceIte, reduceCtorEq, q_ref13_Seat, rseat_res, hs, ht, hti, hp, when_cells, show decide ((-1 : Int) < (i : Int)) = true by (simp; omega), show decide ((0 : Int) ≤ (i : Int)) = true by simp, show decide ((0 : Int) < (c.places.length : Int)) = false by (simp only [decide_eq_false_iff_not]; omega)] | (with_reducible first | apply c1 | (first | apply c2 | apply c3) <;> (intro hc; simp only [hc]) | (first | apply c4 | apply c5) <;> (intro hc; rw [hc])))
        all_goals (simp [spotV, hs, ht, hti, hp, hp0, VSpot.P])
      · repeat' (first | simp only [go_sem, Int.reduceLT, Int.reduceLE, Int.reduceNeg, Int.reduceEq, Nat.reduceAdd, Nat.reduceEqDiff, Nat.reduceLeDiff, Nat.reduceBEq, reduceIte, reduceCtorEq, q_ref13_Seat, rseat_res, hs, ht, hti, hp, when_cells, show decide ((-1 : Int) < (i : Int)) = true by (simp; omega), show decide ((0 : Int) ≤ (i : Int)) = true by simp, show decide ((0 : Int) < (c.places.length : Int)) = true by (simp only [decide_eq_true_eq]; omega)] | (with_reducible first | apply c1 | (first | apply c2 | apply c3) <;> (intro hc; simp only [hc]) | (first | apply c4 | apply c5) <;> (intro hc; rw [hc])))
        all_goals (simp [spotV, hs, ht, hti, hp, hp0, VSpot.P])
      · repeat' (first | simp only [go_sem, Int.reduceLT, Int.reduceLE, Int.reduceNeg, Int.reduceEq, Nat.reduceAdd, Nat.reduceEqDiff, Nat.reduceLeDiff, Nat.reduceBEq, reduceIte, reduceCtorEq, q_ref13_Seat, rseat_res, hs, ht, hti, hp, hpj, when_cells, show decide ((-1 : Int) < (i : Int)) = true by (simp; omega), show decide ((-1 : Int) < (j : Int)) = true by (simp; omega), show decide ((0 : Int) ≤ (i : Int)) = true by simp, show decide ((0 : Int) ≤ (j : Int)) = true by simp] | (with_reducible first | apply c1 | (first | apply c2 | apply c3) <;> (intro hc; simp only [hc]) | (first | apply c4 | apply c5) <;> (intro hc; rw [hc])))
        all_goals (simp [spotV, hs, ht, hti, hp, hpj, VSpot.P])
def m_plan_each : MF := ⟨37, (.seq (.reg none [Oo 3 (.box (.t 0)), Oo 6 (.mov (.d (.p (.s (.bool false)))))]) (.seq (.seq (.reg none [Om 9 1, Ok 10 9, Of 11 7 3, Ol 12 11, Ok 13 12, Oo 14 (.iop .neq (.t 10) (.t 13)), Om 15 14, Og 16 15 false (.load true 15 (.t 3)), Og 17 15 false (.call 53 [.t 16]), Og 18 15 false (.un .not (.t 17)), Oo 19 (.pick (.t 15) (.d (.p (.s (.bool true)))) (.t 18))]) (.cond (.t 19) (.seq (.reg none [Oo 6 (.mov (.d (.p (.s (.bool false)))))]) .ret) .skip)) (.seq (.seq (.reg none [Om 20 1, Ok 21 20, Oo 22 (.mov (.d (Ci 0)))]) (.block 0 (.loop (.seq (.reg none [Oo 23 (.iop .lss (.t 22) (.t 21))]) (.seq (.cond (.t 23) .skip (.exit 0)) (.seq (.block 1 (.seq (.reg none [Om 24 22, Oo 25 (.iadrS 2 (.t 20) (.t 22)), Oo 26 (.load true 2 (.t 25)), Oo 8 (.alloc [(Ci 0), (Ci 0)]), Om 7 24, Ou (.store 2 (.t 8) (.t 26))]) (.seq (.reg (some #[0, 0, 2, 0, 14, 30, 0, 127, 255]) [Om 27 2, Of 28 7 3, Ol 29 28, Om 30 7, Oo 31 (.iadrS 7 (.t 29) (.t 30)), Oo 32 (.load true 7 (.t 31)), Oo 33 (.load true 2 (.t 8)), Oo 34 (.callv (.t 27) [.t 32, .t 33]), Oo 35 (.un .not (.t 34))]) (.cond (.t 35) (.seq (.reg none [Oo 6 (.mov (.d (.p (.s (.bool false)))))]) .ret) .skip)))) (.reg none [Oo 36 (.iop .add (.t 22) (.d (Ci 1))), Om 22 36]))))))) (.seq (.reg none [Oo 6 (.mov (.d (.p (.s (.bool true)))))]) .ret)))), [.tmp 6]⟩
theorem c_plan_each : comp Tryz.prog G0 76 = some m_plan_each := by kernel_rfl
theorem q_plan_each : Q0 76 := mCall_pure rfl
def m_plan_Right : MF := ⟨8, (.seq (.reg none [Oo 2 (.box (.t 0)), Oo 4 (.mov (.d (.p (.s (.bool false)))))]) (.seq (.reg none [Oo 5 (.load true 15 (.t 2)), Om 6 1, Oo 7 (.call 76 [.t 5, .t 6, (.d (.p (.s (.func (.func 77) #[] #[]))))]), Om 4 7]) .ret)), [.tmp 4]⟩
theorem c_plan_Right : comp Tryz.prog G0 42 = some m_plan_Right := by kernel_rfl
theorem q_plan_Right : Q0 42 := mCall_pure rfl
def m_ref19_Right : MF := ⟨34, (.seq (.reg none [Oo 2 (.box (.t 0)), Oo 4 (.mov (.d (.p (.s (.bool false)))))]) (.seq (.seq (.reg none [Oo 6 (.load true 15 (.t 2)), Oo 7 (.call 81 [.t 6]), Oo 8 (.un .not (.t 7)), Om 9 8, Og 10 9 false (.mov (.t 1)), Og 11 9 false (.lenL (.t 10)), Og 12 9 false (.fadr 7 (.t 2)), Og 13 9 false (.load false 1 (.t 12)), Og 14 9 false (.lenL (.t 13)), Og 15 9 false (.iop .neq (.t 11) (.t 14)), Oo 16 (.pick (.t 9) (.d (.p (.s (.bool true)))) (.t 15))]) (.cond (.t 16) (.seq (.reg none [Oo 4 (.mov (.d (.p (.s (.bool false)))))]) .ret) .skip)) (.seq (.seq (.reg none [Oo 5 (.mov (.d (Ci 0)))]) (.block 0 (.loop (.seq (.seq (.reg none [Om 17 5, Om 18 1, Ok 19 18, Oo 20 (.iop .lss (.t 17) (.t 19))]) (.cond (.t 20) .skip (.exit 0))) (.seq (.block 1 (.seq (.reg (some #[0, 1, 0, 7, 15, 0, 0, 96, 224, 511, 1023]) [Of 23 7 2, Ol 24 23, Om 25 5, Oo 26 (.iadrS 7 (.t 24) (.t 25)), Oo 27 (.load true 7 (.t 26)), Om 28 1, Om 29 5, Oo 30 (.iadrS 2 (.t 28) (.t 29)), Oo 31 (.load true 2 (.t 30)), Oo 32 (.call 82 [.t 27, .t 31]), Oo 33 (.un .not (.t 32))]) (.cond (.t 33) (.seq (.reg none [Oo 4 (.mov (.d (.p (.s (.bool false)))))]) .ret) .skip))) (.reg none [Om 21 5, Oo 22 (.iop .add (.t 21) (.d (Ci 1))), Om 5 22])))))) (.seq (.reg none [Oo 4 (.mov (.d (.p (.s (.bool true)))))]) .ret)))), [.tmp 4]⟩
theorem c_ref19_Right : comp Tryz.prog G0 48 = some m_ref19_Right := by kernel_rfl
theorem q_ref19_Right : Q0 48 := mCall_pure rfl
def seatsB (cs : List VClass) (l : List VSeat) : Bool := (cs.zip l).all fun x => seatB x.1 x.2
def planB (p : VProblem) (l : List VSeat) : Bool := decide (l.length = p.classes.length) && probB p && seatsB p.classes l
theorem planR_res (p : VProblem) (hp : smP p) (l : List VSeat) (hl : l.length ≤ 1048576) : res Tryz.prog G0 76 [p.P, .lst (l.map VSeat.P), .s (.func (.func 77) #[] #[])] = some (B (planB p l)) := by
  refine res_body c_plan_each (Nat.le_of_ble_eq_true rfl) ?_
  simp only [m_plan_each, Oo, Ou, Og, Ci, Om, Of, Ol, Ok]
  by_cases hlen : l.length = p.classes.length
  case neg =>
    repeat' (first | simp only [go_sem, Int.reduceLT, Int.reduceLE, Int.reduceNeg, Int.reduceEq, Nat.reduceAdd, Nat.reduceEqDiff, Nat.reduceLeDiff, Nat.reduceBEq, reduceIte, reduceCtorEq, show decide ((l.length : Int) ≠ (p.classes.length : Int)) = true by (simp only [decide_eq_true_eq]; omega)] | (with_reducible first | apply c1 | (first | apply c2 | apply c3) <;> (intro hc; simp only [hc]) | (first | apply c4 | apply c5) <;> (intro hc; rw [hc])))
    simp [planB, hlen]
  cases hpr : probB p with
  | false =>
    repeat' (first | simp only [go_sem, Int.reduceLT, Int.reduceLE, Int.reduceNeg, Int.reduceEq, Nat.reduceAdd, Nat.reduceEqDiff, Nat.reduceLeDiff, Nat.reduceBEq, reduceIte, reduceCtorEq, show decide ((l.length : Int) ≠ (p.classes.length : Int)) = false by (simp; omega), q_problem_Right, prob_res p hp, hpr] | (with_reducible first | apply c1 | (first | apply c2 | apply c3) <;> (intro hc; simp only [hc]) | (first | apply c4 | apply c5) <;> (intro hc; rw [hc])))
    simp [planB, hpr]
  | true =>
    repeat' (first | simp only [go_sem, Int.reduceLT, Int.reduceLE, Int.reduceNeg, Int.reduceEq, Nat.reduceAdd, Nat.reduceEqDiff, Nat.reduceLeDiff, Nat.reduceBEq, reduceIte, reduceCtorEq, show decide ((l.length : Int) ≠ (p.classes.length : Int)) = false by (simp; omega), q_problem_Right, prob_res p hp, hpr] | (with_reducible first | apply c1 | (first | apply c2 | apply c3) <;> (intro hc; simp only [hc]) | (first | apply c4 | apply c5) <;> (intro hc; rw [hc])))
    refine X_for 22 l.length (fun i s => s.h.get 0 = some (.cells (DV.cells (.p p.P)) false) ∧ ∀ x ∈ (p.classes.zip l).take i, seatB x.1 x.2 = true) 0 (by omega) ?_ (Nat.zero_le _) ?_ ?_
    · simp only [go_sem, Int.reduceLT, Int.reduceLE, Int.reduceNeg, Int.reduceEq, Nat.reduceAdd, Nat.reduceEqDiff, Nat.reduceLeDiff, Nat.reduceBEq, reduceIte, reduceCtorEq]; rfl
    · exact ⟨by simp only [go_sem, Int.reduceLT, Int.reduceLE, Int.reduceNeg, Int.reduceEq, Nat.reduceAdd, Nat.reduceEqDiff, Nat.reduceLeDiff, Nat.reduceBEq, reduceIte, reduceCtorEq], by simp⟩
    intro i t h nx hf hi0 hi h22 hj
    obtain ⟨hh, hj⟩ := hj
    dsimp only at hh
    have h2 := hf 2 rfl; simp only [PT.get_set, Nat.reduceEqDiff, if_true, if_false, reduceIte, PT.get_leaf] at h2; have h3 := hf 3 rfl; simp only [PT.get_set, Nat.reduceEqDiff, if_true, if_false, reduceIte, PT.get_leaf] at h3; have h20 := hf 20 rfl; simp only [PT.get_set, Nat.reduceEqDiff, if_true, if_false, reduceIte, PT.get_leaf] at h20; have h21 := hf 21 rfl; simp only [PT.get_set, Nat.reduceEqDiff, if_true, if_false, reduceIte, PT.get_leaf] at h21
    clear hf
    rcases Nat.lt_or_ge i l.length with hlt | hge
    · obtain ⟨s, hs, _, _⟩ := get_dec (l := l) (i := i) (by simpa using hlt)
      obtain ⟨c, hc, _, _⟩ := get_dec (l := p.classes) (i := i) (by simp; omega)
      obtain ⟨z, hz, _, htz⟩ := get_dec (l := p.classes.zip l) (i := i) (by simp; omega)
      have hzz : z = (c, s) := by
        rw [List.getElem?_zip_eq_some] at hz
        obtain ⟨h1, h2⟩ := hz
        rw [hc] at h1; rw [hs] at h2
        cases h1; cases h2; rfl
      subst hzz
      have hA := callv_2 (App_fn (P := Tryz.prog) (G := G0) k_class_Seat (fun _ => rfl) (seat_res c s))
      have hdl : decide ((i : Int) < (l.length : Int)) = true := by simpa using hlt
      cases hsb : seatB c s with
      | false =>
        repeat' (first | simp only [go_sem, Int.reduceLT, Int.reduceLE, Int.reduceNeg, Int.reduceEq, Nat.reduceAdd, Nat.reduceEqDiff, Nat.reduceLeDiff, Nat.reduceBEq, reduceIte, reduceCtorEq, h2, h3, h20, h21, h22, hh, hs, hc, hdl, hA, hsb] | (with_reducible first | apply c1 | (first | apply c2 | apply c3) <;> (intro hc; simp only [hc]) | (first | apply c4 | apply c5) <;> (intro hc; rw [hc])))
        have : seatsB p.classes l = false := by
          rw [seatsB, List.all_eq_false]
          exact ⟨(c, s), List.mem_of_getElem? hz, by simp [hsb]⟩
        simp [planB, this]
      | true =>
        repeat' (first | simp only [go_sem, Int.reduceLT, Int.reduceLE, Int.reduceNeg, Int.reduceEq, Nat.reduceAdd, Nat.reduceEqDiff, Nat.reduceLeDiff, Nat.reduceBEq, reduceIte, reduceCtorEq, h2, h3, h20, h21, h22, hh, hs, hc, hdl, hA, hsb] | (with_reducible first | apply c1 | (first | apply c2 | apply c3) <;> (intro hc; simp only [hc]) | (first | apply c4 | apply c5) <;> (intro hc; rw [hc])))
        refine ⟨hlt, ?_⟩
        intro y hy
        rw [htz, List.mem_append, List.mem_singleton] at hy
        rcases hy with hy | rfl
        · exact hj y hy
        · exact hsb
    · rw [List.take_of_length_le (by simp; omega)] at hj
      repeat' (first | simp only [go_sem, Int.reduceLT, Int.reduceLE, Int.reduceNeg, Int.reduceEq, Nat.reduceAdd, Nat.reduceEqDiff, Nat.reduceLeDiff, Nat.reduceBEq, reduceIte, reduceCtorEq, h2, h3, h20, h21, h22, hh, show decide ((i : Int) < (l.length : Int)) = false by simpa using hge] | (with_reducible first | apply c1 | (first | apply c2 | apply c3) <;> (intro hc; simp only [hc]) | (first | apply c4 | apply c5) <;> (intro hc; rw [hc])))
      rw [planB, seatsB, hpr, List.all_eq_true.2 hj]
      simp [hlen]
theorem plan_res (p : VProblem) (hp : smP p) (l : List VSeat) (hl : l.length ≤ 1048576) : res Tryz.prog G0 42 [p.P, .lst (l.map VSeat.P)] = some (B (planB p l)) := by
  refine res_body c_plan_Right (Nat.le_of_ble_eq_true rfl) ?_
  simp only [m_plan_Right, Oo, Ou, Og, Ci, Om, Of, Ol, Ok]
  repeat' (first | simp only [go_sem, Int.reduceLT, Int.reduceLE, Int.reduceNeg, Int.reduceEq, Nat.reduceAdd, Nat.reduceEqDiff, Nat.reduceLeDiff, Nat.reduceBEq, reduceIte, reduceCtorEq, q_plan_each, planR_res p hp l hl] | (with_reducible first | apply c1 | (first | apply c2 | apply c3) <;> (intro hc; simp only [hc]) | (first | apply c4 | apply c5) <;> (intro hc; rw [hc])))
theorem rplan_res (p : VProblem) (hp : smP p) (l : List VSeat) (hl : l.length ≤ 1048576) : res Tryz.prog G0 48 [p.P, .lst (l.map VSeat.P)] = some (B (planB p l)) := by
  refine res_body c_ref19_Right (Nat.le_of_ble_eq_true rfl) ?_
  simp only [m_ref19_Right, Oo, Ou, Og, Ci, Om, Of, Ol, Ok]
  cases hpr : probB p with
  | false =>
    repeat' (first | simp only [go_sem, Int.reduceLT, Int.reduceLE, Int.reduceNeg, Int.reduceEq, Nat.reduceAdd, Nat.reduceEqDiff, Nat.reduceLeDiff, Nat.reduceBEq, reduceIte, reduceCtorEq, q_ref17_Right, rprob_res p hp, hpr] | (with_reducible first | apply c1 | (first | apply c2 | apply c3) <;> (intro hc; simp only [hc]) | (first | apply c4 | apply c5) <;> (intro hc; rw [hc])))
    simp [planB, hpr]
  | true =>
    by_cases hlen : l.length = p.classes.length
    case neg =>
      repeat' (first | simp only [go_sem, Int.reduceLT, Int.reduceLE, Int.reduceNeg, Int.reduceEq, Nat.reduceAdd, Nat.reduceEqDiff, Nat.reduceLeDiff, Nat.reduceBEq, reduceIte, reduceCtorEq, q_ref17_Right, rprob_res p hp, hpr, show decide ((l.length : Int) ≠ (p.classes.length : Int)) = true by (simp only [decide_eq_true_eq]; omega)] | (with_reducible first | apply c1 | (first | apply c2 | apply c3) <;> (intro hc; simp only [hc]) | (first | apply c4 | apply c5) <;> (intro hc; rw [hc])))
      simp [planB, hlen]
    repeat' (first | simp only [go_sem, Int.reduceLT, Int.reduceLE, Int.reduceNeg, Int.reduceEq, Nat.reduceAdd, Nat.reduceEqDiff, Nat.reduceLeDiff, Nat.reduceBEq, reduceIte, reduceCtorEq, q_ref17_Right, rprob_res p hp, hpr, show decide ((l.length : Int) ≠ (p.classes.length : Int)) = false by (simp; omega)] | (with_reducible first | apply c1 | (first | apply c2 | apply c3) <;> (intro hc; simp only [hc]) | (first | apply c4 | apply c5) <;> (intro hc; rw [hc])))
    refine X_for 5 l.length (fun i s => s.h.get 0 = some (.cells (DV.cells (.p p.P)) false) ∧ ∀ x ∈ (p.classes.zip l).take i, seatB x.1 x.2 = true) 0 (by omega) ?_ (Nat.zero_le _) ?_ ?_
    · simp only [go_sem, Int.reduceLT, Int.reduceLE, Int.reduceNeg, Int.reduceEq, Nat.reduceAdd, Nat.reduceEqDiff, Nat.reduceLeDiff, Nat.reduceBEq, reduceIte, reduceCtorEq]; rfl
    · exact ⟨by simp only [go_sem, Int.reduceLT, Int.reduceLE, Int.reduceNeg, Int.reduceEq, Nat.reduceAdd, Nat.reduceEqDiff, Nat.reduceLeDiff, Nat.reduceBEq, reduceIte, reduceCtorEq], by simp⟩
    intro i t h nx hf hi0 hi h5 hj
    obtain ⟨hh, hj⟩ := hj
    dsimp only at hh
    have h1 := hf 1 rfl; simp only [PT.get_set, Nat.reduceEqDiff, if_true, if_false, reduceIte, PT.get_leaf] at h1; have h2 := hf 2 rfl; simp only [PT.get_set, Nat.reduceEqDiff, if_true, if_false, reduceIte, PT.get_leaf] at h2
    clear hf
    rcases Nat.lt_or_ge i l.length with hlt | hge
    · obtain ⟨s, hs, _, _⟩ := get_dec (l := l) (i := i) (by simpa using hlt)
      obtain ⟨c, hc, _, _⟩ := get_dec (l := p.classes) (i := i) (by simp; omega)
      obtain ⟨z, hz, _, htz⟩ := get_dec (l := p.classes.zip l) (i := i) (by simp; omega)
      have hzz : z = (c, s) := by
        rw [List.getElem?_zip_eq_some] at hz
        obtain ⟨h1, h2⟩ := hz
        rw [hc] at h1; rw [hs] at h2
        cases h1; cases h2; rfl
      subst hzz
      have hdl : decide ((i : Int) < (l.length : Int)) = true := by simpa using hlt
      cases hsb : seatB c s with
      | false =>
        repeat' (first | simp only [go_sem, Int.reduceLT, Int.reduceLE, Int.reduceNeg, Int.reduceEq, Nat.reduceAdd, Nat.reduceEqDiff, Nat.reduceLeDiff, Nat.reduceBEq, reduceIte, reduceCtorEq, h1, h2, h5, hh, hs, hc, hdl, q_ref13_Seat, rseat_res, hsb] | (with_reducible first | apply c1 | (first | apply c2 | apply c3) <;> (intro hc; simp only [hc]) | (first | apply c4 | apply c5) <;> (intro hc; rw [hc])))
        have : seatsB p.classes l = false := by
          rw [seatsB, List.all_eq_false]
          exact ⟨(c, s), List.mem_of_getElem? hz, by simp [hsb]⟩
        simp [planB, this]
      | true =>
        repeat' (first | simp only [go_sem, Int.reduceLT, Int.reduceLE, Int.reduceNeg, Int.reduceEq, Nat.reduceAdd, Nat.reduceEqDiff, Nat.reduceLeDiff, Nat.reduceBEq, reduceIte, reduceCtorEq, h1, h2, h5, hh, hs, hc, hdl, q_ref13_Seat, rseat_res, hsb] | (with_reducible first | apply c1 | (first | apply c2 | apply c3) <;> (intro hc; simp only [hc]) | (first | apply c4 | apply c5) <;> (intro hc; rw [hc])))
        refine ⟨hlt, ?_⟩
        intro y hy
        rw [htz, List.mem_append, List.mem_singleton] at hy
        rcases hy with hy | rfl
        · exact hj y hy
        · exact hsb
    · rw [List.take_of_length_le (by simp; omega)] at hj
      repeat' (first | simp only [go_sem, Int.reduceLT, Int.reduceLE, Int.reduceNeg, Int.reduceEq, Nat.reduceAdd, Nat.reduceEqDiff, Nat.reduceLeDiff, Nat.reduceBEq, reduceIte, reduceCtorEq, h1, h2, h5, hh, show decide ((i : Int) < (l.length : Int)) = false by simpa using hge] | (with_reducible first | apply c1 | (first | apply c2 | apply c3) <;> (intro hc; simp only [hc]) | (first | apply c4 | apply c5) <;> (intro hc; rw [hc])))
      rw [planB, seatsB, hpr, List.all_eq_true.2 hj]
      simp [hlen]
def z5 : VSpot := ⟨⟨0, 0, 0, 0⟩, 0⟩
def pspotV (p : VProblem) (l : List VSeat) (c : Int) : VSpot := if 0 ≤ c ∧ c < l.length ∧ planB p l = true then ((p.classes[c.toNat]?).bind fun k => (l[c.toNat]?).map fun s => spotV k s).getD z5 else z5
def pspotB (p : VProblem) (l : List VSeat) (c : Int) : Bool := decide (0 ≤ c) && decide (c < l.length) && planB p l
theorem seats_get {cs : List VClass} {l : List VSeat} (h : seatsB cs l = true) {i : Nat} {c : VClass} {s : VSeat} (hc : cs[i]? = some c) (hs : l[i]? = some s) : seatB c s = true := by
  rw [seatsB, List.all_eq_true] at h
  exact h (c, s) (List.mem_of_getElem? (i := i) (List.getElem?_zip_eq_some.2 ⟨hc, hs⟩))
end Go.Proofs.YtddmnddocbmjnaaGreat.Dv
namespace Go.Proofs.YtddmnddocbmjnaaGreat.Dv
end Go.Proofs.YtddmnddocbmjnaaGreat.Dv
namespace Go.Proofs.YtddmnddocbmjnaaGreat.Dv
def m_ref14_Insert : MF := ⟨36, (.seq (.reg none [Oo 4 (.mov (.d .nil))]) (.seq (.seq (.reg none [Om 6 0, Om 7 1, Oo 8 (.call 41 [.t 6, .t 7])]) (.cond (.t 8) (.seq (.reg none [Om 9 0, Om 4 9]) .ret) .skip)) (.seq (.reg none [Oo 5 (.mov (.d (Ci 0)))]) (.seq (.block 0 (.loop (.seq (.seq (.reg none [Om 10 5, Om 11 0, Ok 12 11, Oo 13 (.iop .lss (.t 10) (.t 12)), Om 14 13, Og 15 14 true (.mov (.t 0)), Og 16 14 true (.mov (.t 5)), Og 17 14 true (.iadrS 1 (.t 15) (.t 16)), Og 18 14 true (.load false 1 (.t 17)), Og 19 14 true (.mov (.t 1)), Og 20 14 true (.iop .lss (.t 18) (.t 19)), Oo 21 (.pick (.t 14) (.t 20) (.d (.p (.s (.bool false)))))]) (.cond (.t 21) .skip (.exit 0))) (.block 1 (.reg none [Om 22 5, Oo 23 (.iop .add (.t 22) (.d (Ci 1))), Om 5 23]))))) (.seq (.reg (some #[0, 0, 0, 6, 15, 0, 32, 127, 0, 0, 768, 2047, 4095]) [Oo 24 (.bldS false none 0 []), Om 25 0, Om 26 5, Oo 27 (.ssl 1 (.t 25) none (some (.t 26)) none), Oo 28 (.app false none 8 (.t 24) (.t 27)), Om 29 1, Oo 30 (.bldS false none 1 [.t 29]), Oo 31 (.app false none 8 (.t 28) (.t 30)), Om 32 0, Om 33 5, Oo 34 (.ssl 1 (.t 32) (some (.t 33)) none none), Oo 35 (.app false none 8 (.t 31) (.t 34)), Om 4 35]) .ret))))), [.tmp 4]⟩
theorem c_ref14_Insert : comp Tryz.prog G0 63 = some m_ref14_Insert := by kernel_rfl
theorem q_ref14_Insert : Q0 63 := mCall_pure rfl
def m_ref42_All : MF := ⟨34, (.seq (.reg none [Oo 1 (.box (.t 0)), Oo 2 (.mov (.d .nil))]) (.seq (.reg none [Oo 3 (.mov (.d .nil))]) (.seq (.seq (.reg none [Oo 4 (.mov (.d (Ci 0)))]) (.block 0 (.loop (.seq (.seq (.reg none [Om 6 4, Of 7 0 1, Ol 8 7, Ok 9 8, Oo 10 (.iop .lss (.t 6) (.t 9))]) (.cond (.t 10) .skip (.exit 0))) (.seq (.block 1 (.seq (.reg none [Oo 5 (.mov (.d (Ci 0)))]) (.block 2 (.loop (.seq (.seq (.reg none [Om 13 5, Of 14 0 1, Ol 15 14, Om 16 4, Oo 17 (.iadrS 1 (.t 15) (.t 16)), Ol 18 17, Ok 19 18, Oo 20 (.iop .lss (.t 13) (.t 19))]) (.cond (.t 20) .skip (.exit 2))) (.seq (.block 3 (.reg none [Om 23 3, Of 24 0 1, Ol 25 24, Om 26 4, Oo 27 (.iadrS 1 (.t 25) (.t 26)), Ol 28 27, Om 29 5, Oo 30 (.iadrS 1 (.t 28) (.t 29)), Ol 31 30, Oo 32 (.call 63 [.t 23, .t 31]), Om 3 32])) (.reg none [Om 21 5, Oo 22 (.iop .add (.t 21) (.d (Ci 1))), Om 5 22]))))))) (.reg none [Om 11 4, Oo 12 (.iop .add (.t 11) (.d (Ci 1))), Om 4 12])))))) (.seq (.reg none [Om 33 3, Om 2 33]) .ret)))), [.tmp 2]⟩
theorem c_ref42_All : comp Tryz.prog G0 34 = some m_ref42_All := by kernel_rfl
theorem q_ref42_All : Q0 34 := mCall_pure rfl
theorem app_ow_e {l : List PDV} {i id : Nat} {h : PT AObj} : appX false none 8 (.ow i l) (.p (.lst [])) h id = some { dv := .ow i l, rd := [], up := [] } := rfl
theorem szOk_I {l : List Int} : szOk 1 (l.map I) = true := by simp [szOk]; intros; rfl
theorem ssl_drop {l : List Int} {i : Nat} : sslX 1 (.p (.lst (l.map I))) (some (.p (.s (.int .i64 (i : Int))))) none none = if i ≤ l.length then some (.p (.lst ((l.drop i).map I))) else none := by
  simp only [sslX, lenAv, bnd, asI]
  rw [if_pos (by omega)]
  simp only [List.length_map, Int.toNat_natCast, Nat.le_refl, and_true, cut, szOk_I, or_true, if_true]
  split
  · rw [List.take_of_length_le (by simp), List.map_drop]
  · rfl
theorem ssl_takeL {l : List Int} {i : Nat} : sslX 1 (.p (.lst (l.map I))) none (some (.p (.s (.int .i64 (i : Int))))) none = if i ≤ l.length then some (.p (.lst ((l.take i).map I))) else none := by
  rw [ssl_take, List.length_map, List.map_take]
theorem put_sorted {l : List Int} {n : Int} {i : Nat} (hs : l.Pairwise (· < ·)) (h1 : ∀ y ∈ l.take i, y < n) (h2 : ∀ y ∈ l.drop i, n < y) : (l.take i ++ [n] ++ l.drop i).Pairwise (· < ·) ∧ ∀ y, y ∈ l.take i ++ [n] ++ l.drop i ↔ y = n ∨ y ∈ l := by
  have hs' := hs
  rw [← List.take_append_drop i l, List.pairwise_append] at hs'
  constructor
  · rw [List.pairwise_append, List.pairwise_append]
    refine ⟨⟨hs'.1, by simp, fun a ha b hb => ?_⟩, hs'.2.1, fun a ha b hb => ?_⟩
    · simp at hb; subst hb; exact h1 a ha
    · rw [List.mem_append, List.mem_singleton] at ha
      rcases ha with ha | rfl
      · exact hs'.2.2 a ha b hb
      · exact h2 b hb
  · intro y
    have : y ∈ l ↔ y ∈ l.take i ∨ y ∈ l.drop i := by rw [← List.mem_append, List.take_append_drop]
    rw [this]
    simp only [List.mem_append, List.mem_singleton]
    constructor
    · rintro ((h | h) | h)
      · exact .inr (.inl h)
      · exact .inl h
      · exact .inr (.inr h)
    · rintro (h | h | h)
      · exact .inl (.inr h)
      · exact .inl (.inl h)
      · exact .inr h
theorem insert_res (l : List Int) (hl : l.length ≤ 1048576) (n : Int) (hs : l.Pairwise (· < ·)) : ∃ q, res Tryz.prog G0 63 [L l, I n] = some q ∧ ∃ k : List Int, q = L k ∧ k.Pairwise (· < ·) ∧ (∀ y, y ∈ k ↔ y = n ∨ y ∈ l) ∧ k.length ≤ l.length + 1 := by
  refine res_ex c_ref14_Insert (Nat.le_of_ble_eq_true rfl) ?_
  simp only [m_ref14_Insert, Oo, Ou, Og, Ci, Om, Of, Ol, Ok]
  cases hmem : memB n l with
  | true =>
    repeat' (first | simp only [go_sem, Int.reduceLT, Int.reduceLE, Int.reduceNeg, Int.reduceEq, Nat.reduceAdd, Nat.reduceEqDiff, Nat.reduceLeDiff, Nat.reduceBEq, reduceIte, reduceCtorEq, q_ref14_Has, has_res l n (by omega), hmem] | (with_reducible first | apply c1 | (first | apply c2 | apply c3) <;> (intro hc; simp only [hc]) | (first | apply c4 | apply c5) <;> (intro hc; rw [hc])))
    refine ⟨l, rfl, hs, fun y => ⟨.inr, fun h => ?_⟩, by omega⟩
    rcases h with rfl | h
    · exact memB_iff.1 hmem
    · exact h
  | false =>
    have hno := memB_not.1 hmem
    repeat' (first | simp only [go_sem, Int.reduceLT, Int.reduceLE, Int.reduceNeg, Int.reduceEq, Nat.reduceAdd, Nat.reduceEqDiff, Nat.reduceLeDiff, Nat.reduceBEq, reduceIte, reduceCtorEq, q_ref14_Has, has_res l n (by omega), hmem] | (with_reducible first | apply c1 | (first | apply c2 | apply c3) <;> (intro hc; simp only [hc]) | (first | apply c4 | apply c5) <;> (intro hc; rw [hc])))
    refine X_for 5 l.length (fun i s => ∀ y ∈ l.take i, y < n) 0 (by omega) ?_ (Nat.zero_le _) (by simp) ?_
    · simp only [go_sem, Int.reduceLT, Int.reduceLE, Int.reduceNeg, Int.reduceEq, Nat.reduceAdd, Nat.reduceEqDiff, Nat.reduceLeDiff, Nat.reduceBEq, reduceIte, reduceCtorEq]; rfl
    intro i t h nx hf hi0 hi h5 hj
    have h0 := hf 0 rfl; simp only [PT.get_set, Nat.reduceEqDiff, if_true, if_false, reduceIte, PT.get_leaf] at h0; have h1 := hf 1 rfl; simp only [PT.get_set, Nat.reduceEqDiff, if_true, if_false, reduceIte, PT.get_leaf] at h1
    clear hf
    have fin : ∀ {k : List Int}, k = l.take i ++ [n] ++ l.drop i → (∀ y ∈ l.drop i, n < y) → ∃ k' : List Int, PDV.lst (k.map I) = L k' ∧ k'.Pairwise (· < ·) ∧ (∀ y, y ∈ k' ↔ y = n ∨ y ∈ l) ∧ k'.length ≤ l.length + 1 := fun {k} e hd => by
      obtain ⟨p1, p2⟩ := put_sorted hs hj hd
      refine ⟨_, rfl, by rw [e]; exact p1, by rw [e]; exact p2, by rw [e]; simp; omega⟩
    rcases Nat.lt_or_ge i l.length with hlt | hge
    · obtain ⟨x, hx, _, htk⟩ := get_dec (l := l) (i := i) (by simpa using hlt)
      have hdl : decide ((i : Int) < (l.length : Int)) = true := by simpa using hlt
      by_cases hxn : x < n
      · repeat' (first | simp only [go_sem, Int.reduceLT, Int.reduceLE, Int.reduceNeg, Int.reduceEq, Nat.reduceAdd, Nat.reduceEqDiff, Nat.reduceLeDiff, Nat.reduceBEq, reduceIte, reduceCtorEq, h0, h1, h5, hx, hdl, show decide (x < n) = true by simpa using hxn] | (with_reducible first | apply c1 | (first | apply c2 | apply c3) <;> (intro hc; simp only [hc]) | (first | apply c4 | apply c5) <;> (intro hc; rw [hc])))
        refine ⟨hlt, fun y hy => ?_⟩
        rw [htk, List.mem_append, List.mem_singleton] at hy
        rcases hy with hy | rfl
        · exact hj y hy
        · exact hxn
      · have hd : ∀ y ∈ l.drop i, n < y := by
          have e : l.drop i = x :: l.drop (i + 1) := by
            rw [List.drop_eq_getElem_cons hlt]
            congr 1
            exact (List.getElem?_eq_some_iff.1 hx).2
          have hne : x ≠ n := fun e => hno (e ▸ List.mem_of_getElem? hx)
          have hp := hs.sublist (List.drop_sublist i l)
          rw [e] at hp ⊢
          intro y hy
          rw [List.mem_cons] at hy
          rcases hy with rfl | hy
          · omega
          · have := (List.pairwise_cons.1 hp).1 y hy; omega
        have hdne : l.drop i ≠ [] := by simp; omega
        by_cases ht : l.take i = []
        · repeat' (first | simp only [go_sem, Int.reduceLT, Int.reduceLE, Int.reduceNeg, Int.reduceEq, Nat.reduceAdd, Nat.reduceEqDiff, Nat.reduceLeDiff, Nat.reduceBEq, reduceIte, reduceCtorEq, h0, h1, h5, hx, hdl, show decide (x < n) = false by simpa using hxn, bldS_nil, bldS_one one1_s, ssl_takeL, ssl_drop, hi, ht, app_ow_e, esK, app_ow_one (b := 8) (l := []) (hv := one1_s) (hb := by simp), app_ow_L (k := [.s (.int .i64 n)]) (l := l.drop i) (hl := hdne) (hb := by simp; omega)] | (with_reducible first | apply c1 | (first | apply c2 | apply c3) <;> (intro hc; simp only [hc]) | (first | apply c4 | apply c5) <;> (intro hc; rw [hc])))
          · rfl
          · (simp [nqs, quietL, nqP, nqA, clash, meets]) <;> ((repeat' apply And.intro) <;> first | rfl | omega | (right; (repeat' apply And.intro) <;> omega) | (left; rfl))
          · exact fin (k := n :: l.drop i) (by rw [ht]; rfl) hd
        · repeat' (first | simp only [go_sem, Int.reduceLT, Int.reduceLE, Int.reduceNeg, Int.reduceEq, Nat.reduceAdd, Nat.reduceEqDiff, Nat.reduceLeDiff, Nat.reduceBEq, reduceIte, reduceCtorEq, h0, h1, h5, hx, hdl, show decide (x < n) = false by simpa using hxn, bldS_nil, bldS_one one1_s, ssl_takeL, ssl_drop, hi, esK, app_ow_L (k := []) (l := l.take i) (hl := ht) (hb := by simp; omega), app_ow_one (b := 8) (l := (l.take i).map I) (hv := one1_s) (hb := by simp; omega), app_ow_L (k := (l.take i).map I ++ [.s (.int .i64 n)]) (l := l.drop i) (hl := hdne) (hb := by simp; omega)] | (with_reducible first | apply c1 | (first | apply c2 | apply c3) <;> (intro hc; simp only [hc]) | (first | apply c4 | apply c5) <;> (intro hc; rw [hc])))
          · rfl
          · (simp [nqs, quietL, nqP, nqA, clash, meets]) <;> ((repeat' apply And.intro) <;> first | rfl | omega | (right; (repeat' apply And.intro) <;> omega) | (left; rfl))
          · have := fin (k := l.take i ++ [n] ++ l.drop i) rfl hd
            rw [List.map_append, List.map_append] at this
            exact this
    · have hd : l.drop i = [] := by simp; omega
      have hd' : ∀ y ∈ l.drop i, n < y := by rw [hd]; simp
      have hdl : decide ((i : Int) < (l.length : Int)) = false := by simpa using hge
      by_cases ht : l.take i = []
      · repeat' (first | simp only [go_sem, Int.reduceLT, Int.reduceLE, Int.reduceNeg, Int.reduceEq, Nat.reduceAdd, Nat.reduceEqDiff, Nat.reduceLeDiff, Nat.reduceBEq, reduceIte, reduceCtorEq, h0, h1, h5, hdl, bldS_nil, bldS_one one1_s, ssl_takeL, ssl_drop, hi, ht, hd, app_ow_e, esK, app_ow_one (b := 8) (l := []) (hv := one1_s) (hb := by simp)] | (with_reducible first | apply c1 | (first | apply c2 | apply c3) <;> (intro hc; simp only [hc]) | (first | apply c4 | apply c5) <;> (intro hc; rw [hc])))
        · rfl
        · (simp [nqs, quietL, nqP, nqA, clash, meets]) <;> ((repeat' apply And.intro) <;> first | rfl | omega | (right; (repeat' apply And.intro) <;> omega) | (left; rfl))
        · exact fin (k := [n]) (by rw [ht, hd]; rfl) hd'
      · repeat' (first | simp only [go_sem, Int.reduceLT, Int.reduceLE, Int.reduceNeg, Int.reduceEq, Nat.reduceAdd, Nat.reduceEqDiff, Nat.reduceLeDiff, Nat.reduceBEq, reduceIte, reduceCtorEq, h0, h1, h5, hdl, bldS_nil, bldS_one one1_s, ssl_takeL, ssl_drop, hi, hd, app_ow_e, esK, app_ow_L (k := []) (l := l.take i) (hl := ht) (hb := by simp; omega), app_ow_one (b := 8) (l := (l.take i).map I) (hv := one1_s) (hb := by simp; omega)] | (with_reducible first | apply c1 | (first | apply c2 | apply c3) <;> (intro hc; simp only [hc]) | (first | apply c4 | apply c5) <;> (intro hc; rw [hc])))
        · rfl
        · (simp [nqs, quietL, nqP, nqA, clash, meets]) <;> ((repeat' apply And.intro) <;> first | rfl | omega | (right; (repeat' apply And.intro) <;> omega) | (left; rfl))
        · have := fin (k := l.take i ++ [n]) (by rw [hd]; simp) hd'
          rw [List.map_append] at this
          exact this
def allP (x : VLoad) (k : List Int) : Prop := k.Pairwise (· < ·) ∧ ∀ y, y ∈ k ↔ y ∈ x.classes.flatten
theorem all_unique {a b : List Int} (ha : a.Pairwise (· < ·)) (hb : b.Pairwise (· < ·)) (h : ∀ y, y ∈ a ↔ y ∈ b) : a = b := by
  induction a generalizing b with
  | nil =>
    cases b with
    | nil => rfl
    | cons y b => have := (h y).2 (by simp); simp at this
  | cons x a ih =>
    cases b with
    | nil => have := (h x).1 (by simp); simp at this
    | cons y b =>
      rw [List.pairwise_cons] at ha hb
      have hxy : x = y := by
        have h1 := (h x).1 (by simp)
        have h2 := (h y).2 (by simp)
        rw [List.mem_cons] at h1 h2
        rcases h1 with h1 | h1
        · exact h1
        · rcases h2 with h2 | h2
          · exact h2.symm
          · have := ha.1 y h2; have := hb.1 x h1; omega
      subst hxy
      congr 1
      refine ih ha.2 hb.2 (fun z => ?_)
      have := h z
      simp only [List.mem_cons] at this
      constructor
      · intro hz
        rcases this.1 (.inr hz) with e | e
        · have := ha.1 z hz; omega
        · exact e
      · intro hz
        rcases this.2 (.inr hz) with e | e
        · have := hb.1 z hz; omega
        · exact e
theorem rall_res (x : VLoad) (hx : x.classes.length ≤ 8 ∧ ∀ r ∈ x.classes, r.length ≤ 8) : ∃ q, res Tryz.prog G0 34 [x.P] = some q ∧ ∃ k : List Int, q = L k ∧ allP x k ∧ k.length ≤ 64 := by
  obtain ⟨x1, x2⟩ := hx
  refine res_ex c_ref42_All (Nat.le_of_ble_eq_true rfl) ?_
  simp only [m_ref42_All, Oo, Ou, Og, Ci, Om, Of, Ol, Ok]
  repeat' (first | simp only [go_sem, Int.reduceLT, Int.reduceLE, Int.reduceNeg, Int.reduceEq, Nat.reduceAdd, Nat.reduceEqDiff, Nat.reduceLeDiff, Nat.reduceBEq, reduceIte, reduceCtorEq] | (with_reducible first | apply c1 | (first | apply c2 | apply c3) <;> (intro hc; simp only [hc]) | (first | apply c4 | apply c5) <;> (intro hc; rw [hc])))
  refine X_for 4 x.classes.length (fun i s => s.h.get 0 = some (.cells (DV.cells (.p x.P)) false) ∧ ∃ (d : DV) (k : List Int), s.t.get 3 = some d ∧ (∀ h, snap h d = some (L k, [])) ∧ k.Pairwise (· < ·) ∧ (∀ y, y ∈ k ↔ y ∈ (x.classes.take i).flatten) ∧ k.length ≤ 8 * i) 0 (by omega) ?_ (Nat.zero_le _) ?_ ?_
  · simp only [go_sem, Int.reduceLT, Int.reduceLE, Int.reduceNeg, Int.reduceEq, Nat.reduceAdd, Nat.reduceEqDiff, Nat.reduceLeDiff, Nat.reduceBEq, reduceIte, reduceCtorEq]; rfl
  · exact ⟨by simp only [go_sem, Int.reduceLT, Int.reduceLE, Int.reduceNeg, Int.reduceEq, Nat.reduceAdd, Nat.reduceEqDiff, Nat.reduceLeDiff, Nat.reduceBEq, reduceIte, reduceCtorEq], .nil, [], by simp only [go_sem, Int.reduceLT, Int.reduceLE, Int.reduceNeg, Int.reduceEq, Nat.reduceAdd, Nat.reduceEqDiff, Nat.reduceLeDiff, Nat.reduceBEq, reduceIte, reduceCtorEq], fun h => rfl, by simp, by simp, by simp⟩
  intro i t h nx hf hi0 hi h4 hj
  obtain ⟨hh, d, k, h3, hsn, hk1, hk2, hk3⟩ := hj
  dsimp only at hh h3
  have h1 := hf 1 rfl; simp only [PT.get_set, Nat.reduceEqDiff, if_true, if_false, reduceIte, PT.get_leaf] at h1
  clear hf
  rcases Nat.lt_or_ge i x.classes.length with hlt | hge
  · obtain ⟨r, hr, _, htk⟩ := get_dec (l := x.classes) (i := i) (by simpa using hlt)
    have hrl := x2 r (List.mem_of_getElem? hr)
    have hdl : decide ((i : Int) < (x.classes.length : Int)) = true := by simpa using hlt
    repeat' (first | simp only [go_sem, Int.reduceLT, Int.reduceLE, Int.reduceNeg, Int.reduceEq, Nat.reduceAdd, Nat.reduceEqDiff, Nat.reduceLeDiff, Nat.reduceBEq, reduceIte, reduceCtorEq, h1, h3, h4, hh, hdl] | (with_reducible first | apply c1 | (first | apply c2 | apply c3) <;> (intro hc; simp only [hc]) | (first | apply c4 | apply c5) <;> (intro hc; rw [hc])))
    refine X_for 5 r.length (fun j s => s.h.get 0 = some (.cells (DV.cells (.p x.P)) false) ∧ ∃ (d : DV) (k : List Int), s.t.get 3 = some d ∧ (∀ h, snap h d = some (L k, [])) ∧ k.Pairwise (· < ·) ∧ (∀ y, y ∈ k ↔ y ∈ (x.classes.take i).flatten ∨ y ∈ r.take j) ∧ k.length ≤ 8 * i + j) 0 (by omega) ?_ (Nat.zero_le _) ?_ ?_
    · simp only [go_sem, Int.reduceLT, Int.reduceLE, Int.reduceNeg, Int.reduceEq, Nat.reduceAdd, Nat.reduceEqDiff, Nat.reduceLeDiff, Nat.reduceBEq, reduceIte, reduceCtorEq]; rfl
    · exact ⟨by simp only [go_sem, Int.reduceLT, Int.reduceLE, Int.reduceNeg, Int.reduceEq, Nat.reduceAdd, Nat.reduceEqDiff, Nat.reduceLeDiff, Nat.reduceBEq, reduceIte, reduceCtorEq, hh], d, k, by simp only [go_sem, Int.reduceLT, Int.reduceLE, Int.reduceNeg, Int.reduceEq, Nat.reduceAdd, Nat.reduceEqDiff, Nat.reduceLeDiff, Nat.reduceBEq, reduceIte, reduceCtorEq, h3], hsn, hk1, by simpa using hk2, by omega⟩
    intro j t' h' nx' hf hj0 hj h5 hj2
    obtain ⟨hh', d', k', h3', hsn', hp1, hp2, hp3⟩ := hj2
    dsimp only at hh' h3'
    have f1 := hf 1 rfl; have f4 := hf 4 rfl
    simp only [PT.get_set, Nat.reduceEqDiff, if_true, if_false, reduceIte, h1, h4] at f1 f4
    clear hf
    rcases Nat.lt_or_ge j r.length with hlt2 | hge2
    · obtain ⟨y, hy, _, hty⟩ := get_dec (l := r) (i := j) (by simpa using hlt2)
      have hdl2 : decide ((j : Int) < (r.length : Int)) = true := by simpa using hlt2
      obtain ⟨q, hq, k2, rfl, e1, e2, e3⟩ := insert_res k' (by omega) y hp1
      repeat' (first | simp only [go_sem, Int.reduceLT, Int.reduceLE, Int.reduceNeg, Int.reduceEq, Nat.reduceAdd, Nat.reduceEqDiff, Nat.reduceLeDiff, Nat.reduceBEq, reduceIte, reduceCtorEq, f1, f4, h5, h3', hh', hr, hy, hdl2, hsn', q_ref14_Insert, hq] | (with_reducible first | apply c1 | (first | apply c2 | apply c3) <;> (intro hc; simp only [hc]) | (first | apply c4 | apply c5) <;> (intro hc; rw [hc])))
      refine ⟨hlt2, .p (L k2), k2, rfl, fun h => rfl, e1, fun z => ?_, by omega⟩
      rw [e2, hp2, hty, List.mem_append, List.mem_singleton]
      constructor
      · rintro (h | h | h)
        · exact .inr (.inr h)
        · exact .inl h
        · exact .inr (.inl h)
      · rintro (h | h | h)
        · exact .inr (.inl h)
        · exact .inr (.inr h)
        · exact .inl h
    · repeat' (first | simp only [go_sem, Int.reduceLT, Int.reduceLE, Int.reduceNeg, Int.reduceEq, Nat.reduceAdd, Nat.reduceEqDiff, Nat.reduceLeDiff, Nat.reduceBEq, reduceIte, reduceCtorEq, f1, f4, h5, h3', hh', hr, show decide ((j : Int) < (r.length : Int)) = false by simpa using hge2] | (with_reducible first | apply c1 | (first | apply c2 | apply c3) <;> (intro hc; simp only [hc]) | (first | apply c4 | apply c5) <;> (intro hc; rw [hc])))
      refine ⟨hlt, d', k', rfl, hsn', hp1, fun z => ?_, by omega⟩
      rw [hp2, htk, List.flatten_append, List.mem_append, List.take_of_length_le hge2]
      simp
  · have he : x.classes.take i = x.classes := List.take_of_length_le hge
    rw [he] at hk2
    repeat' (first | simp only [go_sem, Int.reduceLT, Int.reduceLE, Int.reduceNeg, Int.reduceEq, Nat.reduceAdd, Nat.reduceEqDiff, Nat.reduceLeDiff, Nat.reduceBEq, reduceIte, reduceCtorEq, h1, h3, h4, hh, show decide ((i : Int) < (x.classes.length : Int)) = false by simpa using hge] | (with_reducible first | apply c1 | (first | apply c2 | apply c3) <;> (intro hc; simp only [hc]) | (first | apply c4 | apply c5) <;> (intro hc; rw [hc])))
    exact ⟨L k, by rw [hsn]; rfl, k, rfl, ⟨hk1, hk2⟩, by omega⟩
end Go.Proofs.YtddmnddocbmjnaaGreat.Dv
namespace Go.Proofs.YtddmnddocbmjnaaGreat.Dv
end Go.Proofs.YtddmnddocbmjnaaGreat.Dv
namespace Go.Proofs.YtddmnddocbmjnaaGreat.Dv
def m_law43_short : MF := ⟨41, (.seq (.reg none [Oo 2 (.mov (.d (.p (.s (.bool false)))))]) (.seq (.seq (.reg none [Om 5 0, Ok 6 5, Oo 7 (.iop .gtr (.t 6) (.d (Ci 12)))]) (.cond (.t 7) (.seq (.reg none [Oo 2 (.mov (.d (.p (.s (.bool false)))))]) .ret) .skip)) (.seq (.seq (.reg none [Oo 3 (.mov (.d (Ci 0)))]) (.block 0 (.loop (.seq (.seq (.reg none [Om 8 3, Om 9 0, Ok 10 9, Oo 11 (.iop .lss (.t 8) (.t 10))]) (.cond (.t 11) .skip (.exit 0))) (.seq (.block 1 (.seq (.seq (.reg none [Om 14 0, Om 15 3, Oo 16 (.iadrS 1 (.t 14) (.t 15)), Of 17 0 16, Ol 18 17, Ok 19 18, Oo 20 (.iop .gtr (.t 19) (.d (Ci 8)))]) (.cond (.t 20) (.seq (.reg none [Oo 2 (.mov (.d (.p (.s (.bool false)))))]) .ret) .skip)) (.seq (.reg none [Oo 4 (.mov (.d (Ci 0)))]) (.block 2 (.loop (.seq (.seq (.reg none [Om 21 4, Om 22 0, Om 23 3, Oo 24 (.iadrS 1 (.t 22) (.t 23)), Of 25 0 24, Ol 26 25, Ok 27 26, Oo 28 (.iop .lss (.t 21) (.t 27))]) (.cond (.t 28) .skip (.exit 2))) (.seq (.block 3 (.seq (.reg none [Om 31 0, Om 32 3, Oo 33 (.iadrS 1 (.t 31) (.t 32)), Of 34 0 33, Ol 35 34, Om 36 4, Oo 37 (.iadrS 1 (.t 35) (.t 36)), Ol 38 37, Ok 39 38, Oo 40 (.iop .gtr (.t 39) (.d (Ci 8)))]) (.cond (.t 40) (.seq (.reg none [Oo 2 (.mov (.d (.p (.s (.bool false)))))]) .ret) .skip))) (.reg none [Om 29 4, Oo 30 (.iop .add (.t 29) (.d (Ci 1))), Om 4 30])))))))) (.reg none [Om 12 3, Oo 13 (.iop .add (.t 12) (.d (Ci 1))), Om 3 13])))))) (.seq (.reg none [Oo 2 (.mov (.d (.p (.s (.bool true)))))]) .ret)))), [.tmp 2]⟩
theorem c_law43_short : comp Tryz.prog G0 9 = some m_law43_short := by kernel_rfl
theorem q_law43_short : Q0 9 := mCall_pure rfl
def shortX (x : VLoad) : Bool := decide (x.classes.length ≤ 8) && x.classes.all fun r => decide (r.length ≤ 8)
def shortB (l : List VLoad) : Bool := decide (l.length ≤ 12) && l.all shortX
theorem short_res (l : List VLoad) : res Tryz.prog G0 9 [.lst (l.map VLoad.P)] = some (B (shortB l)) := by
  refine res_body c_law43_short (Nat.le_of_ble_eq_true rfl) ?_
  simp only [m_law43_short, Oo, Ou, Og, Ci, Om, Of, Ol, Ok]
  by_cases h12 : l.length ≤ 12
  case neg =>
    repeat' (first | simp only [go_sem, Int.reduceLT, Int.reduceLE, Int.reduceNeg, Int.reduceEq, Nat.reduceAdd, Nat.reduceEqDiff, Nat.reduceLeDiff, Nat.reduceBEq, reduceIte, reduceCtorEq, show decide ((12 : Int) < (l.length : Int)) = true by (simp only [decide_eq_true_eq]; omega)] | (with_reducible first | apply c1 | (first | apply c2 | apply c3) <;> (intro hc; simp only [hc]) | (first | apply c4 | apply c5) <;> (intro hc; rw [hc])))
    simp [shortB, h12]
  repeat' (first | simp only [go_sem, Int.reduceLT, Int.reduceLE, Int.reduceNeg, Int.reduceEq, Nat.reduceAdd, Nat.reduceEqDiff, Nat.reduceLeDiff, Nat.reduceBEq, reduceIte, reduceCtorEq, show decide ((12 : Int) < (l.length : Int)) = false by (simp only [decide_eq_false_iff_not]; omega)] | (with_reducible first | apply c1 | (first | apply c2 | apply c3) <;> (intro hc; simp only [hc]) | (first | apply c4 | apply c5) <;> (intro hc; rw [hc])))
  refine X_for 3 l.length (fun i s => ∀ x ∈ l.take i, shortX x = true) 0 (by omega) ?_ (Nat.zero_le _) (by simp) ?_
  · simp only [go_sem, Int.reduceLT, Int.reduceLE, Int.reduceNeg, Int.reduceEq, Nat.reduceAdd, Nat.reduceEqDiff, Nat.reduceLeDiff, Nat.reduceBEq, reduceIte, reduceCtorEq]; rfl
  intro i t h nx hf hi0 hi h3 hj
  have h0 := hf 0 rfl; simp only [PT.get_set, Nat.reduceEqDiff, if_true, if_false, reduceIte, PT.get_leaf] at h0
  clear hf
  rcases Nat.lt_or_ge i l.length with hlt | hge
  · obtain ⟨x, hx, _, htk⟩ := get_dec (l := l) (i := i) (by simpa using hlt)
    have hm : x ∈ l := List.mem_of_getElem? hx
    have hdl : decide ((i : Int) < (l.length : Int)) = true := by simpa using hlt
    have bad : shortX x = false → PDV.s (.bool false) = B (shortB l) := fun hb => by
      have : l.all shortX = false := by rw [List.all_eq_false]; exact ⟨x, hm, by simp [hb]⟩
      simp [shortB, this]
    by_cases h8 : x.classes.length ≤ 8
    case neg =>
      repeat' (first | simp only [go_sem, Int.reduceLT, Int.reduceLE, Int.reduceNeg, Int.reduceEq, Nat.reduceAdd, Nat.reduceEqDiff, Nat.reduceLeDiff, Nat.reduceBEq, reduceIte, reduceCtorEq, h0, h3, hx, hdl, show decide ((8 : Int) < (x.classes.length : Int)) = true by (simp only [decide_eq_true_eq]; omega)] | (with_reducible first | apply c1 | (first | apply c2 | apply c3) <;> (intro hc; simp only [hc]) | (first | apply c4 | apply c5) <;> (intro hc; rw [hc])))
      exact bad (by simp [shortX, h8])
    repeat' (first | simp only [go_sem, Int.reduceLT, Int.reduceLE, Int.reduceNeg, Int.reduceEq, Nat.reduceAdd, Nat.reduceEqDiff, Nat.reduceLeDiff, Nat.reduceBEq, reduceIte, reduceCtorEq, h0, h3, hx, hdl, show decide ((8 : Int) < (x.classes.length : Int)) = false by (simp only [decide_eq_false_iff_not]; omega)] | (with_reducible first | apply c1 | (first | apply c2 | apply c3) <;> (intro hc; simp only [hc]) | (first | apply c4 | apply c5) <;> (intro hc; rw [hc])))
    refine X_for 4 x.classes.length (fun j s => ∀ r ∈ x.classes.take j, r.length ≤ 8) 0 (by omega) ?_ (Nat.zero_le _) (by simp) ?_
    · simp only [go_sem, Int.reduceLT, Int.reduceLE, Int.reduceNeg, Int.reduceEq, Nat.reduceAdd, Nat.reduceEqDiff, Nat.reduceLeDiff, Nat.reduceBEq, reduceIte, reduceCtorEq]; rfl
    intro j t' h' nx' hf hj0 hj1 h4 hj2
    have f0 := hf 0 rfl; have f3 := hf 3 rfl
    simp only [PT.get_set, Nat.reduceEqDiff, if_true, if_false, reduceIte, h0, h3] at f0 f3
    clear hf
    rcases Nat.lt_or_ge j x.classes.length with hlt2 | hge2
    · obtain ⟨r, hr, _, htr⟩ := get_dec (l := x.classes) (i := j) (by simpa using hlt2)
      have hdl2 : decide ((j : Int) < (x.classes.length : Int)) = true := by simpa using hlt2
      by_cases hr8 : r.length ≤ 8
      case neg =>
        repeat' (first | simp only [go_sem, Int.reduceLT, Int.reduceLE, Int.reduceNeg, Int.reduceEq, Nat.reduceAdd, Nat.reduceEqDiff, Nat.reduceLeDiff, Nat.reduceBEq, reduceIte, reduceCtorEq, f0, f3, h4, hx, hr, hdl2, show decide ((8 : Int) < (r.length : Int)) = true by (simp only [decide_eq_true_eq]; omega)] | (with_reducible first | apply c1 | (first | apply c2 | apply c3) <;> (intro hc; simp only [hc]) | (first | apply c4 | apply c5) <;> (intro hc; rw [hc])))
        refine bad ?_
        have : x.classes.all (fun r => decide (r.length ≤ 8)) = false := by rw [List.all_eq_false]; exact ⟨r, List.mem_of_getElem? hr, by simp [hr8]⟩
        simp [shortX, this]
      repeat' (first | simp only [go_sem, Int.reduceLT, Int.reduceLE, Int.reduceNeg, Int.reduceEq, Nat.reduceAdd, Nat.reduceEqDiff, Nat.reduceLeDiff, Nat.reduceBEq, reduceIte, reduceCtorEq, f0, f3, h4, hx, hr, hdl2, show decide ((8 : Int) < (r.length : Int)) = false by (simp only [decide_eq_false_iff_not]; omega)] | (with_reducible first | apply c1 | (first | apply c2 | apply c3) <;> (intro hc; simp only [hc]) | (first | apply c4 | apply c5) <;> (intro hc; rw [hc])))
      refine ⟨hlt2, fun y hy => ?_⟩
      rw [htr, List.mem_append, List.mem_singleton] at hy
      rcases hy with hy | rfl
      · exact hj2 y hy
      · exact hr8
    · rw [List.take_of_length_le hge2] at hj2
      repeat' (first | simp only [go_sem, Int.reduceLT, Int.reduceLE, Int.reduceNeg, Int.reduceEq, Nat.reduceAdd, Nat.reduceEqDiff, Nat.reduceLeDiff, Nat.reduceBEq, reduceIte, reduceCtorEq, f0, f3, h4, hx, show decide ((j : Int) < (x.classes.length : Int)) = false by simpa using hge2] | (with_reducible first | apply c1 | (first | apply c2 | apply c3) <;> (intro hc; simp only [hc]) | (first | apply c4 | apply c5) <;> (intro hc; rw [hc])))
      refine ⟨hlt, fun y hy => ?_⟩
      rw [htk, List.mem_append, List.mem_singleton] at hy
      rcases hy with hy | rfl
      · exact hj y hy
      · simp only [shortX, Bool.and_eq_true, decide_eq_true_eq, List.all_eq_true]
        exact ⟨h8, hj2⟩
  · rw [List.take_of_length_le hge] at hj
    repeat' (first | simp only [go_sem, Int.reduceLT, Int.reduceLE, Int.reduceNeg, Int.reduceEq, Nat.reduceAdd, Nat.reduceEqDiff, Nat.reduceLeDiff, Nat.reduceBEq, reduceIte, reduceCtorEq, h0, h3, show decide ((i : Int) < (l.length : Int)) = false by simpa using hge] | (with_reducible first | apply c1 | (first | apply c2 | apply c3) <;> (intro hc; simp only [hc]) | (first | apply c4 | apply c5) <;> (intro hc; rw [hc])))
    rw [s_bool]
    symm
    simp only [shortB, Bool.and_eq_true, decide_eq_true_eq, List.all_eq_true]
    exact ⟨h12, hj⟩
end Go.Proofs.YtddmnddocbmjnaaGreat.Dv
namespace Go.Proofs.YtddmnddocbmjnaaGreat.Dv
def loadS (x : VLoad) : Prop := x.classes.length ≤ 8 ∧ ∀ r ∈ x.classes, r.length ≤ 8
open Classical in
noncomputable def allL (x : VLoad) : List Int := if h : ∃ k : List Int, allP x k ∧ k.length ≤ 64 then Classical.choose h else []
theorem allL_eq {x : VLoad} {k : List Int} (h : allP x k) (hk : k.length ≤ 64) : allL x = k := by
  have hx : ∃ k : List Int, allP x k ∧ k.length ≤ 64 := ⟨k, h, hk⟩
  rw [allL, dif_pos hx]
  have hc := Classical.choose_spec hx
  exact all_unique hc.1.1 h.1 (fun y => by rw [hc.1.2, h.2])
theorem rallL (x : VLoad) (hx : loadS x) : res Tryz.prog G0 34 [x.P] = some (L (allL x)) ∧ allP x (allL x) ∧ (allL x).length ≤ 64 := by
  obtain ⟨q, hq, k, rfl, h1, h2⟩ := rall_res x hx
  rw [allL_eq h1 h2]
  exact ⟨hq, h1, h2⟩
end Go.Proofs.YtddmnddocbmjnaaGreat.Dv
