/- Part 20 of the proof: CrowdPairs: whatever plain data comes in, the call returns true and leaves its arguments as they were. No condition. -/
import Derived.Test.YtddmnddocbmjnaaGreatPa19
import Derived.KernelRfl
set_option linter.all false
set_option linter.unusedVariables false
set_option linter.unusedSectionVars false
set_option linter.unusedSimpArgs false
namespace Go.Proofs.YtddmnddocbmjnaaGreat.Dv
def m_class_Seat : MF := ⟨29, (.seq (.reg none [Oo 2 (.box (.t 0)), Oo 3 (.box (.t 1)), Oo 4 (.mov (.d (.p (.s (.bool false)))))]) (.seq (.reg none [Of 5 0 3, Ol 6 5, Oo 7 (.iop .geq (.t 6) (.d (Ci (-1)))), Om 8 7, Og 9 8 true (.fadr 0 (.t 3)), Og 10 8 true (.load false 1 (.t 9)), Og 11 8 true (.fadr 4 (.t 2)), Og 12 8 true (.load false 1 (.t 11)), Og 13 8 true (.lenL (.t 12)), Og 14 8 true (.iop .lss (.t 10) (.t 13)), Oo 15 (.pick (.t 8) (.t 14) (.d (.p (.s (.bool false))))), Om 16 15, Og 17 16 true (.fadr 1 (.t 3)), Og 18 16 true (.load false 1 (.t 17)), Og 19 16 true (.iop .geq (.t 18) (.d (Ci (-1)))), Oo 20 (.pick (.t 16) (.t 19) (.d (.p (.s (.bool false))))), Om 21 20, Og 22 21 true (.fadr 1 (.t 3)), Og 23 21 true (.load false 1 (.t 22)), Og 24 21 true (.fadr 5 (.t 2)), Og 25 21 true (.load false 1 (.t 24)), Og 26 21 true (.lenL (.t 25)), Og 27 21 true (.iop .lss (.t 23) (.t 26)), Oo 28 (.pick (.t 21) (.t 27) (.d (.p (.s (.bool false))))), Om 4 28]) .ret)), [.tmp 4]⟩
theorem c_class_Seat : comp Tryz.prog G0 77 = some m_class_Seat := by kernel_rfl
theorem q_class_Seat : Q0 77 := mCall_pure rfl
theorem k_class_Seat : callable Tryz.prog 77 = true := by kernel_rfl
def m_ref13_Seat : MF := ⟨29, (.seq (.reg none [Oo 2 (.box (.t 0)), Oo 3 (.box (.t 1)), Oo 4 (.mov (.d (.p (.s (.bool false)))))]) (.seq (.reg none [Of 5 0 3, Ol 6 5, Oo 7 (.iop .geq (.t 6) (.d (Ci (-1)))), Om 8 7, Og 9 8 true (.fadr 0 (.t 3)), Og 10 8 true (.load false 1 (.t 9)), Og 11 8 true (.fadr 4 (.t 2)), Og 12 8 true (.load false 1 (.t 11)), Og 13 8 true (.lenL (.t 12)), Og 14 8 true (.iop .lss (.t 10) (.t 13)), Oo 15 (.pick (.t 8) (.t 14) (.d (.p (.s (.bool false))))), Om 16 15, Og 17 16 true (.fadr 1 (.t 3)), Og 18 16 true (.load false 1 (.t 17)), Og 19 16 true (.iop .geq (.t 18) (.d (Ci (-1)))), Oo 20 (.pick (.t 16) (.t 19) (.d (.p (.s (.bool false))))), Om 21 20, Og 22 21 true (.fadr 1 (.t 3)), Og 23 21 true (.load false 1 (.t 22)), Og 24 21 true (.fadr 5 (.t 2)), Og 25 21 true (.load false 1 (.t 24)), Og 26 21 true (.lenL (.t 25)), Og 27 21 true (.iop .lss (.t 23) (.t 26)), Oo 28 (.pick (.t 21) (.t 27) (.d (.p (.s (.bool false))))), Om 4 28]) .ret)), [.tmp 4]⟩
theorem c_ref13_Seat : comp Tryz.prog G0 82 = some m_ref13_Seat := by kernel_rfl
theorem q_ref13_Seat : Q0 82 := mCall_pure rfl
def m_class_Spot : MF := ⟨43, (.seq (.reg none [Oo 2 (.box (.t 0)), Oo 3 (.box (.t 1)), Oo 4 (.alloc [(.p (.s (.int .u32 0))), (.p (.s (.int .u8 0))), (Ci 0), (Ci 0), (Ci 0)]), Oo 5 (.mov (.d (.p (.s (.bool false)))))]) (.seq (.seq (.reg none [Oo 7 (.load true 7 (.t 2)), Oo 8 (.load true 2 (.t 3)), Oo 9 (.call 77 [.t 7, .t 8]), Oo 10 (.un .not (.t 9))]) (.cond (.t 10) (.seq (.reg none [Oo 11 (.bld [(.p (.s (.int .u32 0))), (.p (.s (.int .u8 0))), (Ci 0), (Ci 0), (Ci 0)] []), Ou (.store 5 (.t 4) (.t 11)), Oo 5 (.mov (.d (.p (.s (.bool false)))))]) .ret) .skip)) (.seq (.reg none [Oo 12 (.bld [(.p (.s (.int .u32 0))), (.p (.s (.int .u8 0))), (Ci 0), (Ci 0), (Ci 0)] [(4, 1, (.d (Ci (-2))))]), Oo 6 (.alloc [(.p (.s (.int .u32 0))), (.p (.s (.int .u8 0))), (Ci 0), (Ci 0), (Ci 0)]), Ou (.store 5 (.t 6) (.t 12))]) (.seq (.seq (.reg none [Of 13 0 3, Ol 14 13, Oo 15 (.iop .gtr (.t 14) (.d (Ci (-1))))]) (.cond (.t 15) (.reg none [Of 16 4 2, Ol 17 16, Of 18 0 3, Ol 19 18, Oo 20 (.iadrS 5 (.t 17) (.t 19)), Of 21 0 20, Oo 22 (.load true 4 (.t 21)), Of 23 0 6, Ou (.store 4 (.t 23) (.t 22))]) .skip)) (.seq (.block 0 (.seq (.reg none [Of 25 1 3, Ol 26 25, Oo 27 (.iop .gtr (.t 26) (.d (Ci (-1)))), Om 24 27]) (.cond (.t 24) (.reg none [Of 28 5 2, Ol 29 28, Of 30 1 3, Ol 31 30, Oo 32 (.iadrS 2 (.t 29) (.t 31)), Of 33 0 32, Ol 34 33, Of 35 4 6, Ou (.store 1 (.t 35) (.t 34))]) (.seq (.reg none [Of 37 5 2, Ol 38 37, Ok 39 38, Oo 40 (.iop .eql (.t 39) (.d (Ci 0))), Om 36 40]) (.cond (.t 36) (.reg none [Of 41 4 6, Ou (.store 1 (.t 41) (.d (Ci (-1))))]) .skip))))) (.seq (.reg none [Oo 42 (.load true 5 (.t 6)), Ou (.store 5 (.t 4) (.t 42)), Oo 5 (.mov (.d (.p (.s (.bool true)))))]) .ret)))))), [.cell 4 true 5, .tmp 5]⟩
theorem c_class_Spot : comp Tryz.prog G0 95 = some m_class_Spot := by kernel_rfl
theorem q_class_Spot : Q0 95 := mCall_pure rfl
def m_ref13_Spot : MF := ⟨41, (.seq (.reg none [Oo 2 (.box (.t 0)), Oo 3 (.box (.t 1)), Oo 4 (.alloc [(.p (.s (.int .u32 0))), (.p (.s (.int .u8 0))), (Ci 0), (Ci 0), (Ci 0)]), Oo 5 (.mov (.d (.p (.s (.bool false)))))]) (.seq (.seq (.reg none [Oo 7 (.load true 7 (.t 2)), Oo 8 (.load true 2 (.t 3)), Oo 9 (.call 82 [.t 7, .t 8]), Oo 10 (.un .not (.t 9))]) (.cond (.t 10) (.seq (.reg none [Oo 11 (.bld [(.p (.s (.int .u32 0))), (.p (.s (.int .u8 0))), (Ci 0), (Ci 0), (Ci 0)] []), Ou (.store 5 (.t 4) (.t 11)), Oo 5 (.mov (.d (.p (.s (.bool false)))))]) .ret) .skip)) (.seq (.reg none [Oo 12 (.bld [(.p (.s (.int .u32 0))), (.p (.s (.int .u8 0))), (Ci 0), (Ci 0), (Ci 0)] [(4, 1, (.d (Ci (-1))))]), Oo 6 (.alloc [(.p (.s (.int .u32 0))), (.p (.s (.int .u8 0))), (Ci 0), (Ci 0), (Ci 0)]), Ou (.store 5 (.t 6) (.t 12))]) (.seq (.seq (.reg none [Of 13 0 3, Ol 14 13, Oo 15 (.iop .geq (.t 14) (.d (Ci 0)))]) (.cond (.t 15) (.reg none [Of 16 4 2, Ol 17 16, Of 18 0 3, Ol 19 18, Oo 20 (.iadrS 5 (.t 17) (.t 19)), Of 21 0 20, Oo 22 (.load true 4 (.t 21)), Of 23 0 6, Ou (.store 4 (.t 23) (.t 22))]) .skip)) (.seq (.seq (.reg none [Of 24 1 3, Ol 25 24, Oo 26 (.iop .geq (.t 25) (.d (Ci 0)))]) (.cond (.t 26) (.reg none [Of 27 5 2, Ol 28 27, Of 29 1 3, Ol 30 29, Oo 31 (.iadrS 2 (.t 28) (.t 30)), Of 32 0 31, Ol 33 32, Of 34 4 6, Ou (.store 1 (.t 34) (.t 33))]) (.seq (.reg none [Of 35 5 2, Ol 36 35, Ok 37 36, Oo 38 (.iop .gtr (.t 37) (.d (Ci 0)))]) (.cond (.t 38) (.reg none [Of 39 4 6, Ou (.store 1 (.t 39) (.d (Ci (-2))))]) .skip)))) (.seq (.reg none [Oo 40 (.load true 5 (.t 6)), Ou (.store 5 (.t 4) (.t 40)), Oo 5 (.mov (.d (.p (.s (.bool true)))))]) .ret)))))), [.cell 4 true 5, .tmp 5]⟩
theorem c_ref13_Spot : comp Tryz.prog G0 83 = some m_ref13_Spot := by kernel_rfl
theorem q_ref13_Spot : Q0 83 := mCall_pure rfl
def seatB (c : VClass) (s : VSeat) : Bool := decide (-1 ≤ s.time) && decide (s.time < c.times.length) && decide (-1 ≤ s.place) && decide (s.place < c.places.length)
theorem seat_res (c : VClass) (s : VSeat) : res Tryz.prog G0 77 [c.P, s.P] = some (B (seatB c s)) := by
  refine res_body c_class_Seat (Nat.le_of_ble_eq_true rfl) ?_
  simp only [m_class_Seat, Oo, Ou, Og, Ci, Om, Of, Ol, Ok]
  repeat' (first | simp only [go_sem, Int.reduceLT, Int.reduceLE, Int.reduceNeg, Int.reduceEq, Nat.reduceAdd, Nat.reduceEqDiff, Nat.reduceLeDiff, Nat.reduceBEq, reduceIte, reduceCtorEq] | (with_reducible first | apply c1 | (first | apply c2 | apply c3) <;> (intro hc; simp only [hc]) | (first | apply c4 | apply c5) <;> (intro hc; rw [hc])))
  all_goals (try (rw [s_bool, Bool.eq_iff_iff]; (try simp only [Bool.and_eq_true, Bool.or_eq_true, Bool.and_eq_false_iff, Bool.or_eq_false_iff, Bool.not_eq_true', Bool.not_eq_false', decide_eq_true_eq, decide_eq_false_iff_not, Bool.true_eq_false, Bool.false_eq_true, iff_true, true_iff, iff_false, false_iff, and_true, true_and, and_false, false_and, ne_eq, Decidable.not_not, not_true_eq_false, not_false_eq_true, Int.natCast_eq_zero, seatB] at *); first | done | omega | (simp_all; done) | (simp_all; omega)))
theorem rseat_res (c : VClass) (s : VSeat) : res Tryz.prog G0 82 [c.P, s.P] = some (B (seatB c s)) := by
  refine res_body c_ref13_Seat (Nat.le_of_ble_eq_true rfl) ?_
  simp only [m_ref13_Seat, Oo, Ou, Og, Ci, Om, Of, Ol, Ok]
  repeat' (first | simp only [go_sem, Int.reduceLT, Int.reduceLE, Int.reduceNeg, Int.reduceEq, Nat.reduceAdd, Nat.reduceEqDiff, Nat.reduceLeDiff, Nat.reduceBEq, reduceIte, reduceCtorEq] | (with_reducible first | apply c1 | (first | apply c2 | apply c3) <;> (intro hc; simp only [hc]) | (first | apply c4 | apply c5) <;> (intro hc; rw [hc])))
  all_goals (try (rw [s_bool, Bool.eq_iff_iff]; (try simp only [Bool.and_eq_true, Bool.or_eq_true, Bool.and_eq_false_iff, Bool.or_eq_false_iff, Bool.not_eq_true', Bool.not_eq_false', decide_eq_true_eq, decide_eq_false_iff_not, Bool.true_eq_false, Bool.false_eq_true, iff_true, true_iff, iff_false, false_iff, and_true, true_and, and_false, false_and, ne_eq, Decidable.not_not, not_true_eq_false, not_false_eq_true, Int.natCast_eq_zero, seatB] at *); first | done | omega | (simp_all; done) | (simp_all; omega)))
def spotV (c : VClass) (s : VSeat) : VSpot := if seatB c s then ⟨if 0 ≤ s.time then ((c.times[s.time.toNat]?).map VTime.when).getD ⟨0, 0, 0, 0⟩ else ⟨0, 0, 0, 0⟩, if 0 ≤ s.place then ((c.places[s.place.toNat]?).map VPlace.room).getD 0 else if c.places.length = 0 then -1 else -2⟩ else ⟨⟨0, 0, 0, 0⟩, 0⟩
theorem when_cells (w : VWhen) : DV.cells (.p w.P) = [.p (.s (.int .u32 (w.weeks.val : Int))), .p (.s (.int .u8 (w.days.val : Int))), .p (I w.start), .p (I w.len)] := rfl
theorem spot_res (c : VClass) (s : VSeat) : res Tryz.prog G0 95 [c.P, s.P] = some (.tup [(spotV c s).P, B (seatB c s)]) := by
  refine res_body c_class_Spot (Nat.le_of_ble_eq_true rfl) ?_
  simp only [m_class_Spot, Oo, Ou, Og, Ci, Om, Of, Ol, Ok]
  cases hs : seatB c s with
  | false =>
    repeat' (first | simp only [go_sem, Int.reduceLT, Int.reduceLE, Int.reduceNeg, Int.reduceEq, Nat.reduceAdd, Nat.reduceEqDiff, Nat.reduceLeDiff, Nat.reduceBEq, reduceIte, reduceCtorEq, q_class_Seat, seat_res, hs] | (with_reducible first | apply c1 | (first | apply c2 | apply c3) <;> (intro hc; simp only [hc]) | (first | apply c4 | apply c5) <;> (intro hc; rw [hc])))
    all_goals (simp [spotV, hs, VSpot.P])
  | true =>
    have hs' := hs
    simp only [seatB, Bool.and_eq_true, decide_eq_true_eq] at hs'
    obtain ⟨⟨⟨a1, a2⟩, a3⟩, a4⟩ := hs'
    have ht : (s.time = -1) ∨ ∃ (i : Nat) (tm : VTime), s.time = (i : Int) ∧ c.times[i]? = some tm := by
      by_cases h : s.time < 0
      · left; omega
      · obtain ⟨i, hi⟩ := Int.eq_ofNat_of_zero_le (show 0 ≤ s.time by omega)
        exact .inr ⟨i, c.times[i]'(by omega), hi, List.getElem?_eq_getElem (by omega)⟩
    have hp : (s.place = -1 ∧ c.places.length = 0) ∨ (s.place = -1 ∧ ¬ c.places.length = 0) ∨ ∃ (i : Nat) (pl : VPlace), s.place = (i : Int) ∧ c.places[i]? = some pl := by
      by_cases h : s.place < 0
      · by_cases h0 : c.places.length = 0
        · left; exact ⟨by omega, h0⟩
        · right; left; exact ⟨by omega, h0⟩
      · obtain ⟨i, hi⟩ := Int.eq_ofNat_of_zero_le (show 0 ≤ s.place by omega)
        exact .inr (.inr ⟨i, c.places[i]'(by omega), hi, List.getElem?_eq_getElem (by omega)⟩)
    rcases ht with ht | ⟨i, tm, ht, hti⟩
    · rcases hp with ⟨hp, hp0⟩ | ⟨hp, hp0⟩ | ⟨j, pl, hp, hpj⟩
      · repeat' (first | simp only [go_sem, Int.reduceLT, Int.reduceLE, Int.reduceNeg, Int.reduceEq, Nat.reduceAdd, Nat.reduceEqDiff, Nat.reduceLeDiff, Nat.reduceBEq, reduceIte, reduceCtorEq, q_class_Seat, seat_res, hs, ht, hp, when_cells, show decide ((c.places.length : Int) = 0) = true by (simp only [decide_eq_true_eq]; omega)] | (with_reducible first | apply c1 | (first | apply c2 | apply c3) <;> (intro hc; simp only [hc]) | (first | apply c4 | apply c5) <;> (intro hc; rw [hc])))
        all_goals (simp [spotV, hs, ht, hp, hp0, VSpot.P])
      · repeat' (first | simp only [go_sem, Int.reduceLT, Int.reduceLE, Int.reduceNeg, Int.reduceEq, Nat.reduceAdd, Nat.reduceEqDiff, Nat.reduceLeDiff, Nat.reduceBEq, reduceIte, reduceCtorEq, q_class_Seat, seat_res, hs, ht, hp, when_cells, show decide ((c.places.length : Int) = 0) = false by (simp only [decide_eq_false_iff_not]; omega)] | (with_reducible first | apply c1 | (first | apply c2 | apply c3) <;> (intro hc; simp only [hc]) | (first | apply c4 | apply c5) <;> (intro hc; rw [hc])))
        all_goals (simp [spotV, hs, ht, hp, hp0, VSpot.P])
      · repeat' (first | simp only [go_sem, Int.reduceLT, Int.reduceLE, Int.reduceNeg, Int.reduceEq, Nat.reduceAdd, Nat.reduceEqDiff, Nat.reduceLeDiff, Nat.reduceBEq, reduceIte, reduceCtorEq, q_class_Seat, seat_res, hs, ht, hp, hpj, when_cells, show decide ((-1 : Int) < (j : Int)) = true by (simp; omega), show decide ((0 : Int) ≤ (j : Int)) = true by simp] | (with_reducible first | apply c1 | (first | apply c2 | apply c3) <;> (intro hc; simp only [hc]) | (first | apply c4 | apply c5) <;> (intro hc; rw [hc])))
        all_goals (simp [spotV, hs, ht, hp, hpj, VSpot.P])
    · rcases hp with ⟨hp, hp0⟩ | ⟨hp, hp0⟩ | ⟨j, pl, hp, hpj⟩
      · repeat' (first | simp only [go_sem, Int.reduceLT, Int.reduceLE, Int.reduceNeg, Int.reduceEq, Nat.reduceAdd, Nat.reduceEqDiff, Nat.reduceLeDiff, Nat.reduceBEq, reduceIte, reduceCtorEq, q_class_Seat, seat_res, hs, ht, hti, hp, when_cells, show decide ((-1 : Int) < (i : Int)) = true by (simp; omega), show decide ((0 : Int) ≤ (i : Int)) = true by simp, show decide ((c.places.length : Int) = 0) = true by (simp only [decide_eq_true_eq]; omega)] | (with_reducible first | apply c1 | (first | apply c2 | apply c3) <;> (intro hc; simp only [hc]) | (first | apply c4 | apply c5) <;> (intro hc; rw [hc])))
        all_goals (simp [spotV, hs, ht, hti, hp, hp0, VSpot.P])
      · repeat' (first | simp only [go_sem, Int.reduceLT, Int.reduceLE, Int.reduceNeg, Int.reduceEq, Nat.reduceAdd, Nat.reduceEqDiff, Nat.reduceLeDiff, Nat.reduceBEq, reduceIte, reduceCtorEq, q_class_Seat, seat_res, hs, ht, hti, hp, when_cells, show decide ((-1 : Int) < (i : Int)) = true by (simp; omega), show decide ((0 : Int) ≤ (i : Int)) = true by simp, show decide ((c.places.length : Int) = 0) = false by (simp only [decide_eq_false_iff_not]; omega)] | (with_reducible first | apply c1 | (first | apply c2 | apply c3) <;> (intro hc; simp only [hc]) | (first | apply c4 | apply c5) <;> (intro hc; rw [hc])))
        all_goals (simp [spotV, hs, ht, hti, hp, hp0, VSpot.P])
      · repeat' (first | simp only [go_sem, Int.reduceLT, Int.reduceLE, Int.reduceNeg, Int.reduceEq, Nat.reduceAdd, Nat.reduceEqDiff, Nat.reduceLeDiff, Nat.reduceBEq, reduceIte, reduceCtorEq, q_class_Seat, seat_res, hs, ht, hti, hp, hpj, when_cells, show decide ((-1 : Int) < (i : Int)) = true by (simp; omega), show decide ((-1 : Int) < (j : Int)) = true by (simp; omega), show decide ((0 : Int) ≤ (i : Int)) = true by simp, show decide ((0 : Int) ≤ (j : Int)) = true by simp] | (with_reducible first | apply c1 | (first | apply c2 | apply c3) <;> (intro hc; simp only [hc]) | (first | apply c4 | apply c5) <;> (intro hc; rw [hc])))
        all_goals (simp [spotV, hs, ht, hti, hp, hpj, VSpot.P])
theorem rspot_res (c : VClass) (s : VSeat) : res Tryz.prog G0 83 [c.P, s.P] = some (.tup [(spotV c s).P, B (seatB c s)]) := by
  refine res_body c_ref13_Spot (Nat.le_of_ble_eq_true rfl) ?_
  simp only [m_ref13_Spot, Oo, Ou, Og, Ci, Om, Of, Ol, Ok]
  cases hs : seatB c s with
  | false =>
    repeat' (first | simp only [go_sem, Int.reduceLT, Int.reduceLE, Int.reduceNeg, Int.reduceEq, Nat.reduceAdd, Nat.reduceEqDiff, Nat.reduceLeDiff, Nat.reduceBEq, reduceIte, reduceCtorEq, q_ref13_Seat, rseat_res, hs] | (with_reducible first | apply c1 | (first | apply c2 | apply c3) <;> (intro hc; simp only [hc]) | (first | apply c4 | apply c5) <;> (intro hc; rw [hc])))
    all_goals (simp [spotV, hs, VSpot.P])
  | true =>
    have hs' := hs
    simp only [seatB, Bool.and_eq_true, decide_eq_true_eq] at hs'
    obtain ⟨⟨⟨a1, a2⟩, a3⟩, a4⟩ := hs'
    have ht : (s.time = -1) ∨ ∃ (i : Nat) (tm : VTime), s.time = (i : Int) ∧ c.times[i]? = some tm := by
      by_cases h : s.time < 0
      · left; omega
      · obtain ⟨i, hi⟩ := Int.eq_ofNat_of_zero_le (show 0 ≤ s.time by omega)
        exact .inr ⟨i, c.times[i]'(by omega), hi, List.getElem?_eq_getElem (by omega)⟩
    have hp : (s.place = -1 ∧ c.places.length = 0) ∨ (s.place = -1 ∧ ¬ c.places.length = 0) ∨ ∃ (i : Nat) (pl : VPlace), s.place = (i : Int) ∧ c.places[i]? = some pl := by
      by_cases h : s.place < 0
      · by_cases h0 : c.places.length = 0
        · left; exact ⟨by omega, h0⟩
        · right; left; exact ⟨by omega, h0⟩
      · obtain ⟨i, hi⟩ := Int.eq_ofNat_of_zero_le (show 0 ≤ s.place by omega)
        exact .inr (.inr ⟨i, c.places[i]'(by omega), hi, List.getElem?_eq_getElem (by omega)⟩)
    rcases ht with ht | ⟨i, tm, ht, hti⟩
    · rcases hp with ⟨hp, hp0⟩ | ⟨hp, hp0⟩ | ⟨j, pl, hp, hpj⟩
      · repeat' (first | simp only [go_sem, Int.reduceLT, Int.reduceLE, Int.reduceNeg, Int.reduceEq, Nat.reduceAdd, Nat.reduceEqDiff, Nat.reduceLeDiff, Nat.reduceBEq, reduceIte, reduceCtorEq, q_ref13_Seat, rseat_res, hs, ht, hp, when_cells, show decide ((0 : Int) < (c.places.length : Int)) = false by (simp only [decide_eq_false_iff_not]; omega)] | (with_reducible first | apply c1 | (first | apply c2 | apply c3) <;> (intro hc; simp only [hc]) | (first | apply c4 | apply c5) <;> (intro hc; rw [hc])))
        all_goals (simp [spotV, hs, ht, hp, hp0, VSpot.P])
      · repeat' (first | simp only [go_sem, Int.reduceLT, Int.reduceLE, Int.reduceNeg, Int.reduceEq, Nat.reduceAdd, Nat.reduceEqDiff, Nat.reduceLeDiff, Nat.reduceBEq, reduceIte, reduceCtorEq, q_ref13_Seat, rseat_res, hs, ht, hp, when_cells, show decide ((0 : Int) < (c.places.length : Int)) = true by (simp only [decide_eq_true_eq]; omega)] | (with_reducible first | apply c1 | (first | apply c2 | apply c3) <;> (intro hc; simp only [hc]) | (first | apply c4 | apply c5) <;> (intro hc; rw [hc])))
        all_goals (simp [spotV, hs, ht, hp, hp0, VSpot.P])
      · repeat' (first | simp only [go_sem, Int.reduceLT, Int.reduceLE, Int.reduceNeg, Int.reduceEq, Nat.reduceAdd, Nat.reduceEqDiff, Nat.reduceLeDiff, Nat.reduceBEq, reduceIte, reduceCtorEq, q_ref13_Seat, rseat_res, hs, ht, hp, hpj, when_cells, show decide ((-1 : Int) < (j : Int)) = true by (simp; omega), show decide ((0 : Int) ≤ (j : Int)) = true by simp] | (with_reducible first | apply c1 | (first | apply c2 | apply c3) <;> (intro hc; simp only [hc]) | (first | apply c4 | apply c5) <;> (intro hc; rw [hc])))
        all_goals (simp [spotV, hs, ht, hp, hpj, VSpot.P])
    · rcases hp with ⟨hp, hp0⟩ | ⟨hp, hp0⟩ | ⟨j, pl, hp, hpj⟩
      · repeat' (first | simp only [go_sem, Int.reduceLT, Int.reduceLE, Int.reduceNeg, Int.reduceEq, Nat.reduceAdd, Nat.reduceEqDiff, Nat.reduceLeDiff, Nat.reduceBEq, reduceIte, reduceCtorEq, q_ref13_Seat, rseat_res, hs, ht, hti, hp, when_cells, show decide ((-1 : Int) < (i : Int)) = true by (simp; omega), show decide ((0 : Int) ≤ (i : Int)) = true by simp, show decide ((0 : Int) < (c.places.length : Int)) = false by (simp only [decide_eq_false_iff_not]; omega)] | (with_reducible first | apply c1 | (first | apply c2 | apply c3) <;> (intro hc; simp only [hc]) | (first | apply c4 | apply c5) <;> (intro hc; rw [hc])))
        all_goals (simp [spotV, hs, ht, hti, hp, hp0, VSpot.P])
      · repeat' (first | simp only [go_sem, Int.reduceLT, Int.reduceLE, Int.reduceNeg, Int.reduceEq, Nat.reduceAdd, Nat.reduceEqDiff, Nat.reduceLeDiff, Nat.reduceBEq, reduceIte, reduceCtorEq, q_ref13_Seat, rseat_res, hs, ht, hti, hp, when_cells, show decide ((-1 : Int) < (i : Int)) = true by (simp; omega), show decide ((0 : Int) ≤ (i : Int)) = true by simp, show decide ((0 : Int) < (c.places.length : Int)) = true by (simp only [decide_eq_true_eq]; omega)] | (with_reducible first | apply c1 | (first | apply c2 | apply c3) <;> (intro hc; simp only [hc]) | (first | apply c4 | apply c5) <;> (intro hc; rw [hc])))
        all_goals (simp [spotV, hs, ht, hti, hp, hp0, VSpot.P])
      · repeat' (first | simp only [go_sem, Int.reduceLT, Int.reduceLE, Int.reduceNeg, Int.reduceEq, Nat.reduceAdd, Nat.reduceEqDiff, Nat.reduceLeDiff, Nat.reduceBEq, reduceIte, reduceCtorEq, q_ref13_Seat, rseat_res, hs, ht, hti, hp, hpj, when_cells, show decide ((-1 : Int) < (i : Int)) = true by (simp; omega), show decide ((-1 : Int) < (j : Int)) = true by (simp; omega), show decide ((0 : Int) ≤ (i : Int)) = true by simp, show decide ((0 : Int) ≤ (j : Int)) = true by simp] | (with_reducible first | apply c1 | (first | apply c2 | apply c3) <;> (intro hc; simp only [hc]) | (first | apply c4 | apply c5) <;> (intro hc; rw [hc])))
        all_goals (simp [spotV, hs, ht, hti, hp, hpj, VSpot.P])
def m_plan_each : MF := ⟨37, (.seq (.reg none [Oo 3 (.box (.t 0)), Oo 6 (.mov (.d (.p (.s (.bool false)))))]) (.seq (.seq (.reg none [Om 9 1, Ok 10 9, Of 11 7 3, Ol 12 11, Ok 13 12, Oo 14 (.iop .neq (.t 10) (.t 13)), Om 15 14, Og 16 15 false (.load true 15 (.t 3)), Og 17 15 false (.call 53 [.t 16]), Og 18 15 false (.un .not (.t 17)), Oo 19 (.pick (.t 15) (.d (.p (.s (.bool true)))) (.t 18))]) (.cond (.t 19) (.seq (.reg none [Oo 6 (.mov (.d (.p (.s (.bool false)))))]) .ret) .skip)) (.seq (.seq (.reg none [Om 20 1, Ok 21 20, Oo 22 (.mov (.d (Ci 0)))]) (.block 0 (.loop (.seq (.reg none [Oo 23 (.iop .lss (.t 22) (.t 21))]) (.seq (.cond (.t 23) .skip (.exit 0)) (.seq (.block 1 (.seq (.reg none [Om 24 22, Oo 25 (.iadrS 2 (.t 20) (.t 22)), Oo 26 (.load true 2 (.t 25)), Oo 8 (.alloc [(Ci 0), (Ci 0)]), Om 7 24, Ou (.store 2 (.t 8) (.t 26))]) (.seq (.reg (some #[0, 0, 2, 0, 14, 30, 0, 127, 255]) [Om 27 2, Of 28 7 3, Ol 29 28, Om 30 7, Oo 31 (.iadrS 7 (.t 29) (.t 30)), Oo 32 (.load true 7 (.t 31)), Oo 33 (.load true 2 (.t 8)), Oo 34 (.callv (.t 27) [.t 32, .t 33]), Oo 35 (.un .not (.t 34))]) (.cond (.t 35) (.seq (.reg none [Oo 6 (.mov (.d (.p (.s (.bool false)))))]) .ret) .skip)))) (.reg none [Oo 36 (.iop .add (.t 22) (.d (Ci 1))), Om 22 36]))))))) (.seq (.reg none [Oo 6 (.mov (.d (.p (.s (.bool true)))))]) .ret)))), [.tmp 6]⟩
theorem c_plan_each : comp Tryz.prog G0 76 = some m_plan_each := by kernel_rfl
theorem q_plan_each : Q0 76 := mCall_pure rfl
def m_plan_Right : MF := ⟨8, (.seq (.reg none [Oo 2 (.box (.t 0)), Oo 4 (.mov (.d (.p (.s (.bool false)))))]) (.seq (.reg none [Oo 5 (.load true 15 (.t 2)), Om 6 1, Oo 7 (.call 76 [.t 5, .t 6, (.d (.p (.s (.func (.func 77) #[] #[]))))]), Om 4 7]) .ret)), [.tmp 4]⟩
theorem c_plan_Right : comp Tryz.prog G0 42 = some m_plan_Right := by kernel_rfl
theorem q_plan_Right : Q0 42 := mCall_pure rfl
def m_plan_Spot : MF := ⟨35, (.seq (.reg none [Oo 3 (.box (.t 0)), Oo 6 (.alloc [(.p (.s (.int .u32 0))), (.p (.s (.int .u8 0))), (Ci 0), (Ci 0), (Ci 0)]), Oo 7 (.mov (.d (.p (.s (.bool false)))))]) (.seq (.seq (.reg none [Om 8 2, Oo 9 (.iop .lss (.t 8) (.d (Ci 0))), Om 10 9, Og 11 10 false (.mov (.t 2)), Og 12 10 false (.mov (.t 1)), Og 13 10 false (.lenL (.t 12)), Og 14 10 false (.iop .geq (.t 11) (.t 13)), Oo 15 (.pick (.t 10) (.d (.p (.s (.bool true)))) (.t 14)), Om 16 15, Og 17 16 false (.load true 15 (.t 3)), Og 18 16 false (.mov (.t 1)), Og 19 16 false (.call 42 [.t 17, .t 18]), Og 20 16 false (.un .not (.t 19)), Oo 21 (.pick (.t 16) (.d (.p (.s (.bool true)))) (.t 20))]) (.cond (.t 21) (.seq (.reg none [Oo 22 (.bld [(.p (.s (.int .u32 0))), (.p (.s (.int .u8 0))), (Ci 0), (Ci 0), (Ci 0)] []), Ou (.store 5 (.t 6) (.t 22)), Oo 7 (.mov (.d (.p (.s (.bool false)))))]) .ret) .skip)) (.seq (.reg (some #[0, 1, 0, 7, 15, 0, 0, 96, 224, 511, 1023, 1023, 4095, 8191]) [Of 23 7 3, Ol 24 23, Om 25 2, Oo 26 (.iadrS 7 (.t 24) (.t 25)), Oo 27 (.load true 7 (.t 26)), Om 28 1, Om 29 2, Oo 30 (.iadrS 2 (.t 28) (.t 29)), Oo 31 (.load true 2 (.t 30)), Oo 32 (.call 95 [.t 27, .t 31]), Oo 33 (.xtr 0 (.t 32)), Oo 34 (.xtr 1 (.t 32)), Ou (.store 5 (.t 6) (.t 33)), Om 7 34]) .ret))), [.cell 6 true 5, .tmp 7]⟩
theorem c_plan_Spot : comp Tryz.prog G0 60 = some m_plan_Spot := by kernel_rfl
theorem q_plan_Spot : Q0 60 := mCall_pure rfl
def m_ref19_Right : MF := ⟨34, (.seq (.reg none [Oo 2 (.box (.t 0)), Oo 4 (.mov (.d (.p (.s (.bool false)))))]) (.seq (.seq (.reg none [Oo 6 (.load true 15 (.t 2)), Oo 7 (.call 81 [.t 6]), Oo 8 (.un .not (.t 7)), Om 9 8, Og 10 9 false (.mov (.t 1)), Og 11 9 false (.lenL (.t 10)), Og 12 9 false (.fadr 7 (.t 2)), Og 13 9 false (.load false 1 (.t 12)), Og 14 9 false (.lenL (.t 13)), Og 15 9 false (.iop .neq (.t 11) (.t 14)), Oo 16 (.pick (.t 9) (.d (.p (.s (.bool true)))) (.t 15))]) (.cond (.t 16) (.seq (.reg none [Oo 4 (.mov (.d (.p (.s (.bool false)))))]) .ret) .skip)) (.seq (.seq (.reg none [Oo 5 (.mov (.d (Ci 0)))]) (.block 0 (.loop (.seq (.seq (.reg none [Om 17 5, Om 18 1, Ok 19 18, Oo 20 (.iop .lss (.t 17) (.t 19))]) (.cond (.t 20) .skip (.exit 0))) (.seq (.block 1 (.seq (.reg (some #[0, 1, 0, 7, 15, 0, 0, 96, 224, 511, 1023]) [Of 23 7 2, Ol 24 23, Om 25 5, Oo 26 (.iadrS 7 (.t 24) (.t 25)), Oo 27 (.load true 7 (.t 26)), Om 28 1, Om 29 5, Oo 30 (.iadrS 2 (.t 28) (.t 29)), Oo 31 (.load true 2 (.t 30)), Oo 32 (.call 82 [.t 27, .t 31]), Oo 33 (.un .not (.t 32))]) (.cond (.t 33) (.seq (.reg none [Oo 4 (.mov (.d (.p (.s (.bool false)))))]) .ret) .skip))) (.reg none [Om 21 5, Oo 22 (.iop .add (.t 21) (.d (Ci 1))), Om 5 22])))))) (.seq (.reg none [Oo 4 (.mov (.d (.p (.s (.bool true)))))]) .ret)))), [.tmp 4]⟩
theorem c_ref19_Right : comp Tryz.prog G0 48 = some m_ref19_Right := by kernel_rfl
theorem q_ref19_Right : Q0 48 := mCall_pure rfl
def m_ref20_Spot : MF := ⟨23, (.seq (.reg none [Oo 3 (.box (.t 0)), Oo 6 (.alloc [(.p (.s (.int .u32 0))), (.p (.s (.int .u8 0))), (Ci 0), (Ci 0), (Ci 0)])]) (.seq (.reg (some #[0, 1, 0, 7, 15, 0, 0, 96, 224, 511, 1023, 2047, 2047, 0, 12287, 32767]) [Of 10 7 3, Ol 11 10, Om 12 2, Oo 13 (.iadrS 7 (.t 11) (.t 12)), Oo 14 (.load true 7 (.t 13)), Om 15 1, Om 16 2, Oo 17 (.iadrS 2 (.t 15) (.t 16)), Oo 18 (.load true 2 (.t 17)), Oo 19 (.call 83 [.t 14, .t 18]), Om 9 19, Oo 20 (.xtr 0 (.t 9)), Oo 21 (.xtr 1 (.t 9)), Oo 7 (.alloc [(.p (.s (.int .u32 0))), (.p (.s (.int .u8 0))), (Ci 0), (Ci 0), (Ci 0)]), Ou (.store 5 (.t 7) (.t 20)), Om 8 21]) (.seq (.reg none [Oo 22 (.load true 5 (.t 7)), Ou (.store 5 (.t 6) (.t 22))]) .ret))), [.cell 6 true 5]⟩
theorem c_ref20_Spot : comp Tryz.prog G0 98 = some m_ref20_Spot := by kernel_rfl
theorem q_ref20_Spot : Q0 98 := mCall_pure rfl
def m_ref20_Walk : MF := ⟨14, (.seq (.reg none [Oo 3 (.box (.t 0)), Oo 4 (.box (.t 1)), Oo 5 (.box (.t 2)), Oo 6 (.mov (.d (Ci 0)))]) (.seq (.reg none [Of 7 5 3, Ol 8 7, Of 9 4 4, Ol 10 9, Of 11 4 5, Ol 12 11, Oo 13 (.call 171 [.t 8, .t 10, .t 12]), Om 6 13]) .ret)), [.tmp 6]⟩
theorem c_ref20_Walk : comp Tryz.prog G0 100 = some m_ref20_Walk := by kernel_rfl
theorem q_ref20_Walk : Q0 100 := mCall_pure rfl
def seatsB (cs : List VClass) (l : List VSeat) : Bool := (cs.zip l).all fun x => seatB x.1 x.2
def planB (p : VProblem) (l : List VSeat) : Bool := decide (l.length = p.classes.length) && probB p && seatsB p.classes l
theorem planR_res (p : VProblem) (hp : smP p) (l : List VSeat) (hl : l.length ≤ 1048576) : res Tryz.prog G0 76 [p.P, .lst (l.map VSeat.P), .s (.func (.func 77) #[] #[])] = some (B (planB p l)) := by
  refine res_body c_plan_each (Nat.le_of_ble_eq_true rfl) ?_
  simp only [m_plan_each, Oo, Ou, Og, Ci, Om, Of, Ol, Ok]
  by_cases hlen : l.length = p.classes.length
  case neg =>
    repeat' (first | simp only [go_sem, Int.reduceLT, Int.reduceLE, Int.reduceNeg, Int.reduceEq, Nat.reduceAdd, Nat.reduceEqDiff, Nat.reduceLeDiff, Nat.reduceBEq, reduceIte, reduceCtorEq, show decide ((l.length : Int) ≠ (p.classes.length : Int)) = true by (simp only [decide_eq_true_eq]; omega)] | (with_reducible first | apply c1 | (first | apply c2 | apply c3) <;> (intro hc; simp only [hc]) | (first | apply c4 | apply c5) <;> (intro hc; rw [hc])))
    simp [planB, hlen]
  cases hpr : probB p with
  | false =>
    repeat' (first | simp only [go_sem, Int.reduceLT, Int.reduceLE, Int.reduceNeg, Int.reduceEq, Nat.reduceAdd, Nat.reduceEqDiff, Nat.reduceLeDiff, Nat.reduceBEq, reduceIte, reduceCtorEq, show decide ((l.length : Int) ≠ (p.classes.length : Int)) = false by (simp; omega), q_problem_Right, prob_res p hp, hpr] | (with_reducible first | apply c1 | (first | apply c2 | apply c3) <;> (intro hc; simp only [hc]) | (first | apply c4 | apply c5) <;> (intro hc; rw [hc])))
    simp [planB, hpr]
  | true =>
    repeat' (first | simp only [go_sem, Int.reduceLT, Int.reduceLE, Int.reduceNeg, Int.reduceEq, Nat.reduceAdd, Nat.reduceEqDiff, Nat.reduceLeDiff, Nat.reduceBEq, reduceIte, reduceCtorEq, show decide ((l.length : Int) ≠ (p.classes.length : Int)) = false by (simp; omega), q_problem_Right, prob_res p hp, hpr] | (with_reducible first | apply c1 | (first | apply c2 | apply c3) <;> (intro hc; simp only [hc]) | (first | apply c4 | apply c5) <;> (intro hc; rw [hc])))
    refine X_for 22 l.length (fun i s => s.h.get 0 = some (.cells (DV.cells (.p p.P)) false) ∧ ∀ x ∈ (p.classes.zip l).take i, seatB x.1 x.2 = true) 0 (by omega) ?_ (Nat.zero_le _) ?_ ?_
    · simp only [go_sem, Int.reduceLT, Int.reduceLE, Int.reduceNeg, Int.reduceEq, Nat.reduceAdd, Nat.reduceEqDiff, Nat.reduceLeDiff, Nat.reduceBEq, reduceIte, reduceCtorEq]; rfl
    · exact ⟨by simp only [go_sem, Int.reduceLT, Int.reduceLE, Int.reduceNeg, Int.reduceEq, Nat.reduceAdd, Nat.reduceEqDiff, Nat.reduceLeDiff, Nat.reduceBEq, reduceIte, reduceCtorEq], by simp⟩
    intro i t h nx hf hi0 hi h22 hj
    obtain ⟨hh, hj⟩ := hj
    dsimp only at hh
    have h2 := hf 2 rfl; simp only [PT.get_set, Nat.reduceEqDiff, if_true, if_false, reduceIte, PT.get_leaf] at h2; have h3 := hf 3 rfl; simp only [PT.get_set, Nat.reduceEqDiff, if_true, if_false, reduceIte, PT.get_leaf] at h3; have h20 := hf 20 rfl; simp only [PT.get_set, Nat.reduceEqDiff, if_true, if_false, reduceIte, PT.get_leaf] at h20; have h21 := hf 21 rfl; simp only [PT.get_set, Nat.reduceEqDiff, if_true, if_false, reduceIte, PT.get_leaf] at h21
    clear hf
    rcases Nat.lt_or_ge i l.length with hlt | hge
    · obtain ⟨s, hs, _, _⟩ := get_dec (l := l) (i := i) (by simpa using hlt)
      obtain ⟨c, hc, _, _⟩ := get_dec (l := p.classes) (i := i) (by simp; omega)
      obtain ⟨z, hz, _, htz⟩ := get_dec (l := p.classes.zip l) (i := i) (by simp; omega)
      have hzz : z = (c, s) := by
        rw [List.getElem?_zip_eq_some] at hz
        obtain ⟨h1, h2⟩ := hz
        rw [hc] at h1; rw [hs] at h2
        cases h1; cases h2; rfl
      subst hzz
      have hA := callv_2 (App_fn (P := Tryz.prog) (G := G0) k_class_Seat (fun _ => rfl) (seat_res c s))
      have hdl : decide ((i : Int) < (l.length : Int)) = true := by simpa using hlt
      cases hsb : seatB c s with
      | false =>
        repeat' (first | simp only [go_sem, Int.reduceLT, Int.reduceLE, Int.reduceNeg, Int.reduceEq, Nat.reduceAdd, Nat.reduceEqDiff, Nat.reduceLeDiff, Nat.reduceBEq, reduceIte, reduceCtorEq, h2, h3, h20, h21, h22, hh, hs, hc, hdl, hA, hsb] | (with_reducible first | apply c1 | (first | apply c2 | apply c3) <;> (intro hc; simp only [hc]) | (first | apply c4 | apply c5) <;> (intro hc; rw [hc])))
        have : seatsB p.classes l = false := by
          rw [seatsB, List.all_eq_false]
          exact ⟨(c, s), List.mem_of_getElem? hz, by simp [hsb]⟩
        simp [planB, this]
      | true =>
        repeat' (first | simp only [go_sem, Int.reduceLT, Int.reduceLE, Int.reduceNeg, Int.reduceEq, Nat.reduceAdd, Nat.reduceEqDiff, Nat.reduceLeDiff, Nat.reduceBEq, reduceIte, reduceCtorEq, h2, h3, h20, h21, h22, hh, hs, hc, hdl, hA, hsb] | (with_reducible first | apply c1 | (first | apply c2 | apply c3) <;> (intro hc; simp only [hc]) | (first | apply c4 | apply c5) <;> (intro hc; rw [hc])))
        refine ⟨hlt, ?_⟩
        intro y hy
        rw [htz, List.mem_append, List.mem_singleton] at hy
        rcases hy with hy | rfl
        · exact hj y hy
        · exact hsb
    · rw [List.take_of_length_le (by simp; omega)] at hj
      repeat' (first | simp only [go_sem, Int.reduceLT, Int.reduceLE, Int.reduceNeg, Int.reduceEq, Nat.reduceAdd, Nat.reduceEqDiff, Nat.reduceLeDiff, Nat.reduceBEq, reduceIte, reduceCtorEq, h2, h3, h20, h21, h22, hh, show decide ((i : Int) < (l.length : Int)) = false by simpa using hge] | (with_reducible first | apply c1 | (first | apply c2 | apply c3) <;> (intro hc; simp only [hc]) | (first | apply c4 | apply c5) <;> (intro hc; rw [hc])))
      rw [planB, seatsB, hpr, List.all_eq_true.2 hj]
      simp [hlen]
theorem plan_res (p : VProblem) (hp : smP p) (l : List VSeat) (hl : l.length ≤ 1048576) : res Tryz.prog G0 42 [p.P, .lst (l.map VSeat.P)] = some (B (planB p l)) := by
  refine res_body c_plan_Right (Nat.le_of_ble_eq_true rfl) ?_
  simp only [m_plan_Right, Oo, Ou, Og, Ci, Om, Of, Ol, Ok]
  repeat' (first | simp only [go_sem, Int.reduceLT, Int.reduceLE, Int.reduceNeg, Int.reduceEq, Nat.reduceAdd, Nat.reduceEqDiff, Nat.reduceLeDiff, Nat.reduceBEq, reduceIte, reduceCtorEq, q_plan_each, planR_res p hp l hl] | (with_reducible first | apply c1 | (first | apply c2 | apply c3) <;> (intro hc; simp only [hc]) | (first | apply c4 | apply c5) <;> (intro hc; rw [hc])))
theorem rplan_res (p : VProblem) (hp : smP p) (l : List VSeat) (hl : l.length ≤ 1048576) : res Tryz.prog G0 48 [p.P, .lst (l.map VSeat.P)] = some (B (planB p l)) := by
  refine res_body c_ref19_Right (Nat.le_of_ble_eq_true rfl) ?_
  simp only [m_ref19_Right, Oo, Ou, Og, Ci, Om, Of, Ol, Ok]
  cases hpr : probB p with
  | false =>
    repeat' (first | simp only [go_sem, Int.reduceLT, Int.reduceLE, Int.reduceNeg, Int.reduceEq, Nat.reduceAdd, Nat.reduceEqDiff, Nat.reduceLeDiff, Nat.reduceBEq, reduceIte, reduceCtorEq, q_ref17_Right, rprob_res p hp, hpr] | (with_reducible first | apply c1 | (first | apply c2 | apply c3) <;> (intro hc; simp only [hc]) | (first | apply c4 | apply c5) <;> (intro hc; rw [hc])))
    simp [planB, hpr]
  | true =>
    by_cases hlen : l.length = p.classes.length
    case neg =>
      repeat' (first | simp only [go_sem, Int.reduceLT, Int.reduceLE, Int.reduceNeg, Int.reduceEq, Nat.reduceAdd, Nat.reduceEqDiff, Nat.reduceLeDiff, Nat.reduceBEq, reduceIte, reduceCtorEq, q_ref17_Right, rprob_res p hp, hpr, show decide ((l.length : Int) ≠ (p.classes.length : Int)) = true by (simp only [decide_eq_true_eq]; omega)] | (with_reducible first | apply c1 | (first | apply c2 | apply c3) <;> (intro hc; simp only [hc]) | (first | apply c4 | apply c5) <;> (intro hc; rw [hc])))
      simp [planB, hlen]
    repeat' (first | simp only [go_sem, Int.reduceLT, Int.reduceLE, Int.reduceNeg, Int.reduceEq, Nat.reduceAdd, Nat.reduceEqDiff, Nat.reduceLeDiff, Nat.reduceBEq, reduceIte, reduceCtorEq, q_ref17_Right, rprob_res p hp, hpr, show decide ((l.length : Int) ≠ (p.classes.length : Int)) = false by (simp; omega)] | (with_reducible first | apply c1 | (first | apply c2 | apply c3) <;> (intro hc; simp only [hc]) | (first | apply c4 | apply c5) <;> (intro hc; rw [hc])))
    refine X_for 5 l.length (fun i s => s.h.get 0 = some (.cells (DV.cells (.p p.P)) false) ∧ ∀ x ∈ (p.classes.zip l).take i, seatB x.1 x.2 = true) 0 (by omega) ?_ (Nat.zero_le _) ?_ ?_
    · simp only [go_sem, Int.reduceLT, Int.reduceLE, Int.reduceNeg, Int.reduceEq, Nat.reduceAdd, Nat.reduceEqDiff, Nat.reduceLeDiff, Nat.reduceBEq, reduceIte, reduceCtorEq]; rfl
    · exact ⟨by simp only [go_sem, Int.reduceLT, Int.reduceLE, Int.reduceNeg, Int.reduceEq, Nat.reduceAdd, Nat.reduceEqDiff, Nat.reduceLeDiff, Nat.reduceBEq, reduceIte, reduceCtorEq], by simp⟩
    intro i t h nx hf hi0 hi h5 hj
    obtain ⟨hh, hj⟩ := hj
    dsimp only at hh
    have h1 := hf 1 rfl; simp only [PT.get_set, Nat.reduceEqDiff, if_true, if_false, reduceIte, PT.get_leaf] at h1; have h2 := hf 2 rfl; simp only [PT.get_set, Nat.reduceEqDiff, if_true, if_false, reduceIte, PT.get_leaf] at h2
    clear hf
    rcases Nat.lt_or_ge i l.length with hlt | hge
    · obtain ⟨s, hs, _, _⟩ := get_dec (l := l) (i := i) (by simpa using hlt)
      obtain ⟨c, hc, _, _⟩ := get_dec (l := p.classes) (i := i) (by simp; omega)
      obtain ⟨z, hz, _, htz⟩ := get_dec (l := p.classes.zip l) (i := i) (by simp; omega)
      have hzz : z = (c, s) := by
        rw [List.getElem?_zip_eq_some] at hz
        obtain ⟨h1, h2⟩ := hz
        rw [hc] at h1; rw [hs] at h2
        cases h1; cases h2; rfl
      subst hzz
      have hdl : decide ((i : Int) < (l.length : Int)) = true := by simpa using hlt
      cases hsb : seatB c s with
      | false =>
        repeat' (first | simp only [go_sem, Int.reduceLT, Int.reduceLE, Int.reduceNeg, Int.reduceEq, Nat.reduceAdd, Nat.reduceEqDiff, Nat.reduceLeDiff, Nat.reduceBEq, reduceIte, reduceCtorEq, h1, h2, h5, hh, hs, hc, hdl, q_ref13_Seat, rseat_res, hsb] | (with_reducible first | apply c1 | (first | apply c2 | apply c3) <;> (intro hc; simp only [hc]) | (first | apply c4 | apply c5) <;> (intro hc; rw [hc])))
        have : seatsB p.classes l = false := by
          rw [seatsB, List.all_eq_false]
          exact ⟨(c, s), List.mem_of_getElem? hz, by simp [hsb]⟩
        simp [planB, this]
      | true =>
        repeat' (first | simp only [go_sem, Int.reduceLT, Int.reduceLE, Int.reduceNeg, Int.reduceEq, Nat.reduceAdd, Nat.reduceEqDiff, Nat.reduceLeDiff, Nat.reduceBEq, reduceIte, reduceCtorEq, h1, h2, h5, hh, hs, hc, hdl, q_ref13_Seat, rseat_res, hsb] | (with_reducible first | apply c1 | (first | apply c2 | apply c3) <;> (intro hc; simp only [hc]) | (first | apply c4 | apply c5) <;> (intro hc; rw [hc])))
        refine ⟨hlt, ?_⟩
        intro y hy
        rw [htz, List.mem_append, List.mem_singleton] at hy
        rcases hy with hy | rfl
        · exact hj y hy
        · exact hsb
    · rw [List.take_of_length_le (by simp; omega)] at hj
      repeat' (first | simp only [go_sem, Int.reduceLT, Int.reduceLE, Int.reduceNeg, Int.reduceEq, Nat.reduceAdd, Nat.reduceEqDiff, Nat.reduceLeDiff, Nat.reduceBEq, reduceIte, reduceCtorEq, h1, h2, h5, hh, show decide ((i : Int) < (l.length : Int)) = false by simpa using hge] | (with_reducible first | apply c1 | (first | apply c2 | apply c3) <;> (intro hc; simp only [hc]) | (first | apply c4 | apply c5) <;> (intro hc; rw [hc])))
      rw [planB, seatsB, hpr, List.all_eq_true.2 hj]
      simp [hlen]
def z5 : VSpot := ⟨⟨0, 0, 0, 0⟩, 0⟩
def pspotV (p : VProblem) (l : List VSeat) (c : Int) : VSpot := if 0 ≤ c ∧ c < l.length ∧ planB p l = true then ((p.classes[c.toNat]?).bind fun k => (l[c.toNat]?).map fun s => spotV k s).getD z5 else z5
def pspotB (p : VProblem) (l : List VSeat) (c : Int) : Bool := decide (0 ≤ c) && decide (c < l.length) && planB p l
theorem seats_get {cs : List VClass} {l : List VSeat} (h : seatsB cs l = true) {i : Nat} {c : VClass} {s : VSeat} (hc : cs[i]? = some c) (hs : l[i]? = some s) : seatB c s = true := by
  rw [seatsB, List.all_eq_true] at h
  exact h (c, s) (List.mem_of_getElem? (i := i) (List.getElem?_zip_eq_some.2 ⟨hc, hs⟩))
theorem pspot_res (p : VProblem) (hp : smP p) (l : List VSeat) (hl : l.length ≤ 1048576) (c : Int) : res Tryz.prog G0 60 [p.P, .lst (l.map VSeat.P), I c] = some (.tup [(pspotV p l c).P, B (pspotB p l c)]) := by
  refine res_body c_plan_Spot (Nat.le_of_ble_eq_true rfl) ?_
  simp only [m_plan_Spot, Oo, Ou, Og, Ci, Om, Of, Ol, Ok]
  by_cases h0 : c < 0
  case pos =>
    repeat' (first | simp only [go_sem, Int.reduceLT, Int.reduceLE, Int.reduceNeg, Int.reduceEq, Nat.reduceAdd, Nat.reduceEqDiff, Nat.reduceLeDiff, Nat.reduceBEq, reduceIte, reduceCtorEq, show decide (c < 0) = true by simpa using h0] | (with_reducible first | apply c1 | (first | apply c2 | apply c3) <;> (intro hc; simp only [hc]) | (first | apply c4 | apply c5) <;> (intro hc; rw [hc])))
    all_goals (simp [pspotV, pspotB, show ¬ 0 ≤ c by omega, z5, VSpot.P])
  obtain ⟨i, rfl⟩ := Int.eq_ofNat_of_zero_le (show 0 ≤ c by omega)
  by_cases h1 : i < l.length
  case neg =>
    repeat' (first | simp only [go_sem, Int.reduceLT, Int.reduceLE, Int.reduceNeg, Int.reduceEq, Nat.reduceAdd, Nat.reduceEqDiff, Nat.reduceLeDiff, Nat.reduceBEq, reduceIte, reduceCtorEq, show decide ((l.length : Int) ≤ (i : Int)) = true by (simp; omega)] | (with_reducible first | apply c1 | (first | apply c2 | apply c3) <;> (intro hc; simp only [hc]) | (first | apply c4 | apply c5) <;> (intro hc; rw [hc])))
    all_goals (simp [pspotV, pspotB, h1, z5, VSpot.P])
  cases hpl : planB p l with
  | false =>
    repeat' (first | simp only [go_sem, Int.reduceLT, Int.reduceLE, Int.reduceNeg, Int.reduceEq, Nat.reduceAdd, Nat.reduceEqDiff, Nat.reduceLeDiff, Nat.reduceBEq, reduceIte, reduceCtorEq, show decide ((l.length : Int) ≤ (i : Int)) = false by (simp; omega), q_plan_Right, plan_res p hp l hl, hpl] | (with_reducible first | apply c1 | (first | apply c2 | apply c3) <;> (intro hc; simp only [hc]) | (first | apply c4 | apply c5) <;> (intro hc; rw [hc])))
    all_goals (simp [pspotV, pspotB, hpl, z5, VSpot.P])
  | true =>
    have hpl' := hpl
    simp only [planB, Bool.and_eq_true, decide_eq_true_eq] at hpl'
    obtain ⟨s, hs, _, _⟩ := get_dec (l := l) (i := i) (by simpa using h1)
    obtain ⟨k, hk, _, _⟩ := get_dec (l := p.classes) (i := i) (by simp; omega)
    have hsb := seats_get hpl'.2 hk hs
    repeat' (first | simp only [go_sem, Int.reduceLT, Int.reduceLE, Int.reduceNeg, Int.reduceEq, Nat.reduceAdd, Nat.reduceEqDiff, Nat.reduceLeDiff, Nat.reduceBEq, reduceIte, reduceCtorEq, show decide ((l.length : Int) ≤ (i : Int)) = false by (simp; omega), q_plan_Right, plan_res p hp l hl, hpl, hk, hs, q_class_Spot, spot_res, hsb] | (with_reducible first | apply c1 | (first | apply c2 | apply c3) <;> (intro hc; simp only [hc]) | (first | apply c4 | apply c5) <;> (intro hc; rw [hc])))
    · rfl
    · rfl
    · have hsi : l[i] = s := (List.getElem?_eq_some_iff.1 hs).2
      simp [pspotV, pspotB, hpl, h1, hk, hs, hsi]
end Go.Proofs.YtddmnddocbmjnaaGreat.Dv
