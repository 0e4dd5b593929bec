/- Part 13 of the proof: CrowdPairs: whatever plain data comes in, the call returns true and leaves its arguments as they were. No condition. -/
import Derived.Test.YtddmnddocbmjnaaGreatPa12
import Derived.KernelRfl
set_option linter.all false
set_option linter.unusedVariables false
set_option linter.unusedSectionVars false
set_option linter.unusedSimpArgs false
namespace Go.Proofs.YtddmnddocbmjnaaGreat.Dv
def m_when_SameDay : MF := ⟨27, (.seq (.reg none [Oo 2 (.box (.t 0)), Oo 3 (.box (.t 1)), Oo 4 (.mov (.d (.p (.s (.bool false)))))]) (.seq (.reg none [Oo 5 (.load true 4 (.t 2)), Oo 6 (.call 215 [.t 5]), Om 7 6, Og 8 7 true (.load true 4 (.t 3)), Og 9 7 true (.call 215 [.t 8]), Oo 10 (.pick (.t 7) (.t 9) (.d (.p (.s (.bool false))))), Om 11 10, Og 12 11 true (.fadr 0 (.t 2)), Og 13 11 true (.load false 1 (.t 12)), Og 14 11 true (.fadr 0 (.t 3)), Og 15 11 true (.load false 1 (.t 14)), Og 16 11 true (.iop .and (.t 13) (.t 15)), Og 17 11 true (.iop .neq (.t 16) (.d (.p (.s (.int .u32 0))))), Oo 18 (.pick (.t 11) (.t 17) (.d (.p (.s (.bool false))))), Om 19 18, Og 20 19 true (.fadr 1 (.t 2)), Og 21 19 true (.load false 1 (.t 20)), Og 22 19 true (.fadr 1 (.t 3)), Og 23 19 true (.load false 1 (.t 22)), Og 24 19 true (.iop .and (.t 21) (.t 23)), Og 25 19 true (.iop .neq (.t 24) (.d (.p (.s (.int .u8 0))))), Oo 26 (.pick (.t 19) (.t 25) (.d (.p (.s (.bool false))))), Om 4 26]) .ret)), [.tmp 4]⟩
theorem c_when_SameDay : comp Tryz.prog G0 218 = some m_when_SameDay := by kernel_rfl
theorem q_when_SameDay : Q0 218 := mCall_pure rfl
def m_ref09_SameDay : MF := ⟨56, (.seq (.reg none [Oo 2 (.box (.t 0)), Oo 3 (.box (.t 1)), Oo 4 (.mov (.d (.p (.s (.bool false)))))]) (.seq (.reg none [Oo 5 (.mov (.d (.p (.s (.bool false))))), Oo 6 (.mov (.d (.p (.s (.bool false)))))]) (.seq (.seq (.reg none [Oo 7 (.mov (.d (Ci 0)))]) (.block 0 (.loop (.seq (.seq (.reg none [Om 8 7, Oo 9 (.iop .lss (.t 8) (.d (Ci 32)))]) (.cond (.t 9) .skip (.exit 0))) (.seq (.block 1 (.seq (.reg none [Om 12 5, Om 13 12, Og 14 13 false (.fadr 0 (.t 2)), Og 15 13 false (.load false 1 (.t 14)), Og 16 13 false (.mov (.t 7)), Og 17 13 false (.call 247 [.t 15, .t 16]), Og 18 13 false (.mov (.t 17)), Og 19 18 true (.fadr 0 (.t 3)), Og 20 18 true (.load false 1 (.t 19)), Og 21 18 true (.mov (.t 7)), Og 22 18 true (.call 247 [.t 20, .t 21]), Og 23 13 false (.pick (.t 18) (.t 22) (.d (.p (.s (.bool false))))), Oo 24 (.pick (.t 13) (.d (.p (.s (.bool true)))) (.t 23)), Om 5 24]) (.reg none [Om 25 6, Om 26 25, Og 27 26 false (.mov (.t 7)), Og 28 26 false (.iop .lss (.t 27) (.d (Ci 8))), Og 29 26 false (.mov (.t 28)), Og 30 29 true (.fadr 1 (.t 2)), Og 31 29 true (.load false 1 (.t 30)), Og 32 29 true (.cvI .u32 (.t 31)), Og 33 29 true (.mov (.t 7)), Og 34 29 true (.call 247 [.t 32, .t 33]), Og 35 26 false (.pick (.t 29) (.t 34) (.d (.p (.s (.bool false))))), Og 36 26 false (.mov (.t 35)), Og 37 36 true (.fadr 1 (.t 3)), Og 38 36 true (.load false 1 (.t 37)), Og 39 36 true (.cvI .u32 (.t 38)), Og 40 36 true (.mov (.t 7)), Og 41 36 true (.call 247 [.t 39, .t 40]), Og 42 26 false (.pick (.t 36) (.t 41) (.d (.p (.s (.bool false))))), Oo 43 (.pick (.t 26) (.d (.p (.s (.bool true)))) (.t 42)), Om 6 43]))) (.reg none [Om 10 7, Oo 11 (.iop .add (.t 10) (.d (Ci 1))), Om 7 11])))))) (.seq (.reg none [Oo 44 (.load true 4 (.t 2)), Oo 45 (.call 265 [.t 44]), Om 46 45, Og 47 46 true (.load true 4 (.t 3)), Og 48 46 true (.call 265 [.t 47]), Oo 49 (.pick (.t 46) (.t 48) (.d (.p (.s (.bool false))))), Om 50 49, Og 51 50 true (.mov (.t 5)), Oo 52 (.pick (.t 50) (.t 51) (.d (.p (.s (.bool false))))), Om 53 52, Og 54 53 true (.mov (.t 6)), Oo 55 (.pick (.t 53) (.t 54) (.d (.p (.s (.bool false))))), Om 4 55]) .ret)))), [.tmp 4]⟩
theorem c_ref09_SameDay : comp Tryz.prog G0 252 = some m_ref09_SameDay := by kernel_rfl
theorem q_ref09_SameDay : Q0 252 := mCall_pure rfl
def m_when_Both : MF := ⟨48, (.seq (.reg none [Oo 2 (.box (.t 0)), Oo 3 (.box (.t 1)), Oo 4 (.alloc [(.p (.s (.int .u32 0))), (.p (.s (.int .u8 0))), (Ci 0), (Ci 0)]), Oo 5 (.mov (.d (.p (.s (.bool false)))))]) (.seq (.seq (.reg none [Oo 8 (.load true 4 (.t 2)), Oo 9 (.load true 4 (.t 3)), Oo 10 (.call 218 [.t 8, .t 9]), Oo 11 (.un .not (.t 10))]) (.cond (.t 11) (.seq (.reg none [Oo 12 (.bld [(.p (.s (.int .u32 0))), (.p (.s (.int .u8 0))), (Ci 0), (Ci 0)] []), Ou (.store 4 (.t 4) (.t 12)), Oo 5 (.mov (.d (.p (.s (.bool false)))))]) .ret) .skip)) (.seq (.reg (some #[0, 1, 0, 4, 15, 0, 32, 0, 128, 480, 0, 1024, 0, 4096, 15360, 32736, 31, 131071]) [Of 13 2 2, Ol 14 13, Of 15 2 3, Ol 16 15, Oo 17 (.mx true (.t 14) [.t 16]), Of 18 2 2, Ol 19 18, Of 20 3 2, Ol 21 20, Oo 22 (.iop .add (.t 19) (.t 21)), Of 23 2 3, Ol 24 23, Of 25 3 3, Ol 26 25, Oo 27 (.iop .add (.t 24) (.t 26)), Oo 28 (.mx false (.t 22) [.t 27]), Om 6 17, Om 7 28]) (.seq (.seq (.reg none [Om 29 6, Om 30 7, Oo 31 (.iop .geq (.t 29) (.t 30))]) (.cond (.t 31) (.seq (.reg none [Oo 32 (.bld [(.p (.s (.int .u32 0))), (.p (.s (.int .u8 0))), (Ci 0), (Ci 0)] []), Ou (.store 4 (.t 4) (.t 32)), Oo 5 (.mov (.d (.p (.s (.bool false)))))]) .ret) .skip)) (.seq (.reg none [Of 33 0 2, Ol 34 33, Of 35 0 3, Ol 36 35, Oo 37 (.iop .and (.t 34) (.t 36)), Of 38 1 2, Ol 39 38, Of 40 1 3, Ol 41 40, Oo 42 (.iop .and (.t 39) (.t 41)), Om 43 6, Om 44 7, Om 45 6, Oo 46 (.iop .sub (.t 44) (.t 45)), Oo 47 (.bld [(.p (.s (.int .u32 0))), (.p (.s (.int .u8 0))), (Ci 0), (Ci 0)] [(0, 1, (.t 37)), (1, 1, (.t 42)), (2, 1, (.t 43)), (3, 1, (.t 46))]), Ou (.store 4 (.t 4) (.t 47)), Oo 5 (.mov (.d (.p (.s (.bool true)))))]) .ret))))), [.cell 4 true 4, .tmp 5]⟩
theorem c_when_Both : comp Tryz.prog G0 216 = some m_when_Both := by kernel_rfl
theorem q_when_Both : Q0 216 := mCall_pure rfl
def m_when_Meet : MF := ⟨14, (.seq (.reg none [Oo 2 (.box (.t 0)), Oo 3 (.box (.t 1)), Oo 4 (.mov (.d (.p (.s (.bool false)))))]) (.seq (.reg none [Oo 8 (.load true 4 (.t 2)), Oo 9 (.load true 4 (.t 3)), Oo 10 (.call 216 [.t 8, .t 9]), Om 7 10, Oo 11 (.xtr 0 (.t 7)), Oo 12 (.xtr 1 (.t 7)), Oo 5 (.alloc [(.p (.s (.int .u32 0))), (.p (.s (.int .u8 0))), (Ci 0), (Ci 0)]), Ou (.store 4 (.t 5) (.t 11)), Om 6 12]) (.seq (.reg none [Om 13 6, Om 4 13]) .ret))), [.tmp 4]⟩
theorem c_when_Meet : comp Tryz.prog G0 163 = some m_when_Meet := by kernel_rfl
theorem q_when_Meet : Q0 163 := mCall_pure rfl
def sameDayB (a b : VWhen) : Bool := tameB a && tameB b && decide (a.weeks.val &&& b.weeks.val ≠ 0) && decide (a.days.val &&& b.days.val ≠ 0)
def overlapB (a b : VWhen) : Bool := decide (max a.start b.start < min (a.start + a.len) (b.start + b.len))
def meetB (a b : VWhen) : Bool := sameDayB a b && overlapB a b
theorem any_and {n k m : Nat} (hn : n < 2 ^ m) : ((List.range m).any fun j => n.testBit j && k.testBit j) = decide (n &&& k ≠ 0) := by
  rw [Bool.eq_iff_iff, List.any_eq_true, decide_eq_true_eq, and_some hn]
  simp only [List.mem_range, Bool.and_eq_true]
theorem any_and8 {n k : Nat} (hn : n < 256) : ((List.range 32).any fun j => decide (j < 8) && (n.testBit j && k.testBit j)) = decide (n &&& k ≠ 0) := by
  rw [Bool.eq_iff_iff, List.any_eq_true, decide_eq_true_eq, and_some (m := 8) (by exact hn)]
  simp only [List.mem_range, Bool.and_eq_true, decide_eq_true_eq]
  constructor
  · rintro ⟨i, _, h1, h2⟩; exact ⟨i, h1, h2⟩
  · rintro ⟨i, h1, h2⟩; exact ⟨i, by omega, h1, h2⟩
theorem sameDay_res (a b : VWhen) : res Tryz.prog G0 218 [a.P, b.P] = some (B (sameDayB a b)) := by
  refine res_body c_when_SameDay (Nat.le_of_ble_eq_true rfl) ?_
  simp only [m_when_SameDay, Oo, Ou, Og, Ci, Om, Of, Ol, Ok]
  repeat' (first | simp only [go_sem, Int.reduceLT, Int.reduceLE, Int.reduceNeg, Int.reduceEq, Nat.reduceAdd, Nat.reduceEqDiff, Nat.reduceLeDiff, Nat.reduceBEq, reduceIte, reduceCtorEq, q_when_tame, tame_res, andI_nat32 a.weeks.isLt b.weeks.isLt, andI_nat8 a.days.isLt b.days.isLt] | (with_reducible first | apply c1 | (first | apply c2 | apply c3) <;> (intro hc; simp only [hc]) | (first | apply c4 | apply c5) <;> (intro hc; rw [hc])))
  all_goals (try (rw [s_bool, Bool.eq_iff_iff]; (try simp only [Bool.and_eq_true, Bool.or_eq_true, Bool.and_eq_false_iff, Bool.or_eq_false_iff, Bool.not_eq_true', Bool.not_eq_false', decide_eq_true_eq, decide_eq_false_iff_not, Bool.true_eq_false, Bool.false_eq_true, iff_true, true_iff, iff_false, false_iff, and_true, true_and, and_false, false_and, ne_eq, Decidable.not_not, not_true_eq_false, not_false_eq_true, Int.natCast_eq_zero, sameDayB] at *); first | done | omega | (simp_all; done) | (simp_all; omega)))
set_option maxHeartbeats 1000000 in
theorem rsameDay_res (a b : VWhen) : res Tryz.prog G0 252 [a.P, b.P] = some (B (sameDayB a b)) := by
  refine res_body c_ref09_SameDay (Nat.le_of_ble_eq_true rfl) ?_
  simp only [m_ref09_SameDay, Oo, Ou, Og, Ci, Om, Of, Ol, Ok]
  repeat' (first | simp only [go_sem, Int.reduceLT, Int.reduceLE, Int.reduceNeg, Int.reduceEq, Nat.reduceAdd, Nat.reduceEqDiff, Nat.reduceLeDiff, Nat.reduceBEq, reduceIte, reduceCtorEq] | (with_reducible first | apply c1 | (first | apply c2 | apply c3) <;> (intro hc; simp only [hc]) | (first | apply c4 | apply c5) <;> (intro hc; rw [hc])))
  refine X_for 7 32 (fun i s => s.h.get 0 = some (.cells (DV.cells (.p a.P)) false) ∧ s.h.get 1 = some (.cells (DV.cells (.p b.P)) false) ∧ s.t.get 5 = some (.p (.s (.bool ((List.range i).any fun j => a.weeks.val.testBit j && b.weeks.val.testBit j)))) ∧ s.t.get 6 = some (.p (.s (.bool ((List.range i).any fun j => decide (j < 8) && (a.days.val.testBit j && b.days.val.testBit j)))))) 0 (by decide) ?_ (by omega) ⟨by simp only [go_sem, Int.reduceLT, Int.reduceLE, Int.reduceNeg, Int.reduceEq, Nat.reduceAdd, Nat.reduceEqDiff, Nat.reduceLeDiff, Nat.reduceBEq, reduceIte, reduceCtorEq], by simp only [go_sem, Int.reduceLT, Int.reduceLE, Int.reduceNeg, Int.reduceEq, Nat.reduceAdd, Nat.reduceEqDiff, Nat.reduceLeDiff, Nat.reduceBEq, reduceIte, reduceCtorEq], by simp only [go_sem, Int.reduceLT, Int.reduceLE, Int.reduceNeg, Int.reduceEq, Nat.reduceAdd, Nat.reduceEqDiff, Nat.reduceLeDiff, Nat.reduceBEq, reduceIte, reduceCtorEq]; rfl, by simp only [go_sem, Int.reduceLT, Int.reduceLE, Int.reduceNeg, Int.reduceEq, Nat.reduceAdd, Nat.reduceEqDiff, Nat.reduceLeDiff, Nat.reduceBEq, reduceIte, reduceCtorEq]; rfl⟩ ?_
  · simp only [go_sem, Int.reduceLT, Int.reduceLE, Int.reduceNeg, Int.reduceEq, Nat.reduceAdd, Nat.reduceEqDiff, Nat.reduceLeDiff, Nat.reduceBEq, reduceIte, reduceCtorEq]; rfl
  intro i t h nx hf hi0 hi h7 hj
  obtain ⟨hh0, hh1, h5, h6⟩ := hj
  dsimp only at hh0 hh1 h5 h6
  have h2 := hf 2 rfl; simp only [PT.get_set, Nat.reduceEqDiff, if_true, if_false, reduceIte, PT.get_leaf] at h2; have h3 := hf 3 rfl; simp only [PT.get_set, Nat.reduceEqDiff, if_true, if_false, reduceIte, PT.get_leaf] at h3
  clear hf
  generalize hw : ((List.range i).any fun j => a.weeks.val.testBit j && b.weeks.val.testBit j) = u at h5
  generalize hd : ((List.range i).any fun j => decide (j < 8) && (a.days.val.testBit j && b.days.val.testBit j)) = v at h6
  have su : ((List.range (i + 1)).any fun j => a.weeks.val.testBit j && b.weeks.val.testBit j) = (u || (a.weeks.val.testBit i && b.weeks.val.testBit i)) := by rw [List.range_succ, List.any_append, hw]; simp
  have sv : ((List.range (i + 1)).any fun j => decide (j < 8) && (a.days.val.testBit j && b.days.val.testBit j)) = (v || (decide ((i : Int) < 8) && (a.days.val.testBit i && b.days.val.testBit i))) := by
    rw [List.range_succ, List.any_append, hd]
    have : decide (i < 8) = decide ((i : Int) < 8) := by simp; omega
    simp [this]
  rw [List.range_succ] at su sv
  rcases Nat.lt_or_ge i 32 with hlt | hge
  · have h32 : decide ((i : Int) < 32) = true := by simp; omega
    repeat' (first | simp only [go_sem, Int.reduceLT, Int.reduceLE, Int.reduceNeg, Int.reduceEq, Nat.reduceAdd, Nat.reduceEqDiff, Nat.reduceLeDiff, Nat.reduceBEq, reduceIte, reduceCtorEq, h2, h3, h5, h6, h7, hh0, hh1, su, sv, q_ref09_bit, bit_res a.weeks.val a.weeks.isLt i (by omega), bit_res b.weeks.val b.weeks.isLt i (by omega), wrap_u32 (show a.days.val < 4294967296 by omega), wrap_u32 (show b.days.val < 4294967296 by omega), bit_res a.days.val (by omega) i (by omega), bit_res b.days.val (by omega) i (by omega), Bool.and_true, Bool.and_false, Bool.true_and, Bool.false_and, Bool.or_true, Bool.or_false, Bool.true_or, Bool.false_or, q_ref09_Tame, rtame_res, h32] | (with_reducible first | apply c1 | (first | apply c2 | apply c3) <;> (intro hc; simp only [hc]) | (first | apply c4 | apply c5) <;> (intro hc; rw [hc])))
    all_goals (simp_all)
    all_goals (intro h8; exfalso; omega)
  · have hi32 : i = 32 := by omega
    have eu : u = decide (a.weeks.val &&& b.weeks.val ≠ 0) := by rw [← hw, hi32]; exact any_and a.weeks.isLt
    have ev : v = decide (a.days.val &&& b.days.val ≠ 0) := by rw [← hd, hi32]; exact any_and8 a.days.isLt
    have h32 : decide ((i : Int) < 32) = false := by simp; omega
    repeat' (first | simp only [go_sem, Int.reduceLT, Int.reduceLE, Int.reduceNeg, Int.reduceEq, Nat.reduceAdd, Nat.reduceEqDiff, Nat.reduceLeDiff, Nat.reduceBEq, reduceIte, reduceCtorEq, h2, h3, h5, h6, h7, hh0, hh1, su, sv, q_ref09_bit, bit_res a.weeks.val a.weeks.isLt i (by omega), bit_res b.weeks.val b.weeks.isLt i (by omega), wrap_u32 (show a.days.val < 4294967296 by omega), wrap_u32 (show b.days.val < 4294967296 by omega), bit_res a.days.val (by omega) i (by omega), bit_res b.days.val (by omega) i (by omega), Bool.and_true, Bool.and_false, Bool.true_and, Bool.false_and, Bool.or_true, Bool.or_false, Bool.true_or, Bool.false_or, q_ref09_Tame, rtame_res, h32] | (with_reducible first | apply c1 | (first | apply c2 | apply c3) <;> (intro hc; simp only [hc]) | (first | apply c4 | apply c5) <;> (intro hc; rw [hc])))
    all_goals (simp_all [sameDayB])
theorem both_res (a b : VWhen) : ∃ v : VWhen, res Tryz.prog G0 216 [a.P, b.P] = some (.tup [v.P, B (meetB a b)]) := by
  cases hs : sameDayB a b with
  | false =>
    refine ⟨⟨0, 0, 0, 0⟩, res_body c_when_Both (Nat.le_of_ble_eq_true rfl) ?_⟩
    simp only [m_when_Both, Oo, Ou, Og, Ci, Om, Of, Ol, Ok]
    repeat' (first | simp only [go_sem, Int.reduceLT, Int.reduceLE, Int.reduceNeg, Int.reduceEq, Nat.reduceAdd, Nat.reduceEqDiff, Nat.reduceLeDiff, Nat.reduceBEq, reduceIte, reduceCtorEq, q_when_SameDay, sameDay_res, hs] | (with_reducible first | apply c1 | (first | apply c2 | apply c3) <;> (intro hc; simp only [hc]) | (first | apply c4 | apply c5) <;> (intro hc; rw [hc])))
    all_goals (simp_all [meetB, VWhen.P])
  | true =>
    have ha : tameB a = true := by simp [sameDayB] at hs; exact hs.1.1.1
    have hb : tameB b = true := by simp [sameDayB] at hs; exact hs.1.1.2
    simp only [tameB, Bool.and_eq_true, decide_eq_true_eq] at ha hb
    by_cases ho : max a.start b.start < min (a.start + a.len) (b.start + b.len)
    · refine ⟨⟨⟨a.weeks.val &&& b.weeks.val, Nat.lt_of_le_of_lt Nat.and_le_left a.weeks.isLt⟩, ⟨a.days.val &&& b.days.val, Nat.lt_of_le_of_lt Nat.and_le_left a.days.isLt⟩, max a.start b.start, min (a.start + a.len) (b.start + b.len) - max a.start b.start⟩, res_body c_when_Both (Nat.le_of_ble_eq_true rfl) ?_⟩
      simp only [m_when_Both, Oo, Ou, Og, Ci, Om, Of, Ol, Ok]
      repeat' (first | simp only [go_sem, Int.reduceLT, Int.reduceLE, Int.reduceNeg, Int.reduceEq, Nat.reduceAdd, Nat.reduceEqDiff, Nat.reduceLeDiff, Nat.reduceBEq, reduceIte, reduceCtorEq, q_when_SameDay, sameDay_res, hs, wrap_id (show -9223372036854775808 ≤ a.start + a.len by omega) (by omega), wrap_id (show -9223372036854775808 ≤ b.start + b.len by omega) (by omega), wrap_id (show -9223372036854775808 ≤ min (a.start + a.len) (b.start + b.len) - max a.start b.start by omega) (by omega), show decide (min (a.start + a.len) (b.start + b.len) ≤ max a.start b.start) = false by (simp only [decide_eq_false_iff_not]; omega), andI_nat32 a.weeks.isLt b.weeks.isLt, andI_nat8 a.days.isLt b.days.isLt] | (with_reducible first | apply c1 | (first | apply c2 | apply c3) <;> (intro hc; simp only [hc]) | (first | apply c4 | apply c5) <;> (intro hc; rw [hc])))
      all_goals (simp [meetB, VWhen.P, hs, overlapB, ho])
    · refine ⟨⟨0, 0, 0, 0⟩, res_body c_when_Both (Nat.le_of_ble_eq_true rfl) ?_⟩
      simp only [m_when_Both, Oo, Ou, Og, Ci, Om, Of, Ol, Ok]
      repeat' (first | simp only [go_sem, Int.reduceLT, Int.reduceLE, Int.reduceNeg, Int.reduceEq, Nat.reduceAdd, Nat.reduceEqDiff, Nat.reduceLeDiff, Nat.reduceBEq, reduceIte, reduceCtorEq, q_when_SameDay, sameDay_res, hs, wrap_id (show -9223372036854775808 ≤ a.start + a.len by omega) (by omega), wrap_id (show -9223372036854775808 ≤ b.start + b.len by omega) (by omega), show decide (min (a.start + a.len) (b.start + b.len) ≤ max a.start b.start) = true by (simp only [decide_eq_true_eq]; omega)] | (with_reducible first | apply c1 | (first | apply c2 | apply c3) <;> (intro hc; simp only [hc]) | (first | apply c4 | apply c5) <;> (intro hc; rw [hc])))
      all_goals (simp [meetB, VWhen.P, hs, overlapB, ho])
theorem meet_res (a b : VWhen) : res Tryz.prog G0 163 [a.P, b.P] = some (B (meetB a b)) := by
  obtain ⟨v, hv⟩ := both_res a b
  refine res_body c_when_Meet (Nat.le_of_ble_eq_true rfl) ?_
  simp only [m_when_Meet, Oo, Ou, Og, Ci, Om, Of, Ol, Ok]
  repeat' (first | simp only [go_sem, Int.reduceLT, Int.reduceLE, Int.reduceNeg, Int.reduceEq, Nat.reduceAdd, Nat.reduceEqDiff, Nat.reduceLeDiff, Nat.reduceBEq, reduceIte, reduceCtorEq, q_when_Both, hv] | (with_reducible first | apply c1 | (first | apply c2 | apply c3) <;> (intro hc; simp only [hc]) | (first | apply c4 | apply c5) <;> (intro hc; rw [hc])))
end Go.Proofs.YtddmnddocbmjnaaGreat.Dv
namespace Go.Proofs.YtddmnddocbmjnaaGreat.Dv
def m_ref09_slots : MF := ⟨38, (.seq (.reg none [Oo 2 (.box (.t 0)), Oo 3 (.box (.t 1)), Oo 4 (.mov (.d (.p (.s (.bool false)))))]) (.seq (.seq (.reg none [Oo 5 (.mov (.d (Ci 0)))]) (.block 0 (.loop (.seq (.seq (.reg none [Om 6 5, Oo 7 (.iop .lss (.t 6) (.d (Ci 192)))]) (.cond (.t 7) .skip (.exit 0))) (.seq (.block 1 (.seq (.reg none [Om 10 5, Of 11 2 2, Ol 12 11, Oo 13 (.iop .geq (.t 10) (.t 12)), Om 14 13, Og 15 14 true (.mov (.t 5)), Og 16 14 true (.fadr 2 (.t 2)), Og 17 14 true (.load false 1 (.t 16)), Og 18 14 true (.fadr 3 (.t 2)), Og 19 14 true (.load false 1 (.t 18)), Og 20 14 true (.iop .add (.t 17) (.t 19)), Og 21 14 true (.iop .lss (.t 15) (.t 20)), Oo 22 (.pick (.t 14) (.t 21) (.d (.p (.s (.bool false))))), Om 23 22, Og 24 23 true (.mov (.t 5)), Og 25 23 true (.fadr 2 (.t 3)), Og 26 23 true (.load false 1 (.t 25)), Og 27 23 true (.iop .geq (.t 24) (.t 26)), Oo 28 (.pick (.t 23) (.t 27) (.d (.p (.s (.bool false))))), Om 29 28, Og 30 29 true (.mov (.t 5)), Og 31 29 true (.fadr 2 (.t 3)), Og 32 29 true (.load false 1 (.t 31)), Og 33 29 true (.fadr 3 (.t 3)), Og 34 29 true (.load false 1 (.t 33)), Og 35 29 true (.iop .add (.t 32) (.t 34)), Og 36 29 true (.iop .lss (.t 30) (.t 35)), Oo 37 (.pick (.t 29) (.t 36) (.d (.p (.s (.bool false)))))]) (.cond (.t 37) (.seq (.reg none [Oo 4 (.mov (.d (.p (.s (.bool true)))))]) .ret) .skip))) (.reg none [Om 8 5, Oo 9 (.iop .add (.t 8) (.d (Ci 1))), Om 5 9])))))) (.seq (.reg none [Oo 4 (.mov (.d (.p (.s (.bool false)))))]) .ret))), [.tmp 4]⟩
theorem c_ref09_slots : comp Tryz.prog G0 263 = some m_ref09_slots := by kernel_rfl
theorem q_ref09_slots : Q0 263 := mCall_pure rfl
def m_ref09_Meet : MF := ⟨13, (.seq (.reg none [Oo 2 (.box (.t 0)), Oo 3 (.box (.t 1)), Oo 4 (.mov (.d (.p (.s (.bool false)))))]) (.seq (.reg none [Oo 5 (.load true 4 (.t 2)), Oo 6 (.load true 4 (.t 3)), Oo 7 (.call 252 [.t 5, .t 6]), Om 8 7, Og 9 8 true (.load true 4 (.t 2)), Og 10 8 true (.load true 4 (.t 3)), Og 11 8 true (.call 263 [.t 9, .t 10]), Oo 12 (.pick (.t 8) (.t 11) (.d (.p (.s (.bool false))))), Om 4 12]) .ret)), [.tmp 4]⟩
theorem c_ref09_Meet : comp Tryz.prog G0 250 = some m_ref09_Meet := by kernel_rfl
theorem q_ref09_Meet : Q0 250 := mCall_pure rfl
def m_ref09_Gap : MF := ⟨36, (.seq (.reg none [Oo 2 (.box (.t 0)), Oo 3 (.box (.t 1)), Oo 4 (.mov (.d (Ci 0))), Oo 5 (.mov (.d (.p (.s (.bool false)))))]) (.seq (.seq (.reg none [Oo 6 (.load true 4 (.t 2)), Oo 7 (.load true 4 (.t 3)), Oo 8 (.call 252 [.t 6, .t 7]), Oo 9 (.un .not (.t 8)), Om 10 9, Og 11 10 false (.load true 4 (.t 2)), Og 12 10 false (.load true 4 (.t 3)), Og 13 10 false (.call 263 [.t 11, .t 12]), Oo 14 (.pick (.t 10) (.d (.p (.s (.bool true)))) (.t 13))]) (.cond (.t 14) (.seq (.reg none [Oo 4 (.mov (.d (Ci 0))), Oo 5 (.mov (.d (.p (.s (.bool false)))))]) .ret) .skip)) (.seq (.seq (.reg none [Of 15 2 2, Ol 16 15, Of 17 2 3, Ol 18 17, Oo 19 (.iop .lss (.t 16) (.t 18))]) (.cond (.t 19) (.seq (.reg none [Of 20 2 3, Ol 21 20, Of 22 2 2, Ol 23 22, Oo 24 (.iop .sub (.t 21) (.t 23)), Of 25 3 2, Ol 26 25, Oo 27 (.iop .sub (.t 24) (.t 26)), Om 4 27, Oo 5 (.mov (.d (.p (.s (.bool true)))))]) .ret) .skip)) (.seq (.reg none [Of 28 2 2, Ol 29 28, Of 30 2 3, Ol 31 30, Oo 32 (.iop .sub (.t 29) (.t 31)), Of 33 3 3, Ol 34 33, Oo 35 (.iop .sub (.t 32) (.t 34)), Om 4 35, Oo 5 (.mov (.d (.p (.s (.bool true)))))]) .ret)))), [.tmp 4, .tmp 5]⟩
theorem c_ref09_Gap : comp Tryz.prog G0 266 = some m_ref09_Gap := by kernel_rfl
theorem q_ref09_Gap : Q0 266 := mCall_pure rfl
def m_when_Gap : MF := ⟨32, (.seq (.reg none [Oo 2 (.box (.t 0)), Oo 3 (.box (.t 1)), Oo 4 (.mov (.d (Ci 0))), Oo 5 (.mov (.d (.p (.s (.bool false)))))]) (.seq (.seq (.reg none [Oo 6 (.load true 4 (.t 2)), Oo 7 (.load true 4 (.t 3)), Oo 8 (.call 218 [.t 6, .t 7]), Oo 9 (.un .not (.t 8)), Om 10 9, Og 11 10 false (.load true 4 (.t 2)), Og 12 10 false (.load true 4 (.t 3)), Og 13 10 false (.call 163 [.t 11, .t 12]), Oo 14 (.pick (.t 10) (.d (.p (.s (.bool true)))) (.t 13))]) (.cond (.t 14) (.seq (.reg none [Oo 4 (.mov (.d (Ci 0))), Oo 5 (.mov (.d (.p (.s (.bool false)))))]) .ret) .skip)) (.seq (.reg none [Of 15 2 2, Ol 16 15, Of 17 2 3, Ol 18 17, Oo 19 (.mx true (.t 16) [.t 18]), Of 20 2 2, Ol 21 20, Of 22 3 2, Ol 23 22, Oo 24 (.iop .add (.t 21) (.t 23)), Of 25 2 3, Ol 26 25, Of 27 3 3, Ol 28 27, Oo 29 (.iop .add (.t 26) (.t 28)), Oo 30 (.mx false (.t 24) [.t 29]), Oo 31 (.iop .sub (.t 19) (.t 30)), Om 4 31, Oo 5 (.mov (.d (.p (.s (.bool true)))))]) .ret))), [.tmp 4, .tmp 5]⟩
theorem c_when_Gap : comp Tryz.prog G0 219 = some m_when_Gap := by kernel_rfl
theorem q_when_Gap : Q0 219 := mCall_pure rfl
def m_person_Reach : MF := ⟨25, (.seq (.reg none [Oo 3 (.box (.t 0)), Oo 4 (.box (.t 1)), Oo 6 (.mov (.d (.p (.s (.bool false)))))]) (.seq (.seq (.reg none [Oo 9 (.load true 4 (.t 3)), Oo 10 (.load true 4 (.t 4)), Oo 11 (.call 163 [.t 9, .t 10])]) (.cond (.t 11) (.seq (.reg none [Oo 6 (.mov (.d (.p (.s (.bool false)))))]) .ret) .skip)) (.seq (.reg none [Oo 13 (.load true 4 (.t 3)), Oo 14 (.load true 4 (.t 4)), Oo 15 (.call 219 [.t 13, .t 14]), Om 12 15, Oo 16 (.xtr 0 (.t 12)), Oo 17 (.xtr 1 (.t 12)), Om 7 16, Om 8 17]) (.seq (.reg none [Om 18 8, Oo 19 (.un .not (.t 18)), Om 20 19, Og 21 20 false (.mov (.t 7)), Og 22 20 false (.mov (.t 2)), Og 23 20 false (.iop .geq (.t 21) (.t 22)), Oo 24 (.pick (.t 20) (.d (.p (.s (.bool true)))) (.t 23)), Om 6 24]) .ret)))), [.tmp 6]⟩
theorem c_person_Reach : comp Tryz.prog G0 167 = some m_person_Reach := by kernel_rfl
theorem q_person_Reach : Q0 167 := mCall_pure rfl
def m_ref12_Reach : MF := ⟨28, (.seq (.reg none [Oo 3 (.box (.t 0)), Oo 4 (.box (.t 1)), Oo 6 (.mov (.d (.p (.s (.bool false)))))]) (.seq (.reg none [Oo 10 (.load true 4 (.t 3)), Oo 11 (.load true 4 (.t 4)), Oo 12 (.call 266 [.t 10, .t 11]), Om 9 12, Oo 13 (.xtr 0 (.t 9)), Oo 14 (.xtr 1 (.t 9)), Om 7 13, Om 8 14]) (.seq (.reg none [Oo 15 (.load true 4 (.t 3)), Oo 16 (.load true 4 (.t 4)), Oo 17 (.call 250 [.t 15, .t 16]), Oo 18 (.un .not (.t 17)), Om 19 18, Og 20 19 true (.mov (.t 8)), Og 21 19 true (.un .not (.t 20)), Og 22 19 true (.mov (.t 21)), Og 23 22 false (.mov (.t 7)), Og 24 22 false (.mov (.t 2)), Og 25 22 false (.iop .geq (.t 23) (.t 24)), Og 26 19 true (.pick (.t 22) (.d (.p (.s (.bool true)))) (.t 25)), Oo 27 (.pick (.t 19) (.t 26) (.d (.p (.s (.bool false))))), Om 6 27]) .ret))), [.tmp 6]⟩
theorem c_ref12_Reach : comp Tryz.prog G0 253 = some m_ref12_Reach := by kernel_rfl
theorem q_ref12_Reach : Q0 253 := mCall_pure rfl
def m_room_Walk : MF := ⟨35, (.seq (.reg none [Oo 6 (.mov (.d (Ci 0)))]) (.seq (.seq (.reg none [Om 7 1, Oo 8 (.iop .lss (.t 7) (.d (Ci 0))), Om 9 8, Og 10 9 false (.mov (.t 2)), Og 11 9 false (.iop .lss (.t 10) (.d (Ci 0))), Oo 12 (.pick (.t 9) (.d (.p (.s (.bool true)))) (.t 11)), Om 13 12, Og 14 13 false (.mov (.t 1)), Og 15 13 false (.mov (.t 0)), Og 16 13 false (.lenL (.t 15)), Og 17 13 false (.iop .geq (.t 14) (.t 16)), Oo 18 (.pick (.t 13) (.d (.p (.s (.bool true)))) (.t 17)), Om 19 18, Og 20 19 false (.mov (.t 2)), Og 21 19 false (.mov (.t 0)), Og 22 19 false (.mov (.t 1)), Og 23 19 false (.iadrS 1 (.t 21) (.t 22)), Og 24 19 false (.load false 1 (.t 23)), Og 25 19 false (.lenL (.t 24)), Og 26 19 false (.iop .geq (.t 20) (.t 25)), Oo 27 (.pick (.t 19) (.d (.p (.s (.bool true)))) (.t 26))]) (.cond (.t 27) (.seq (.reg none [Oo 6 (.mov (.d (Ci 0)))]) .ret) .skip)) (.seq (.reg none [Om 28 0, Om 29 1, Oo 30 (.iadrS 1 (.t 28) (.t 29)), Ol 31 30, Om 32 2, Oo 33 (.iadrS 1 (.t 31) (.t 32)), Ol 34 33, Om 6 34]) .ret))), [.tmp 6]⟩
theorem c_room_Walk : comp Tryz.prog G0 62 = some m_room_Walk := by kernel_rfl
theorem q_room_Walk : Q0 62 := mCall_pure rfl
def m_ref11_Walk : MF := ⟨35, (.seq (.reg none [Oo 6 (.mov (.d (Ci 0)))]) (.seq (.seq (.reg none [Om 7 1, Oo 8 (.iop .lss (.t 7) (.d (Ci 0))), Om 9 8, Og 10 9 false (.mov (.t 1)), Og 11 9 false (.mov (.t 0)), Og 12 9 false (.lenL (.t 11)), Og 13 9 false (.iop .geq (.t 10) (.t 12)), Oo 14 (.pick (.t 9) (.d (.p (.s (.bool true)))) (.t 13)), Om 15 14, Og 16 15 false (.mov (.t 2)), Og 17 15 false (.iop .lss (.t 16) (.d (Ci 0))), Oo 18 (.pick (.t 15) (.d (.p (.s (.bool true)))) (.t 17)), Om 19 18, Og 20 19 false (.mov (.t 2)), Og 21 19 false (.mov (.t 0)), Og 22 19 false (.mov (.t 1)), Og 23 19 false (.iadrS 1 (.t 21) (.t 22)), Og 24 19 false (.load false 1 (.t 23)), Og 25 19 false (.lenL (.t 24)), Og 26 19 false (.iop .geq (.t 20) (.t 25)), Oo 27 (.pick (.t 19) (.d (.p (.s (.bool true)))) (.t 26))]) (.cond (.t 27) (.seq (.reg none [Oo 6 (.mov (.d (Ci 0)))]) .ret) .skip)) (.seq (.reg none [Om 28 0, Om 29 1, Oo 30 (.iadrS 1 (.t 28) (.t 29)), Ol 31 30, Om 32 2, Oo 33 (.iadrS 1 (.t 31) (.t 32)), Ol 34 33, Om 6 34]) .ret))), [.tmp 6]⟩
theorem c_ref11_Walk : comp Tryz.prog G0 171 = some m_ref11_Walk := by kernel_rfl
theorem q_ref11_Walk : Q0 171 := mCall_pure rfl
def m_room_Name : MF := ⟨10, (.seq (.reg none [Oo 2 (.mov (.d (.p (.s (.bool false)))))]) (.seq (.reg none [Om 3 0, Oo 4 (.sop .neq (.t 3) (.d (.p (.s (.string ⟨#[]⟩))))), Om 5 4, Og 6 5 true (.mov (.t 0)), Og 7 5 true (.lenS (.t 6)), Og 8 5 true (.iop .leq (.t 7) (.d (Ci 24))), Oo 9 (.pick (.t 5) (.t 8) (.d (.p (.s (.bool false))))), Om 2 9]) .ret)), [.tmp 2]⟩
theorem c_room_Name : comp Tryz.prog G0 119 = some m_room_Name := by kernel_rfl
theorem q_room_Name : Q0 119 := mCall_pure rfl
def m_ref11_Name : MF := ⟨11, (.seq (.reg none [Oo 2 (.mov (.d (.p (.s (.bool false)))))]) (.seq (.reg none [Om 3 0, Oo 4 (.lenS (.t 3)), Oo 5 (.iop .geq (.t 4) (.d (Ci 1))), Om 6 5, Og 7 6 true (.mov (.t 0)), Og 8 6 true (.lenS (.t 7)), Og 9 6 true (.iop .leq (.t 8) (.d (Ci 24))), Oo 10 (.pick (.t 6) (.t 9) (.d (.p (.s (.bool false))))), Om 2 10]) .ret)), [.tmp 2]⟩
theorem c_ref11_Name : comp Tryz.prog G0 189 = some m_ref11_Name := by kernel_rfl
theorem q_ref11_Name : Q0 189 := mCall_pure rfl
theorem rslots_res (a b : VWhen) (ha : tameB a = true) (hb : tameB b = true) : res Tryz.prog G0 263 [a.P, b.P] = some (B (overlapB a b)) := by
  simp only [tameB, Bool.and_eq_true, decide_eq_true_eq] at ha hb
  refine res_body c_ref09_slots (Nat.le_of_ble_eq_true rfl) ?_
  simp only [m_ref09_slots, Oo, Ou, Og, Ci, Om, Of, Ol, Ok]
  repeat' (first | simp only [go_sem, Int.reduceLT, Int.reduceLE, Int.reduceNeg, Int.reduceEq, Nat.reduceAdd, Nat.reduceEqDiff, Nat.reduceLeDiff, Nat.reduceBEq, reduceIte, reduceCtorEq] | (with_reducible first | apply c1 | (first | apply c2 | apply c3) <;> (intro hc; simp only [hc]) | (first | apply c4 | apply c5) <;> (intro hc; rw [hc])))
  refine X_for 5 192 (fun i s => s.h.get 0 = some (.cells (DV.cells (.p a.P)) false) ∧ s.h.get 1 = some (.cells (DV.cells (.p b.P)) false) ∧ ∀ j : Nat, j < i → ¬ (a.start ≤ j ∧ j < a.start + a.len ∧ b.start ≤ j ∧ j < b.start + b.len)) 0 (by decide) ?_ (by omega) ⟨by simp only [go_sem, Int.reduceLT, Int.reduceLE, Int.reduceNeg, Int.reduceEq, Nat.reduceAdd, Nat.reduceEqDiff, Nat.reduceLeDiff, Nat.reduceBEq, reduceIte, reduceCtorEq], by simp only [go_sem, Int.reduceLT, Int.reduceLE, Int.reduceNeg, Int.reduceEq, Nat.reduceAdd, Nat.reduceEqDiff, Nat.reduceLeDiff, Nat.reduceBEq, reduceIte, reduceCtorEq], fun j h => by omega⟩ ?_
  · simp only [go_sem, Int.reduceLT, Int.reduceLE, Int.reduceNeg, Int.reduceEq, Nat.reduceAdd, Nat.reduceEqDiff, Nat.reduceLeDiff, Nat.reduceBEq, reduceIte, reduceCtorEq]; rfl
  intro i t h nx hf hi0 hi h5 hj
  obtain ⟨hh0, hh1, hj⟩ := hj
  dsimp only at hh0 hh1
  have h2 := hf 2 rfl; simp only [PT.get_set, Nat.reduceEqDiff, if_true, if_false, reduceIte, PT.get_leaf] at h2; have h3 := hf 3 rfl; simp only [PT.get_set, Nat.reduceEqDiff, if_true, if_false, reduceIte, PT.get_leaf] at h3
  clear hf
  have wa := wrap_id (show -9223372036854775808 ≤ a.start + a.len by omega) (by omega)
  have wb := wrap_id (show -9223372036854775808 ≤ b.start + b.len by omega) (by omega)
  rcases Nat.lt_or_ge i 192 with hlt | hge
  · by_cases hin : a.start ≤ i ∧ i < a.start + a.len ∧ b.start ≤ i ∧ i < b.start + b.len
    · repeat' (first | simp only [go_sem, Int.reduceLT, Int.reduceLE, Int.reduceNeg, Int.reduceEq, Nat.reduceAdd, Nat.reduceEqDiff, Nat.reduceLeDiff, Nat.reduceBEq, reduceIte, reduceCtorEq, h2, h3, h5, hh0, hh1, wa, wb, show decide ((i : Int) < 192) = true by (simp only [decide_eq_true_eq]; omega), show decide (a.start ≤ i) = true by (simp only [decide_eq_true_eq]; omega), show decide ((i : Int) < a.start + a.len) = true by (simp only [decide_eq_true_eq]; omega), show decide (b.start ≤ i) = true by (simp only [decide_eq_true_eq]; omega), show decide ((i : Int) < b.start + b.len) = true by (simp only [decide_eq_true_eq]; omega)] | (with_reducible first | apply c1 | (first | apply c2 | apply c3) <;> (intro hc; simp only [hc]) | (first | apply c4 | apply c5) <;> (intro hc; rw [hc])))
      all_goals (simp only [overlapB, s_bool]; symm; simp only [decide_eq_true_eq]; omega)
    · have nxt : i < 192 ∧ ∀ j : Nat, j < i + 1 → ¬ (a.start ≤ j ∧ j < a.start + a.len ∧ b.start ≤ j ∧ j < b.start + b.len) := ⟨hlt, fun j hj1 => by
        by_cases e : j = i
        · rw [e]; exact hin
        · exact hj j (by omega)⟩
      repeat' (first | simp only [go_sem, Int.reduceLT, Int.reduceLE, Int.reduceNeg, Int.reduceEq, Nat.reduceAdd, Nat.reduceEqDiff, Nat.reduceLeDiff, Nat.reduceBEq, reduceIte, reduceCtorEq, h2, h3, h5, hh0, hh1, wa, wb, show decide ((i : Int) < 192) = true by (simp only [decide_eq_true_eq]; omega)] | (with_reducible first | apply c1 | (first | apply c2 | apply c3) <;> (intro hc; simp only [hc]) | (first | apply c4 | apply c5) <;> (intro hc; rw [hc])))
      all_goals first
        | exact nxt
        | (simp only [decide_eq_true_eq, decide_eq_false_iff_not] at *; omega)
  · repeat' (first | simp only [go_sem, Int.reduceLT, Int.reduceLE, Int.reduceNeg, Int.reduceEq, Nat.reduceAdd, Nat.reduceEqDiff, Nat.reduceLeDiff, Nat.reduceBEq, reduceIte, reduceCtorEq, h2, h3, h5, hh0, hh1, wa, wb, show decide ((i : Int) < 192) = false by (simp only [decide_eq_false_iff_not]; omega)] | (with_reducible first | apply c1 | (first | apply c2 | apply c3) <;> (intro hc; simp only [hc]) | (first | apply c4 | apply c5) <;> (intro hc; rw [hc])))
    simp only [overlapB, s_bool]
    symm
    simp only [decide_eq_false_iff_not]
    intro ho
    have := hj (max a.start b.start).toNat (by omega)
    omega
theorem rmeet_res (a b : VWhen) : res Tryz.prog G0 250 [a.P, b.P] = some (B (meetB a b)) := by
  refine res_body c_ref09_Meet (Nat.le_of_ble_eq_true rfl) ?_
  simp only [m_ref09_Meet, Oo, Ou, Og, Ci, Om, Of, Ol, Ok]
  cases hs : sameDayB a b with
  | false =>
    repeat' (first | simp only [go_sem, Int.reduceLT, Int.reduceLE, Int.reduceNeg, Int.reduceEq, Nat.reduceAdd, Nat.reduceEqDiff, Nat.reduceLeDiff, Nat.reduceBEq, reduceIte, reduceCtorEq, q_ref09_SameDay, rsameDay_res, hs] | (with_reducible first | apply c1 | (first | apply c2 | apply c3) <;> (intro hc; simp only [hc]) | (first | apply c4 | apply c5) <;> (intro hc; rw [hc])))
    simp [meetB, hs]
  | true =>
    have ha : tameB a = true := by simp [sameDayB] at hs; exact hs.1.1.1
    have hb : tameB b = true := by simp [sameDayB] at hs; exact hs.1.1.2
    repeat' (first | simp only [go_sem, Int.reduceLT, Int.reduceLE, Int.reduceNeg, Int.reduceEq, Nat.reduceAdd, Nat.reduceEqDiff, Nat.reduceLeDiff, Nat.reduceBEq, reduceIte, reduceCtorEq, q_ref09_SameDay, rsameDay_res, hs, q_ref09_slots, rslots_res a b ha hb] | (with_reducible first | apply c1 | (first | apply c2 | apply c3) <;> (intro hc; simp only [hc]) | (first | apply c4 | apply c5) <;> (intro hc; rw [hc])))
    simp [meetB, hs]
def gapN (a b : VWhen) : Int := if sameDayB a b && !overlapB a b then max a.start b.start - min (a.start + a.len) (b.start + b.len) else 0
def gapB (a b : VWhen) : Bool := sameDayB a b && !overlapB a b
theorem gap_res (a b : VWhen) : res Tryz.prog G0 219 [a.P, b.P] = some (.tup [I (gapN a b), B (gapB a b)]) := by
  refine res_body c_when_Gap (Nat.le_of_ble_eq_true rfl) ?_
  simp only [m_when_Gap, Oo, Ou, Og, Ci, Om, Of, Ol, Ok]
  cases hs : sameDayB a b with
  | false =>
    repeat' (first | simp only [go_sem, Int.reduceLT, Int.reduceLE, Int.reduceNeg, Int.reduceEq, Nat.reduceAdd, Nat.reduceEqDiff, Nat.reduceLeDiff, Nat.reduceBEq, reduceIte, reduceCtorEq, q_when_SameDay, sameDay_res, hs] | (with_reducible first | apply c1 | (first | apply c2 | apply c3) <;> (intro hc; simp only [hc]) | (first | apply c4 | apply c5) <;> (intro hc; rw [hc])))
    all_goals (simp [gapN, gapB, hs])
  | true =>
    have ha : tameB a = true := by simp [sameDayB] at hs; exact hs.1.1.1
    have hb : tameB b = true := by simp [sameDayB] at hs; exact hs.1.1.2
    simp only [tameB, Bool.and_eq_true, decide_eq_true_eq] at ha hb
    cases ho : overlapB a b with
    | true =>
      have hm : meetB a b = true := by simp [meetB, hs, ho]
      repeat' (first | simp only [go_sem, Int.reduceLT, Int.reduceLE, Int.reduceNeg, Int.reduceEq, Nat.reduceAdd, Nat.reduceEqDiff, Nat.reduceLeDiff, Nat.reduceBEq, reduceIte, reduceCtorEq, q_when_SameDay, sameDay_res, hs, q_when_Meet, meet_res, hm] | (with_reducible first | apply c1 | (first | apply c2 | apply c3) <;> (intro hc; simp only [hc]) | (first | apply c4 | apply c5) <;> (intro hc; rw [hc])))
      all_goals (simp [gapN, gapB, hs, ho])
    | false =>
      have hm : meetB a b = false := by simp [meetB, ho]
      repeat' (first | simp only [go_sem, Int.reduceLT, Int.reduceLE, Int.reduceNeg, Int.reduceEq, Nat.reduceAdd, Nat.reduceEqDiff, Nat.reduceLeDiff, Nat.reduceBEq, reduceIte, reduceCtorEq, q_when_SameDay, sameDay_res, hs, q_when_Meet, meet_res, hm, wrap_id (show -9223372036854775808 ≤ a.start + a.len by omega) (by omega), wrap_id (show -9223372036854775808 ≤ b.start + b.len by omega) (by omega), wrap_id (show -9223372036854775808 ≤ max a.start b.start - min (a.start + a.len) (b.start + b.len) by omega) (by omega)] | (with_reducible first | apply c1 | (first | apply c2 | apply c3) <;> (intro hc; simp only [hc]) | (first | apply c4 | apply c5) <;> (intro hc; rw [hc])))
      all_goals (simp [gapN, gapB, hs, ho])
theorem rgap_res (a b : VWhen) : res Tryz.prog G0 266 [a.P, b.P] = some (.tup [I (gapN a b), B (gapB a b)]) := by
  refine res_body c_ref09_Gap (Nat.le_of_ble_eq_true rfl) ?_
  simp only [m_ref09_Gap, Oo, Ou, Og, Ci, Om, Of, Ol, Ok]
  cases hs : sameDayB a b with
  | false =>
    repeat' (first | simp only [go_sem, Int.reduceLT, Int.reduceLE, Int.reduceNeg, Int.reduceEq, Nat.reduceAdd, Nat.reduceEqDiff, Nat.reduceLeDiff, Nat.reduceBEq, reduceIte, reduceCtorEq, q_ref09_SameDay, rsameDay_res, hs] | (with_reducible first | apply c1 | (first | apply c2 | apply c3) <;> (intro hc; simp only [hc]) | (first | apply c4 | apply c5) <;> (intro hc; rw [hc])))
    all_goals (simp [gapN, gapB, hs])
  | true =>
    have ha : tameB a = true := by simp [sameDayB] at hs; exact hs.1.1.1
    have hb : tameB b = true := by simp [sameDayB] at hs; exact hs.1.1.2
    have ha' := ha
    have hb' := hb
    simp only [tameB, Bool.and_eq_true, decide_eq_true_eq] at ha' hb'
    cases ho : overlapB a b with
    | true =>
      repeat' (first | simp only [go_sem, Int.reduceLT, Int.reduceLE, Int.reduceNeg, Int.reduceEq, Nat.reduceAdd, Nat.reduceEqDiff, Nat.reduceLeDiff, Nat.reduceBEq, reduceIte, reduceCtorEq, q_ref09_SameDay, rsameDay_res, hs, q_ref09_slots, rslots_res a b ha hb, ho] | (with_reducible first | apply c1 | (first | apply c2 | apply c3) <;> (intro hc; simp only [hc]) | (first | apply c4 | apply c5) <;> (intro hc; rw [hc])))
      all_goals (simp [gapN, gapB, hs, ho])
    | false =>
      have ho' := ho
      simp only [overlapB, decide_eq_false_iff_not] at ho'
      repeat' (first | simp only [go_sem, Int.reduceLT, Int.reduceLE, Int.reduceNeg, Int.reduceEq, Nat.reduceAdd, Nat.reduceEqDiff, Nat.reduceLeDiff, Nat.reduceBEq, reduceIte, reduceCtorEq, q_ref09_SameDay, rsameDay_res, hs, q_ref09_slots, rslots_res a b ha hb, ho, wrap_id (show -9223372036854775808 ≤ b.start - a.start by omega) (by omega), wrap_id (show -9223372036854775808 ≤ b.start - a.start - a.len by omega) (by omega), wrap_id (show -9223372036854775808 ≤ a.start - b.start by omega) (by omega), wrap_id (show -9223372036854775808 ≤ a.start - b.start - b.len by omega) (by omega)] | (with_reducible first | apply c1 | (first | apply c2 | apply c3) <;> (intro hc; simp only [hc]) | (first | apply c4 | apply c5) <;> (intro hc; rw [hc])))
      all_goals (simp [gapN, gapB, hs, ho]; simp at hc; omega)
def reachB (a b : VWhen) (walk : Int) : Bool := !meetB a b && (!gapB a b || decide (walk ≤ gapN a b))
theorem reach_res (a b : VWhen) (k : Int) : res Tryz.prog G0 167 [a.P, b.P, I k] = some (B (reachB a b k)) := by
  refine res_body c_person_Reach (Nat.le_of_ble_eq_true rfl) ?_
  simp only [m_person_Reach, Oo, Ou, Og, Ci, Om, Of, Ol, Ok]
  repeat' (first | simp only [go_sem, Int.reduceLT, Int.reduceLE, Int.reduceNeg, Int.reduceEq, Nat.reduceAdd, Nat.reduceEqDiff, Nat.reduceLeDiff, Nat.reduceBEq, reduceIte, reduceCtorEq, q_when_Meet, meet_res, q_when_Gap, gap_res] | (with_reducible first | apply c1 | (first | apply c2 | apply c3) <;> (intro hc; simp only [hc]) | (first | apply c4 | apply c5) <;> (intro hc; rw [hc])))
  all_goals (simp_all [reachB])
theorem rreach_res (a b : VWhen) (k : Int) : res Tryz.prog G0 253 [a.P, b.P, I k] = some (B (reachB a b k)) := by
  refine res_body c_ref12_Reach (Nat.le_of_ble_eq_true rfl) ?_
  simp only [m_ref12_Reach, Oo, Ou, Og, Ci, Om, Of, Ol, Ok]
  repeat' (first | simp only [go_sem, Int.reduceLT, Int.reduceLE, Int.reduceNeg, Int.reduceEq, Nat.reduceAdd, Nat.reduceEqDiff, Nat.reduceLeDiff, Nat.reduceBEq, reduceIte, reduceCtorEq, q_ref09_Meet, rmeet_res, q_ref09_Gap, rgap_res] | (with_reducible first | apply c1 | (first | apply c2 | apply c3) <;> (intro hc; simp only [hc]) | (first | apply c4 | apply c5) <;> (intro hc; rw [hc])))
  all_goals (simp_all [reachB])
def walkN (w : List (List Int)) (a b : Int) : Int := if a < 0 ∨ b < 0 then 0 else ((w[a.toNat]?).bind fun r => r[b.toNat]?).getD 0
theorem walk_res (w : List (List Int)) (a b : Int) : res Tryz.prog G0 62 [LL w, I a, I b] = some (I (walkN w a b)) := by
  refine res_body c_room_Walk (Nat.le_of_ble_eq_true rfl) ?_
  simp only [m_room_Walk, Oo, Ou, Og, Ci, Om, Of, Ol, Ok]
  by_cases ha : a < 0
  · repeat' (first | simp only [go_sem, Int.reduceLT, Int.reduceLE, Int.reduceNeg, Int.reduceEq, Nat.reduceAdd, Nat.reduceEqDiff, Nat.reduceLeDiff, Nat.reduceBEq, reduceIte, reduceCtorEq, show decide (a < 0) = true by simpa using ha] | (with_reducible first | apply c1 | (first | apply c2 | apply c3) <;> (intro hc; simp only [hc]) | (first | apply c4 | apply c5) <;> (intro hc; rw [hc])))
    all_goals (simp [walkN, ha])
  by_cases hb : b < 0
  · obtain ⟨i, rfl⟩ := Int.eq_ofNat_of_zero_le (show 0 ≤ a by omega)
    repeat' (first | simp only [go_sem, Int.reduceLT, Int.reduceLE, Int.reduceNeg, Int.reduceEq, Nat.reduceAdd, Nat.reduceEqDiff, Nat.reduceLeDiff, Nat.reduceBEq, reduceIte, reduceCtorEq, show decide ((i : Int) < 0) = false by simp, show decide (b < 0) = true by simpa using hb] | (with_reducible first | apply c1 | (first | apply c2 | apply c3) <;> (intro hc; simp only [hc]) | (first | apply c4 | apply c5) <;> (intro hc; rw [hc])))
    all_goals (simp [walkN, hb, nat_neg])
  obtain ⟨i, rfl⟩ := Int.eq_ofNat_of_zero_le (show 0 ≤ a by omega)
  obtain ⟨j, rfl⟩ := Int.eq_ofNat_of_zero_le (show 0 ≤ b by omega)
  rcases hr : w[i]? with _ | r
  · have hi : w.length ≤ i := List.getElem?_eq_none_iff.1 hr
    repeat' (first | simp only [go_sem, Int.reduceLT, Int.reduceLE, Int.reduceNeg, Int.reduceEq, Nat.reduceAdd, Nat.reduceEqDiff, Nat.reduceLeDiff, Nat.reduceBEq, reduceIte, reduceCtorEq, show decide ((i : Int) < 0) = false by simp, show decide ((j : Int) < 0) = false by simp, show decide ((w.length : Int) ≤ (i : Int)) = true by (simp only [decide_eq_true_eq]; omega)] | (with_reducible first | apply c1 | (first | apply c2 | apply c3) <;> (intro hc; simp only [hc]) | (first | apply c4 | apply c5) <;> (intro hc; rw [hc])))
    all_goals (simp [walkN, hr, nat_neg])
  · have hi : i < w.length := (List.getElem?_eq_some_iff.1 hr).1
    rcases hx : r[j]? with _ | x
    · have hj : r.length ≤ j := List.getElem?_eq_none_iff.1 hx
      repeat' (first | simp only [go_sem, Int.reduceLT, Int.reduceLE, Int.reduceNeg, Int.reduceEq, Nat.reduceAdd, Nat.reduceEqDiff, Nat.reduceLeDiff, Nat.reduceBEq, reduceIte, reduceCtorEq, hr, show decide ((i : Int) < 0) = false by simp, show decide ((j : Int) < 0) = false by simp, show decide ((w.length : Int) ≤ (i : Int)) = false by (simp only [decide_eq_false_iff_not]; omega), show decide ((r.length : Int) ≤ (j : Int)) = true by (simp only [decide_eq_true_eq]; omega)] | (with_reducible first | apply c1 | (first | apply c2 | apply c3) <;> (intro hc; simp only [hc]) | (first | apply c4 | apply c5) <;> (intro hc; rw [hc])))
      all_goals (simp [walkN, hr, hx, nat_neg])
    · have hj : j < r.length := (List.getElem?_eq_some_iff.1 hx).1
      repeat' (first | simp only [go_sem, Int.reduceLT, Int.reduceLE, Int.reduceNeg, Int.reduceEq, Nat.reduceAdd, Nat.reduceEqDiff, Nat.reduceLeDiff, Nat.reduceBEq, reduceIte, reduceCtorEq, hr, hx, show decide ((i : Int) < 0) = false by simp, show decide ((j : Int) < 0) = false by simp, show decide ((w.length : Int) ≤ (i : Int)) = false by (simp only [decide_eq_false_iff_not]; omega), show decide ((r.length : Int) ≤ (j : Int)) = false by (simp only [decide_eq_false_iff_not]; omega)] | (with_reducible first | apply c1 | (first | apply c2 | apply c3) <;> (intro hc; simp only [hc]) | (first | apply c4 | apply c5) <;> (intro hc; rw [hc])))
      all_goals (simp [walkN, hr, hx, nat_neg])
theorem rwalk_res (w : List (List Int)) (a b : Int) : res Tryz.prog G0 171 [LL w, I a, I b] = some (I (walkN w a b)) := by
  refine res_body c_ref11_Walk (Nat.le_of_ble_eq_true rfl) ?_
  simp only [m_ref11_Walk, Oo, Ou, Og, Ci, Om, Of, Ol, Ok]
  by_cases ha : a < 0
  · repeat' (first | simp only [go_sem, Int.reduceLT, Int.reduceLE, Int.reduceNeg, Int.reduceEq, Nat.reduceAdd, Nat.reduceEqDiff, Nat.reduceLeDiff, Nat.reduceBEq, reduceIte, reduceCtorEq, show decide (a < 0) = true by simpa using ha] | (with_reducible first | apply c1 | (first | apply c2 | apply c3) <;> (intro hc; simp only [hc]) | (first | apply c4 | apply c5) <;> (intro hc; rw [hc])))
    all_goals (simp [walkN, ha])
  by_cases hb : b < 0
  · obtain ⟨i, rfl⟩ := Int.eq_ofNat_of_zero_le (show 0 ≤ a by omega)
    repeat' (first | simp only [go_sem, Int.reduceLT, Int.reduceLE, Int.reduceNeg, Int.reduceEq, Nat.reduceAdd, Nat.reduceEqDiff, Nat.reduceLeDiff, Nat.reduceBEq, reduceIte, reduceCtorEq, show decide ((i : Int) < 0) = false by simp, show decide (b < 0) = true by simpa using hb] | (with_reducible first | apply c1 | (first | apply c2 | apply c3) <;> (intro hc; simp only [hc]) | (first | apply c4 | apply c5) <;> (intro hc; rw [hc])))
    all_goals (simp [walkN, hb, nat_neg])
  obtain ⟨i, rfl⟩ := Int.eq_ofNat_of_zero_le (show 0 ≤ a by omega)
  obtain ⟨j, rfl⟩ := Int.eq_ofNat_of_zero_le (show 0 ≤ b by omega)
  rcases hr : w[i]? with _ | r
  · have hi : w.length ≤ i := List.getElem?_eq_none_iff.1 hr
    repeat' (first | simp only [go_sem, Int.reduceLT, Int.reduceLE, Int.reduceNeg, Int.reduceEq, Nat.reduceAdd, Nat.reduceEqDiff, Nat.reduceLeDiff, Nat.reduceBEq, reduceIte, reduceCtorEq, show decide ((i : Int) < 0) = false by simp, show decide ((j : Int) < 0) = false by simp, show decide ((w.length : Int) ≤ (i : Int)) = true by (simp only [decide_eq_true_eq]; omega)] | (with_reducible first | apply c1 | (first | apply c2 | apply c3) <;> (intro hc; simp only [hc]) | (first | apply c4 | apply c5) <;> (intro hc; rw [hc])))
    all_goals (simp [walkN, hr, nat_neg])
  · have hi : i < w.length := (List.getElem?_eq_some_iff.1 hr).1
    rcases hx : r[j]? with _ | x
    · have hj : r.length ≤ j := List.getElem?_eq_none_iff.1 hx
      repeat' (first | simp only [go_sem, Int.reduceLT, Int.reduceLE, Int.reduceNeg, Int.reduceEq, Nat.reduceAdd, Nat.reduceEqDiff, Nat.reduceLeDiff, Nat.reduceBEq, reduceIte, reduceCtorEq, hr, show decide ((i : Int) < 0) = false by simp, show decide ((j : Int) < 0) = false by simp, show decide ((w.length : Int) ≤ (i : Int)) = false by (simp only [decide_eq_false_iff_not]; omega), show decide ((r.length : Int) ≤ (j : Int)) = true by (simp only [decide_eq_true_eq]; omega)] | (with_reducible first | apply c1 | (first | apply c2 | apply c3) <;> (intro hc; simp only [hc]) | (first | apply c4 | apply c5) <;> (intro hc; rw [hc])))
      all_goals (simp [walkN, hr, hx, nat_neg])
    · have hj : j < r.length := (List.getElem?_eq_some_iff.1 hx).1
      repeat' (first | simp only [go_sem, Int.reduceLT, Int.reduceLE, Int.reduceNeg, Int.reduceEq, Nat.reduceAdd, Nat.reduceEqDiff, Nat.reduceLeDiff, Nat.reduceBEq, reduceIte, reduceCtorEq, hr, hx, show decide ((i : Int) < 0) = false by simp, show decide ((j : Int) < 0) = false by simp, show decide ((w.length : Int) ≤ (i : Int)) = false by (simp only [decide_eq_false_iff_not]; omega), show decide ((r.length : Int) ≤ (j : Int)) = false by (simp only [decide_eq_false_iff_not]; omega)] | (with_reducible first | apply c1 | (first | apply c2 | apply c3) <;> (intro hc; simp only [hc]) | (first | apply c4 | apply c5) <;> (intro hc; rw [hc])))
      all_goals (simp [walkN, hr, hx, nat_neg])
def nameB (s : ByteArray) : Bool := decide (1 ≤ s.size) && decide (s.size ≤ 24)
theorem name_res (s : ByteArray) : res Tryz.prog G0 119 [.s (.string s)] = some (B (nameB s)) := by
  refine res_body c_room_Name (Nat.le_of_ble_eq_true rfl) ?_
  simp only [m_room_Name, Oo, Ou, Og, Ci, Om, Of, Ol, Ok]
  have he : (decide (s.toList = ByteArray.toList ⟨#[]⟩)) = decide (s.size = 0) := by
    have e1 : s.toList = s.data.toList := by rw [ByteArray.toList_eq]
    have e2 : ByteArray.toList ⟨#[]⟩ = [] := by rw [ByteArray.toList_eq]
    rw [e1, e2]
    have e3 : s.size = s.data.toList.length := rfl
    rw [e3]
    cases s.data.toList with
    | nil => simp
    | cons x l => simp
  repeat' (first | simp only [go_sem, Int.reduceLT, Int.reduceLE, Int.reduceNeg, Int.reduceEq, Nat.reduceAdd, Nat.reduceEqDiff, Nat.reduceLeDiff, Nat.reduceBEq, reduceIte, reduceCtorEq, he] | (with_reducible first | apply c1 | (first | apply c2 | apply c3) <;> (intro hc; simp only [hc]) | (first | apply c4 | apply c5) <;> (intro hc; rw [hc])))
  all_goals (try (rw [s_bool, Bool.eq_iff_iff]; (try simp only [Bool.and_eq_true, Bool.or_eq_true, Bool.and_eq_false_iff, Bool.or_eq_false_iff, Bool.not_eq_true', Bool.not_eq_false', decide_eq_true_eq, decide_eq_false_iff_not, Bool.true_eq_false, Bool.false_eq_true, iff_true, true_iff, iff_false, false_iff, and_true, true_and, and_false, false_and, ne_eq, Decidable.not_not, not_true_eq_false, not_false_eq_true, Int.natCast_eq_zero, nameB] at *); first | done | omega | (simp_all; done) | (simp_all; omega)))
theorem rname_res (s : ByteArray) : res Tryz.prog G0 189 [.s (.string s)] = some (B (nameB s)) := by
  refine res_body c_ref11_Name (Nat.le_of_ble_eq_true rfl) ?_
  simp only [m_ref11_Name, Oo, Ou, Og, Ci, Om, Of, Ol, Ok]
  repeat' (first | simp only [go_sem, Int.reduceLT, Int.reduceLE, Int.reduceNeg, Int.reduceEq, Nat.reduceAdd, Nat.reduceEqDiff, Nat.reduceLeDiff, Nat.reduceBEq, reduceIte, reduceCtorEq] | (with_reducible first | apply c1 | (first | apply c2 | apply c3) <;> (intro hc; simp only [hc]) | (first | apply c4 | apply c5) <;> (intro hc; rw [hc])))
  all_goals (try (rw [s_bool, Bool.eq_iff_iff]; (try simp only [Bool.and_eq_true, Bool.or_eq_true, Bool.and_eq_false_iff, Bool.or_eq_false_iff, Bool.not_eq_true', Bool.not_eq_false', decide_eq_true_eq, decide_eq_false_iff_not, Bool.true_eq_false, Bool.false_eq_true, iff_true, true_iff, iff_false, false_iff, and_true, true_and, and_false, false_and, ne_eq, Decidable.not_not, not_true_eq_false, not_false_eq_true, Int.natCast_eq_zero, nameB] at *); first | done | omega | (simp_all; done) | (simp_all; omega)))
end Go.Proofs.YtddmnddocbmjnaaGreat.Dv
namespace Go.Proofs.YtddmnddocbmjnaaGreat.Dv
def m_slices_IndexFunc_Lapi_When_api_When_ : MF := ⟨19, (.seq (.reg none [Oo 4 (.mov (.d (Ci 0)))]) (.seq (.seq (.reg none [Om 6 0, Ok 7 6, Oo 8 (.mov (.d (Ci 0)))]) (.block 0 (.loop (.seq (.reg none [Oo 9 (.iop .lss (.t 8) (.t 7))]) (.seq (.cond (.t 9) .skip (.exit 0)) (.seq (.block 1 (.seq (.reg none [Om 10 8, Om 5 10]) (.seq (.reg none [Om 11 1, Om 12 0, Om 13 5, Oo 14 (.iadrS 4 (.t 12) (.t 13)), Oo 15 (.load true 4 (.t 14)), Oo 16 (.callv (.t 11) [.t 15])]) (.cond (.t 16) (.seq (.reg none [Om 17 5, Om 4 17]) .ret) .skip)))) (.reg none [Oo 18 (.iop .add (.t 8) (.d (Ci 1))), Om 8 18]))))))) (.seq (.reg none [Oo 4 (.mov (.d (Ci (-1))))]) .ret))), [.tmp 4]⟩
theorem c_slices_IndexFunc_Lapi_When_api_When_ : comp Tryz.prog G0 241 = some m_slices_IndexFunc_Lapi_When_api_When_ := by kernel_rfl
theorem q_slices_IndexFunc_Lapi_When_api_When_ : Q0 241 := mCall_pure rfl
def m_slices_ContainsFunc_Lapi_When_api_When_ : MF := ⟨9, (.seq (.reg none [Oo 4 (.mov (.d (.p (.s (.bool false)))))]) (.seq (.reg none [Om 5 0, Om 6 1, Oo 7 (.call 241 [.t 5, .t 6]), Oo 8 (.iop .geq (.t 7) (.d (Ci 0))), Om 4 8]) .ret)), [.tmp 4]⟩
theorem c_slices_ContainsFunc_Lapi_When_api_When_ : comp Tryz.prog G0 201 = some m_slices_ContainsFunc_Lapi_When_api_When_ := by kernel_rfl
theorem q_slices_ContainsFunc_Lapi_When_api_When_ : Q0 201 := mCall_pure rfl
theorem idxFW_res (l : List VWhen) (hl : l.length < 4611686018427387904) (c : PDV) (p : VWhen → Bool) (hc : ∀ x ∈ l, App Tryz.prog G0 c [VWhen.P x] (B (p x))) : ∃ q, res Tryz.prog G0 241 [.lst (l.map VWhen.P), c] = some q ∧ ∃ k : Int, q = I k ∧ decide (0 ≤ k) = l.any p := by
  refine res_ex c_slices_IndexFunc_Lapi_When_api_When_ (Nat.le_of_ble_eq_true rfl) ?_
  simp only [m_slices_IndexFunc_Lapi_When_api_When_, Oo, Ou, Og, Ci, Om, Of, Ol, Ok]
  repeat' (first | simp only [go_sem, Int.reduceLT, Int.reduceLE, Int.reduceNeg, Int.reduceEq, Nat.reduceAdd, Nat.reduceEqDiff, Nat.reduceLeDiff, Nat.reduceBEq, reduceIte, reduceCtorEq] | (with_reducible first | apply c1 | (first | apply c2 | apply c3) <;> (intro hc; simp only [hc]) | (first | apply c4 | apply c5) <;> (intro hc; rw [hc])))
  refine X_for 8 l.length (fun i s => ∀ x ∈ l.take i, p x = false) 0 hl ?_ (Nat.zero_le _) (by simp) ?_
  · simp only [go_sem, Int.reduceLT, Int.reduceLE, Int.reduceNeg, Int.reduceEq, Nat.reduceAdd, Nat.reduceEqDiff, Nat.reduceLeDiff, Nat.reduceBEq, reduceIte, reduceCtorEq]; rfl
  intro i t h nx hf hi0 hi h8 hj
  have h0 := hf 0 rfl; simp only [PT.get_set, Nat.reduceEqDiff, if_true, if_false, reduceIte, PT.get_leaf] at h0; have h1 := hf 1 rfl; simp only [PT.get_set, Nat.reduceEqDiff, if_true, if_false, reduceIte, PT.get_leaf] at h1; have h7 := hf 7 rfl; simp only [PT.get_set, Nat.reduceEqDiff, if_true, if_false, reduceIte, PT.get_leaf] at h7
  clear hf
  rcases Nat.lt_or_ge i l.length with hlt | hge
  · obtain ⟨x, hx, _, htk⟩ := get_dec (l := l) (i := i) (by simpa using hlt)
    have hm : x ∈ l := List.mem_of_getElem? hx
    have hcv := callv_1 (hc x hm)
    repeat' (first | simp only [go_sem, Int.reduceLT, Int.reduceLE, Int.reduceNeg, Int.reduceEq, Nat.reduceAdd, Nat.reduceEqDiff, Nat.reduceLeDiff, Nat.reduceBEq, reduceIte, reduceCtorEq, h0, h1, h7, h8, hx, hcv, show decide ((i : Int) < (l.length : Int)) = true by simpa using hlt] | (with_reducible first | apply c1 | (first | apply c2 | apply c3) <;> (intro hc; simp only [hc]) | (first | apply c4 | apply c5) <;> (intro hc; rw [hc])))
    · refine ⟨_, rfl, ?_⟩
      rename_i hpx
      rw [List.any_eq_true.2 ⟨x, hm, by assumption⟩]
      simp
    · refine ⟨hlt, fun y hy => ?_⟩
      rw [htk, List.mem_append, List.mem_singleton] at hy
      rcases hy with hy | rfl
      · exact hj y hy
      · assumption
  · have he : l.take i = l := List.take_of_length_le hge
    repeat' (first | simp only [go_sem, Int.reduceLT, Int.reduceLE, Int.reduceNeg, Int.reduceEq, Nat.reduceAdd, Nat.reduceEqDiff, Nat.reduceLeDiff, Nat.reduceBEq, reduceIte, reduceCtorEq, h0, h1, h7, h8, show decide ((i : Int) < (l.length : Int)) = false by simpa using hge] | (with_reducible first | apply c1 | (first | apply c2 | apply c3) <;> (intro hc; simp only [hc]) | (first | apply c4 | apply c5) <;> (intro hc; rw [hc])))
    refine ⟨_, rfl, ?_⟩
    rw [he] at hj
    symm
    simpa using hj
theorem hasFW_res (l : List VWhen) (hl : l.length < 4611686018427387904) (c : PDV) (p : VWhen → Bool) (hc : ∀ x ∈ l, App Tryz.prog G0 c [VWhen.P x] (B (p x))) : res Tryz.prog G0 201 [.lst (l.map VWhen.P), c] = some (B (l.any p)) := by
  obtain ⟨q, hq, k, rfl, hk⟩ := idxFW_res l hl c p hc
  refine res_body c_slices_ContainsFunc_Lapi_When_api_When_ (Nat.le_of_ble_eq_true rfl) ?_
  simp only [m_slices_ContainsFunc_Lapi_When_api_When_, Oo, Ou, Og, Ci, Om, Of, Ol, Ok]
  repeat' (first | simp only [go_sem, Int.reduceLT, Int.reduceLE, Int.reduceNeg, Int.reduceEq, Nat.reduceAdd, Nat.reduceEqDiff, Nat.reduceLeDiff, Nat.reduceBEq, reduceIte, reduceCtorEq, q_slices_IndexFunc_Lapi_When_api_When_, hq, hk] | (with_reducible first | apply c1 | (first | apply c2 | apply c3) <;> (intro hc; simp only [hc]) | (first | apply c4 | apply c5) <;> (intro hc; rw [hc])))
def m_ref11_Whens : MF := ⟨25, (.seq (.reg none [Oo 3 (.box (.t 0)), Oo 6 (.mov (.d (.p (.s (.bool false)))))]) (.seq (.seq (.reg none [Oo 7 (.mov (.d (Ci 0)))]) (.block 0 (.loop (.seq (.seq (.reg none [Om 8 7, Om 9 1, Ok 10 9, Oo 11 (.iop .lss (.t 8) (.t 10))]) (.cond (.t 11) .skip (.exit 0))) (.seq (.block 1 (.seq (.reg (some #[0, 0, 0, 6, 14, 31, 63]) [Oo 14 (.load true 3 (.t 3)), Om 15 1, Om 16 7, Oo 17 (.iadrS 4 (.t 15) (.t 16)), Oo 18 (.load true 4 (.t 17)), Oo 19 (.call 220 [.t 14, .t 18]), Oo 20 (.un .not (.t 19))]) (.cond (.t 20) (.seq (.reg none [Oo 6 (.mov (.d (.p (.s (.bool false)))))]) .ret) .skip))) (.reg none [Om 12 7, Oo 13 (.iop .add (.t 12) (.d (Ci 1))), Om 7 13])))))) (.seq (.reg none [Om 21 1, Ok 22 21, Om 23 2, Oo 24 (.iop .leq (.t 22) (.t 23)), Om 6 24]) .ret))), [.tmp 6]⟩
theorem c_ref11_Whens : comp Tryz.prog G0 259 = some m_ref11_Whens := by kernel_rfl
theorem q_ref11_Whens : Q0 259 := mCall_pure rfl
def m_room_Right_1 : MF := ⟨8, (.seq (.reg none [Oo 2 (.box (.t 0)), Oo 3 (.mov (.d (.p (.s (.bool false)))))]) (.seq (.reg none [Oo 4 (.load true 3 (.t 1)), Oo 5 (.load true 4 (.t 2)), Oo 6 (.call 161 [.t 4, .t 5]), Oo 7 (.un .not (.t 6)), Om 3 7]) .ret)), [.tmp 3]⟩
theorem c_room_Right_1 : comp Tryz.prog G0 200 = some m_room_Right_1 := by kernel_rfl
theorem k_room_Right_1 : callable Tryz.prog 200 = true := by kernel_rfl
def m_room_Right : MF := ⟨37, (.seq (.reg none [Oo 2 (.box (.t 0)), Oo 3 (.box (.t 1)), Oo 4 (.mov (.d (.p (.s (.bool false)))))]) (.seq (.reg none [Oo 6 (.mkf (.func 200) [] [.t 2]), Om 5 6]) (.seq (.reg none [Oo 7 (.load true 3 (.t 2)), Oo 8 (.call 120 [.t 7]), Om 9 8, Og 10 9 true (.fadr 0 (.t 3)), Og 11 9 true (.load false 1 (.t 10)), Og 12 9 true (.call 119 [.t 11]), Oo 13 (.pick (.t 9) (.t 12) (.d (.p (.s (.bool false))))), Om 14 13, Og 15 14 true (.fadr 1 (.t 3)), Og 16 14 true (.load false 1 (.t 15)), Og 17 14 true (.iop .geq (.t 16) (.d (Ci 0))), Oo 18 (.pick (.t 14) (.t 17) (.d (.p (.s (.bool false))))), Om 19 18, Og 20 19 true (.fadr 1 (.t 3)), Og 21 19 true (.load false 1 (.t 20)), Og 22 19 true (.iop .leq (.t 21) (.d (Ci 10000))), Oo 23 (.pick (.t 19) (.t 22) (.d (.p (.s (.bool false))))), Om 24 23, Og 25 24 true (.fadr 3 (.t 3)), Og 26 24 true (.load false 1 (.t 25)), Og 27 24 true (.lenL (.t 26)), Og 28 24 true (.iop .leq (.t 27) (.d (Ci 16))), Oo 29 (.pick (.t 24) (.t 28) (.d (.p (.s (.bool false))))), Om 30 29, Og 31 30 true (.fadr 3 (.t 3)), Og 32 30 true (.load false 1 (.t 31)), Og 33 30 true (.mov (.t 5)), Og 34 30 true (.call 201 [.t 32, .t 33]), Og 35 30 true (.un .not (.t 34)), Oo 36 (.pick (.t 30) (.t 35) (.d (.p (.s (.bool false))))), Om 4 36]) .ret))), [.tmp 4]⟩
theorem c_room_Right : comp Tryz.prog G0 124 = some m_room_Right := by kernel_rfl
theorem q_room_Right : Q0 124 := mCall_pure rfl
def m_ref11_Right : MF := ⟨28, (.seq (.reg none [Oo 2 (.box (.t 0)), Oo 3 (.box (.t 1)), Oo 4 (.mov (.d (.p (.s (.bool false)))))]) (.seq (.reg none [Oo 5 (.load true 3 (.t 2)), Oo 6 (.call 190 [.t 5]), Om 7 6, Og 8 7 true (.fadr 0 (.t 3)), Og 9 7 true (.load false 1 (.t 8)), Og 10 7 true (.call 189 [.t 9]), Oo 11 (.pick (.t 7) (.t 10) (.d (.p (.s (.bool false))))), Om 12 11, Og 13 12 true (.fadr 1 (.t 3)), Og 14 12 true (.load false 1 (.t 13)), Og 15 12 true (.iop .geq (.t 14) (.d (Ci 0))), Oo 16 (.pick (.t 12) (.t 15) (.d (.p (.s (.bool false))))), Om 17 16, Og 18 17 true (.fadr 1 (.t 3)), Og 19 17 true (.load false 1 (.t 18)), Og 20 17 true (.iop .leq (.t 19) (.d (Ci 10000))), Oo 21 (.pick (.t 17) (.t 20) (.d (.p (.s (.bool false))))), Om 22 21, Og 23 22 true (.load true 3 (.t 2)), Og 24 22 true (.fadr 3 (.t 3)), Og 25 22 true (.load false 1 (.t 24)), Og 26 22 true (.call 259 [.t 23, .t 25, (.d (Ci 16))]), Oo 27 (.pick (.t 22) (.t 26) (.d (.p (.s (.bool false))))), Om 4 27]) .ret)), [.tmp 4]⟩
theorem c_ref11_Right : comp Tryz.prog G0 235 = some m_ref11_Right := by kernel_rfl
theorem q_ref11_Right : Q0 235 := mCall_pure rfl
def m_person_Right_1 : MF := ⟨8, (.seq (.reg none [Oo 2 (.box (.t 0)), Oo 3 (.mov (.d (.p (.s (.bool false)))))]) (.seq (.reg none [Oo 4 (.load true 3 (.t 1)), Oo 5 (.load true 4 (.t 2)), Oo 6 (.call 161 [.t 4, .t 5]), Oo 7 (.un .not (.t 6)), Om 3 7]) .ret)), [.tmp 3]⟩
theorem c_person_Right_1 : comp Tryz.prog G0 202 = some m_person_Right_1 := by kernel_rfl
theorem k_person_Right_1 : callable Tryz.prog 202 = true := by kernel_rfl
def m_person_Right : MF := ⟨27, (.seq (.reg none [Oo 2 (.box (.t 0)), Oo 3 (.box (.t 1)), Oo 4 (.mov (.d (.p (.s (.bool false)))))]) (.seq (.reg none [Oo 6 (.mkf (.func 202) [] [.t 2]), Om 5 6]) (.seq (.reg none [Oo 7 (.load true 3 (.t 2)), Oo 8 (.call 120 [.t 7]), Om 9 8, Og 10 9 true (.fadr 0 (.t 3)), Og 11 9 true (.load false 1 (.t 10)), Og 12 9 true (.call 119 [.t 11]), Oo 13 (.pick (.t 9) (.t 12) (.d (.p (.s (.bool false))))), Om 14 13, Og 15 14 true (.fadr 1 (.t 3)), Og 16 14 true (.load false 1 (.t 15)), Og 17 14 true (.lenL (.t 16)), Og 18 14 true (.iop .leq (.t 17) (.d (Ci 16))), Oo 19 (.pick (.t 14) (.t 18) (.d (.p (.s (.bool false))))), Om 20 19, Og 21 20 true (.fadr 1 (.t 3)), Og 22 20 true (.load false 1 (.t 21)), Og 23 20 true (.mov (.t 5)), Og 24 20 true (.call 201 [.t 22, .t 23]), Og 25 20 true (.un .not (.t 24)), Oo 26 (.pick (.t 20) (.t 25) (.d (.p (.s (.bool false))))), Om 4 26]) .ret))), [.tmp 4]⟩
theorem c_person_Right : comp Tryz.prog G0 129 = some m_person_Right := by kernel_rfl
theorem q_person_Right : Q0 129 := mCall_pure rfl
def m_ref12_Right : MF := ⟨18, (.seq (.reg none [Oo 2 (.box (.t 0)), Oo 3 (.box (.t 1)), Oo 4 (.mov (.d (.p (.s (.bool false)))))]) (.seq (.reg none [Oo 5 (.load true 3 (.t 2)), Oo 6 (.call 190 [.t 5]), Om 7 6, Og 8 7 true (.fadr 0 (.t 3)), Og 9 7 true (.load false 1 (.t 8)), Og 10 7 true (.call 189 [.t 9]), Oo 11 (.pick (.t 7) (.t 10) (.d (.p (.s (.bool false))))), Om 12 11, Og 13 12 true (.load true 3 (.t 2)), Og 14 12 true (.fadr 1 (.t 3)), Og 15 12 true (.load false 1 (.t 14)), Og 16 12 true (.call 259 [.t 13, .t 15, (.d (Ci 16))]), Oo 17 (.pick (.t 12) (.t 16) (.d (.p (.s (.bool false))))), Om 4 17]) .ret)), [.tmp 4]⟩
theorem c_ref12_Right : comp Tryz.prog G0 237 = some m_ref12_Right := by kernel_rfl
theorem q_ref12_Right : Q0 237 := mCall_pure rfl
theorem whens_res (g : VGrid) (l : List VWhen) (hl : l.length < 4611686018427387904) (m : Int) : res Tryz.prog G0 259 [g.P, .lst (l.map VWhen.P), I m] = some (B (l.all (whenB g) && decide ((l.length : Int) ≤ m))) := by
  refine res_body c_ref11_Whens (Nat.le_of_ble_eq_true rfl) ?_
  simp only [m_ref11_Whens, Oo, Ou, Og, Ci, Om, Of, Ol, Ok]
  repeat' (first | simp only [go_sem, Int.reduceLT, Int.reduceLE, Int.reduceNeg, Int.reduceEq, Nat.reduceAdd, Nat.reduceEqDiff, Nat.reduceLeDiff, Nat.reduceBEq, reduceIte, reduceCtorEq] | (with_reducible first | apply c1 | (first | apply c2 | apply c3) <;> (intro hc; simp only [hc]) | (first | apply c4 | apply c5) <;> (intro hc; rw [hc])))
  refine X_for 7 l.length (fun i s => s.h.get 0 = some (.cells (DV.cells (.p g.P)) false) ∧ ∀ x ∈ l.take i, whenB g x = true) 0 hl ?_ (Nat.zero_le _) ⟨by simp only [go_sem, Int.reduceLT, Int.reduceLE, Int.reduceNeg, Int.reduceEq, Nat.reduceAdd, Nat.reduceEqDiff, Nat.reduceLeDiff, Nat.reduceBEq, reduceIte, reduceCtorEq], by simp⟩ ?_
  · simp only [go_sem, Int.reduceLT, Int.reduceLE, Int.reduceNeg, Int.reduceEq, Nat.reduceAdd, Nat.reduceEqDiff, Nat.reduceLeDiff, Nat.reduceBEq, reduceIte, reduceCtorEq]; rfl
  intro i t h nx hf hi0 hi h7 hj
  obtain ⟨hh0, hj⟩ := hj
  dsimp only at hh0
  have h1 := hf 1 rfl; simp only [PT.get_set, Nat.reduceEqDiff, if_true, if_false, reduceIte, PT.get_leaf] at h1; have h2 := hf 2 rfl; simp only [PT.get_set, Nat.reduceEqDiff, if_true, if_false, reduceIte, PT.get_leaf] at h2; have h3 := hf 3 rfl; simp only [PT.get_set, Nat.reduceEqDiff, if_true, if_false, reduceIte, PT.get_leaf] at h3
  clear hf
  rcases Nat.lt_or_ge i l.length with hlt | hge
  · obtain ⟨x, hx, _, htk⟩ := get_dec (l := l) (i := i) (by simpa using hlt)
    have hm : x ∈ l := List.mem_of_getElem? hx
    repeat' (first | simp only [go_sem, Int.reduceLT, Int.reduceLE, Int.reduceNeg, Int.reduceEq, Nat.reduceAdd, Nat.reduceEqDiff, Nat.reduceLeDiff, Nat.reduceBEq, reduceIte, reduceCtorEq, h1, h2, h3, h7, hh0, hx, q_ref09_Right, rwhen_res, show decide ((i : Int) < (l.length : Int)) = true by simpa using hlt] | (with_reducible first | apply c1 | (first | apply c2 | apply c3) <;> (intro hc; simp only [hc]) | (first | apply c4 | apply c5) <;> (intro hc; rw [hc])))
    · refine ⟨hlt, fun y hy => ?_⟩
      rw [htk, List.mem_append, List.mem_singleton] at hy
      rcases hy with hy | rfl
      · exact hj y hy
      · assumption
    · rw [s_bool]
      have : l.all (whenB g) = false := by
        rw [List.all_eq_false]
        exact ⟨x, hm, by simpa using hc⟩
      rw [this]; rfl
  · have he : l.take i = l := List.take_of_length_le hge
    rw [he] at hj
    repeat' (first | simp only [go_sem, Int.reduceLT, Int.reduceLE, Int.reduceNeg, Int.reduceEq, Nat.reduceAdd, Nat.reduceEqDiff, Nat.reduceLeDiff, Nat.reduceBEq, reduceIte, reduceCtorEq, h1, h2, h3, h7, show decide ((i : Int) < (l.length : Int)) = false by simpa using hge] | (with_reducible first | apply c1 | (first | apply c2 | apply c3) <;> (intro hc; simp only [hc]) | (first | apply c4 | apply c5) <;> (intro hc; rw [hc])))
    rw [s_bool, List.all_eq_true.2 hj]; rfl
theorem room1_res (g : VGrid) (w : VWhen) : res Tryz.prog G0 200 [w.P, .rp g.P.cells] = some (B (!whenB g w)) := by
  refine res_body c_room_Right_1 (Nat.le_of_ble_eq_true rfl) ?_
  simp only [m_room_Right_1, Oo, Ou, Og, Ci, Om, Of, Ol, Ok]
  repeat' (first | simp only [go_sem, Int.reduceLT, Int.reduceLE, Int.reduceNeg, Int.reduceEq, Nat.reduceAdd, Nat.reduceEqDiff, Nat.reduceLeDiff, Nat.reduceBEq, reduceIte, reduceCtorEq, q_when_Right, when_res] | (with_reducible first | apply c1 | (first | apply c2 | apply c3) <;> (intro hc; simp only [hc]) | (first | apply c4 | apply c5) <;> (intro hc; rw [hc])))
theorem person1_res (g : VGrid) (w : VWhen) : res Tryz.prog G0 202 [w.P, .rp g.P.cells] = some (B (!whenB g w)) := by
  refine res_body c_person_Right_1 (Nat.le_of_ble_eq_true rfl) ?_
  simp only [m_person_Right_1, Oo, Ou, Og, Ci, Om, Of, Ol, Ok]
  repeat' (first | simp only [go_sem, Int.reduceLT, Int.reduceLE, Int.reduceNeg, Int.reduceEq, Nat.reduceAdd, Nat.reduceEqDiff, Nat.reduceLeDiff, Nat.reduceBEq, reduceIte, reduceCtorEq, q_when_Right, when_res] | (with_reducible first | apply c1 | (first | apply c2 | apply c3) <;> (intro hc; simp only [hc]) | (first | apply c4 | apply c5) <;> (intro hc; rw [hc])))
end Go.Proofs.YtddmnddocbmjnaaGreat.Dv
namespace Go.Proofs.YtddmnddocbmjnaaGreat.Dv
def roomB (g : VGrid) (r : VRoom) : Bool := gridB g && nameB r.name && decide (0 ≤ r.seats) && decide (r.seats ≤ 10000) && decide ((r.shut.length : Int) ≤ 16) && r.shut.all (whenB g)
def personB (g : VGrid) (r : VPerson) : Bool := gridB g && nameB r.name && decide ((r.away.length : Int) ≤ 16) && r.away.all (whenB g)
theorem any_not_all {α : Type} {p : α → Bool} {l : List α} : (l.any fun x => !p x) = !l.all p := by
  induction l with
  | nil => rfl
  | cons x l ih => simp [ih]
theorem room_res (g : VGrid) (r : VRoom) (hl : r.shut.length ≤ 1048576) : res Tryz.prog G0 124 [g.P, r.P] = some (B (roomB g r)) := by
  have hc : ∀ x ∈ r.shut, App Tryz.prog G0 (.clo (.func 200) [] [.rp g.P.cells]) [x.P] (B (!whenB g x)) := fun x _ => App_clo k_room_Right_1 (fun _ => rfl) (room1_res g x)
  have hF := hasFW_res r.shut (by omega) _ _ hc
  rw [any_not_all] at hF
  refine res_body c_room_Right (Nat.le_of_ble_eq_true rfl) ?_
  simp only [m_room_Right, Oo, Ou, Og, Ci, Om, Of, Ol, Ok]
  repeat' (first | simp only [go_sem, Int.reduceLT, Int.reduceLE, Int.reduceNeg, Int.reduceEq, Nat.reduceAdd, Nat.reduceEqDiff, Nat.reduceLeDiff, Nat.reduceBEq, reduceIte, reduceCtorEq, q_when_RightGrid, grid_res, q_room_Name, name_res, q_slices_ContainsFunc_Lapi_When_api_When_, hF] | (with_reducible first | apply c1 | (first | apply c2 | apply c3) <;> (intro hc; simp only [hc]) | (first | apply c4 | apply c5) <;> (intro hc; rw [hc])))
  all_goals (simp_all [roomB])
  all_goals (intros; exfalso; omega)
theorem rroom_res (g : VGrid) (r : VRoom) (hl : r.shut.length ≤ 1048576) : res Tryz.prog G0 235 [g.P, r.P] = some (B (roomB g r)) := by
  refine res_body c_ref11_Right (Nat.le_of_ble_eq_true rfl) ?_
  simp only [m_ref11_Right, Oo, Ou, Og, Ci, Om, Of, Ol, Ok]
  repeat' (first | simp only [go_sem, Int.reduceLT, Int.reduceLE, Int.reduceNeg, Int.reduceEq, Nat.reduceAdd, Nat.reduceEqDiff, Nat.reduceLeDiff, Nat.reduceBEq, reduceIte, reduceCtorEq, q_ref09_RightGrid, rgrid_res, q_ref11_Name, rname_res, q_ref11_Whens, whens_res g r.shut (by omega) 16] | (with_reducible first | apply c1 | (first | apply c2 | apply c3) <;> (intro hc; simp only [hc]) | (first | apply c4 | apply c5) <;> (intro hc; rw [hc])))
  all_goals (simp_all [roomB, Bool.and_comm])
  all_goals (intros; exfalso; omega)
theorem person_res (g : VGrid) (r : VPerson) (hl : r.away.length ≤ 1048576) : res Tryz.prog G0 129 [g.P, r.P] = some (B (personB g r)) := by
  have hc : ∀ x ∈ r.away, App Tryz.prog G0 (.clo (.func 202) [] [.rp g.P.cells]) [x.P] (B (!whenB g x)) := fun x _ => App_clo k_person_Right_1 (fun _ => rfl) (person1_res g x)
  have hF := hasFW_res r.away (by omega) _ _ hc
  rw [any_not_all] at hF
  refine res_body c_person_Right (Nat.le_of_ble_eq_true rfl) ?_
  simp only [m_person_Right, Oo, Ou, Og, Ci, Om, Of, Ol, Ok]
  repeat' (first | simp only [go_sem, Int.reduceLT, Int.reduceLE, Int.reduceNeg, Int.reduceEq, Nat.reduceAdd, Nat.reduceEqDiff, Nat.reduceLeDiff, Nat.reduceBEq, reduceIte, reduceCtorEq, q_when_RightGrid, grid_res, q_room_Name, name_res, q_slices_ContainsFunc_Lapi_When_api_When_, hF] | (with_reducible first | apply c1 | (first | apply c2 | apply c3) <;> (intro hc; simp only [hc]) | (first | apply c4 | apply c5) <;> (intro hc; rw [hc])))
  all_goals (simp_all [personB])
  all_goals (intros; exfalso; omega)
theorem rperson_res (g : VGrid) (r : VPerson) (hl : r.away.length ≤ 1048576) : res Tryz.prog G0 237 [g.P, r.P] = some (B (personB g r)) := by
  refine res_body c_ref12_Right (Nat.le_of_ble_eq_true rfl) ?_
  simp only [m_ref12_Right, Oo, Ou, Og, Ci, Om, Of, Ol, Ok]
  repeat' (first | simp only [go_sem, Int.reduceLT, Int.reduceLE, Int.reduceNeg, Int.reduceEq, Nat.reduceAdd, Nat.reduceEqDiff, Nat.reduceLeDiff, Nat.reduceBEq, reduceIte, reduceCtorEq, q_ref09_RightGrid, rgrid_res, q_ref11_Name, rname_res, q_ref11_Whens, whens_res g r.away (by omega) 16] | (with_reducible first | apply c1 | (first | apply c2 | apply c3) <;> (intro hc; simp only [hc]) | (first | apply c4 | apply c5) <;> (intro hc; rw [hc])))
  all_goals (simp_all [personB, Bool.and_comm])
end Go.Proofs.YtddmnddocbmjnaaGreat.Dv
