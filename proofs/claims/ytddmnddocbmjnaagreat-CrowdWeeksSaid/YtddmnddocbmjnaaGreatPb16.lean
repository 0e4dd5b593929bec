/- Part 16 of the proof: CrowdWeeks: whatever plain data comes in, the call returns true and leaves its arguments as they were. No condition. -/
import Derived.Test.YtddmnddocbmjnaaGreatPb15
import Derived.KernelRfl
set_option linter.all false
set_option linter.unusedVariables false
set_option linter.unusedSectionVars false
set_option linter.unusedSimpArgs false
namespace Go.Proofs.YtddmnddocbmjnaaGreat.Dv
def m_problem_rising : MF := ⟨20, (.seq (.reg none [Oo 2 (.mov (.d (.p (.s (.bool false)))))]) (.seq (.seq (.reg none [Oo 3 (.mov (.d (Ci 1)))]) (.block 0 (.loop (.seq (.seq (.reg none [Om 4 3, Om 5 0, Ok 6 5, Oo 7 (.iop .lss (.t 4) (.t 6))]) (.cond (.t 7) .skip (.exit 0))) (.seq (.block 1 (.seq (.reg (some #[0, 0, 2, 7, 15, 0, 0, 96, 224, 511]) [Om 10 0, Om 11 3, Oo 12 (.iop .sub (.t 11) (.d (Ci 1))), Oo 13 (.iadrS 1 (.t 10) (.t 12)), Ol 14 13, Om 15 0, Om 16 3, Oo 17 (.iadrS 1 (.t 15) (.t 16)), Ol 18 17, Oo 19 (.iop .geq (.t 14) (.t 18))]) (.cond (.t 19) (.seq (.reg none [Oo 2 (.mov (.d (.p (.s (.bool false)))))]) .ret) .skip))) (.reg none [Om 8 3, Oo 9 (.iop .add (.t 8) (.d (Ci 1))), Om 3 9])))))) (.seq (.reg none [Oo 2 (.mov (.d (.p (.s (.bool true)))))]) .ret))), [.tmp 2]⟩
theorem c_problem_rising : comp Tryz.prog G0 207 = some m_problem_rising := by kernel_rfl
theorem q_problem_rising : Q0 207 := mCall_pure rfl
def m_problem_distinct : MF := ⟨30, (.seq (.reg none [Oo 4 (.mov (.d (.p (.s (.bool false)))))]) (.seq (.reg none [Oo 8 .mkm, Om 5 8]) (.seq (.seq (.reg none [Om 9 0, Ok 10 9, Oo 11 (.mov (.d (Ci 0)))]) (.block 0 (.loop (.seq (.reg none [Oo 12 (.iop .lss (.t 11) (.t 10))]) (.seq (.cond (.t 12) .skip (.exit 0)) (.seq (.block 1 (.seq (.reg none [Oo 13 (.iadrS 1 (.t 9) (.t 11)), Ol 14 13, Om 7 14]) (.seq (.seq (.reg none [Om 15 7, Oo 16 (.iop .lss (.t 15) (.d (Ci 0))), Om 17 16, Og 18 17 false (.mov (.t 7)), Og 19 17 false (.mov (.t 1)), Og 20 17 false (.iop .geq (.t 18) (.t 19)), Oo 21 (.pick (.t 17) (.d (.p (.s (.bool true)))) (.t 20)), Om 22 21, Og 23 22 false (.mov (.t 5)), Og 24 22 false (.mov (.t 7)), Og 25 22 false (.lkp false [0] (.p (.s (.bool false))) false (.t 23) (.t 24)), Oo 26 (.pick (.t 22) (.d (.p (.s (.bool true)))) (.t 25))]) (.cond (.t 26) (.seq (.reg none [Oo 4 (.mov (.d (.p (.s (.bool false)))))]) .ret) .skip)) (.reg none [Om 27 5, Om 28 7, Ou (.mup false [0] (.t 27) (.t 28) (.d (.p (.s (.bool true)))))])))) (.reg none [Oo 29 (.iop .add (.t 11) (.d (Ci 1))), Om 11 29]))))))) (.seq (.reg none [Oo 4 (.mov (.d (.p (.s (.bool true)))))]) .ret)))), [.tmp 4]⟩
theorem c_problem_distinct : comp Tryz.prog G0 208 = some m_problem_distinct := by kernel_rfl
theorem q_problem_distinct : Q0 208 := mCall_pure rfl
def m_problem_student : MF := ⟨27, (.seq (.reg none [Oo 2 (.box (.t 0)), Oo 3 (.box (.t 1)), Oo 4 (.mov (.d (.p (.s (.bool false)))))]) (.seq (.reg none [Of 5 0 3, Ol 6 5, Oo 7 (.call 119 [.t 6]), Om 8 7, Og 9 8 true (.fadr 1 (.t 3)), Og 10 8 true (.load false 1 (.t 9)), Og 11 8 true (.lenL (.t 10)), Og 12 8 true (.iop .leq (.t 11) (.d (Ci 6))), Oo 13 (.pick (.t 8) (.t 12) (.d (.p (.s (.bool false))))), Om 14 13, Og 15 14 true (.fadr 1 (.t 3)), Og 16 14 true (.load false 1 (.t 15)), Og 17 14 true (.call 207 [.t 16]), Oo 18 (.pick (.t 14) (.t 17) (.d (.p (.s (.bool false))))), Om 19 18, Og 20 19 true (.fadr 1 (.t 3)), Og 21 19 true (.load false 1 (.t 20)), Og 22 19 true (.fadr 8 (.t 2)), Og 23 19 true (.load false 1 (.t 22)), Og 24 19 true (.lenL (.t 23)), Og 25 19 true (.call 208 [.t 21, .t 24]), Oo 26 (.pick (.t 19) (.t 25) (.d (.p (.s (.bool false))))), Om 4 26]) .ret)), [.tmp 4]⟩
theorem c_problem_student : comp Tryz.prog G0 141 = some m_problem_student := by kernel_rfl
theorem q_problem_student : Q0 141 := mCall_pure rfl
def incB (l : List Int) : Bool := decide (l.Pairwise (· < ·))
theorem pw_snoc {l : List Int} {x : Int} (hl : l ≠ []) : (l ++ [x]).Pairwise (· < ·) ↔ l.Pairwise (· < ·) ∧ lastI l < x := by
  rcases List.eq_nil_or_concat l with rfl | ⟨k, y, rfl⟩
  · exact absurd rfl hl
  · simp only [List.concat_eq_append, lastI_snoc, List.pairwise_append, List.mem_append, List.mem_singleton]
    constructor
    · rintro ⟨h1, _, h2⟩
      exact ⟨h1, h2 y (.inr rfl) x rfl⟩
    · rintro ⟨⟨h1, h2, h3⟩, h5⟩
      refine ⟨⟨h1, h2, h3⟩, by simp, ?_⟩
      rintro a (ha | rfl) b rfl
      · have := h3 a ha y rfl; omega
      · exact h5
theorem inc_res (l : List Int) (hl : l.length ≤ 1048576) : res Tryz.prog G0 207 [L l] = some (B (incB l)) := by
  refine res_body c_problem_rising (Nat.le_of_ble_eq_true rfl) ?_
  simp only [m_problem_rising, Oo, Ou, Og, Ci, Om, Of, Ol, Ok]
  repeat' (first | simp only [go_sem, Int.reduceLT, Int.reduceLE, Int.reduceNeg, Int.reduceEq, Nat.reduceAdd, Nat.reduceEqDiff, Nat.reduceLeDiff, Nat.reduceBEq, reduceIte, reduceCtorEq] | (with_reducible first | apply c1 | (first | apply c2 | apply c3) <;> (intro hc; simp only [hc]) | (first | apply c4 | apply c5) <;> (intro hc; rw [hc])))
  refine X_for 3 (max 1 l.length) (fun i s => (l.take i).Pairwise (· < ·)) 1 (by omega) ?_ (by omega) ?_ ?_
  · simp only [go_sem, Int.reduceLT, Int.reduceLE, Int.reduceNeg, Int.reduceEq, Nat.reduceAdd, Nat.reduceEqDiff, Nat.reduceLeDiff, Nat.reduceBEq, reduceIte, reduceCtorEq]; rfl
  · cases l <;> simp
  intro i t h nx hf hi0 hi h3 hr
  have h0 := hf 0 rfl; simp only [PT.get_set, Nat.reduceEqDiff, if_true, if_false, reduceIte, PT.get_leaf] at h0
  clear hf
  obtain ⟨k, rfl⟩ : ∃ k, i = k + 1 := ⟨i - 1, by omega⟩
  rcases Nat.lt_or_ge (k + 1) l.length with hlt | hge
  · obtain ⟨x, hx, _, htk⟩ := get_dec (l := l) (i := k + 1) (by simp only [decide_eq_true_eq]; omega)
    obtain ⟨y, hy, _, hyk⟩ := get_dec (l := l) (i := k) (by simp; omega)
    have hdl : decide (((k + 1 : Nat) : Int) < (l.length : Int)) = true := by simp only [decide_eq_true_eq]; omega
    have hlast : lastI (l.take (k + 1)) = y := by rw [hyk, lastI_snoc]
    have hne : l.take (k + 1) ≠ [] := by rw [hyk]; simp
    have hw : IntKind.wrap .i64 (((k + 1 : Nat) : Int) - 1) = (k : Int) := by rw [wrap_id (by omega) (by omega)]; omega
    by_cases hb : y < x
    · repeat' (first | simp only [go_sem, Int.reduceLT, Int.reduceLE, Int.reduceNeg, Int.reduceEq, Nat.reduceAdd, Nat.reduceEqDiff, Nat.reduceLeDiff, Nat.reduceBEq, reduceIte, reduceCtorEq, h0, h3, hx, hy, hdl, hw, show decide (x ≤ y) = false by (simp; omega)] | (with_reducible first | apply c1 | (first | apply c2 | apply c3) <;> (intro hc; simp only [hc]) | (first | apply c4 | apply c5) <;> (intro hc; rw [hc])))
      refine ⟨by omega, ?_⟩
      rw [htk]
      exact (pw_snoc hne).2 ⟨hr, by rw [hlast]; exact hb⟩
    · repeat' (first | simp only [go_sem, Int.reduceLT, Int.reduceLE, Int.reduceNeg, Int.reduceEq, Nat.reduceAdd, Nat.reduceEqDiff, Nat.reduceLeDiff, Nat.reduceBEq, reduceIte, reduceCtorEq, h0, h3, hx, hy, hdl, hw, show decide (x ≤ y) = true by (simp; omega)] | (with_reducible first | apply c1 | (first | apply c2 | apply c3) <;> (intro hc; simp only [hc]) | (first | apply c4 | apply c5) <;> (intro hc; rw [hc])))
      rw [s_bool]
      symm
      simp only [incB, decide_eq_false_iff_not]
      intro hp
      have := hp.sublist (List.take_sublist (k + 1 + 1) l)
      rw [htk, pw_snoc hne, hlast] at this
      exact hb this.2
  · rw [List.take_of_length_le hge] at hr
    repeat' (first | simp only [go_sem, Int.reduceLT, Int.reduceLE, Int.reduceNeg, Int.reduceEq, Nat.reduceAdd, Nat.reduceEqDiff, Nat.reduceLeDiff, Nat.reduceBEq, reduceIte, reduceCtorEq, h0, h3, show decide (((k + 1 : Nat) : Int) < (l.length : Int)) = false by (simp only [decide_eq_false_iff_not]; omega)] | (with_reducible first | apply c1 | (first | apply c2 | apply c3) <;> (intro hc; simp only [hc]) | (first | apply c4 | apply c5) <;> (intro hc; rw [hc])))
    simp [incB, hr]
def inB (n : Int) (x : Int) : Bool := decide (0 ≤ x) && decide (x < n)
def distB (n : Int) (l : List Int) : Bool := eachB (inB n) (fun x => x) l
theorem ris_split {n : Int} {l : List Int} : risB n l = (incB l && distB n l) := by
  rw [Bool.eq_iff_iff]
  simp only [risB, incB, distB, eachB, inB, Bool.and_eq_true, decide_eq_true_eq, List.all_eq_true, List.map_id', nodupB_iff]
  constructor
  · rintro ⟨h1, h2⟩
    exact ⟨h1, h2, h1.imp (fun h => by omega)⟩
  · rintro ⟨h1, h2, _⟩
    exact ⟨h1, h2⟩
theorem dist_res (l : List Int) (hl : l.length ≤ 1048576) (n : Int) : res Tryz.prog G0 208 [L l, I n] = some (B (distB n l)) := by
  refine res_body c_problem_distinct (Nat.le_of_ble_eq_true rfl) ?_
  simp only [m_problem_distinct, Oo, Ou, Og, Ci, Om, Of, Ol, Ok]
  repeat' (first | simp only [go_sem, Int.reduceLT, Int.reduceLE, Int.reduceNeg, Int.reduceEq, Nat.reduceAdd, Nat.reduceEqDiff, Nat.reduceLeDiff, Nat.reduceBEq, reduceIte, reduceCtorEq] | (with_reducible first | apply c1 | (first | apply c2 | apply c3) <;> (intro hc; simp only [hc]) | (first | apply c4 | apply c5) <;> (intro hc; rw [hc])))
  refine X_for 11 l.length (fun i s => s.h.get 1 = some (.map (mapS intP (l.take i))) ∧ s.t.get 5 = some (.mm 1) ∧ (l.take i).Nodup ∧ ∀ x ∈ l.take i, inB n x = true) 0 (by omega) ?_ (Nat.zero_le _) ?_ ?_
  · simp only [go_sem, Int.reduceLT, Int.reduceLE, Int.reduceNeg, Int.reduceEq, Nat.reduceAdd, Nat.reduceEqDiff, Nat.reduceLeDiff, Nat.reduceBEq, reduceIte, reduceCtorEq]; rfl
  · exact ⟨by simp only [go_sem, Int.reduceLT, Int.reduceLE, Int.reduceNeg, Int.reduceEq, Nat.reduceAdd, Nat.reduceEqDiff, Nat.reduceLeDiff, Nat.reduceBEq, reduceIte, reduceCtorEq]; rfl, by simp only [go_sem, Int.reduceLT, Int.reduceLE, Int.reduceNeg, Int.reduceEq, Nat.reduceAdd, Nat.reduceEqDiff, Nat.reduceLeDiff, Nat.reduceBEq, reduceIte, reduceCtorEq], by simp, by simp⟩
  intro i t h nx hf hi0 hi h11 hj
  obtain ⟨hh, h5, hnd, hok⟩ := hj
  dsimp only at hh h5
  have h0 := hf 0 rfl; simp only [PT.get_set, Nat.reduceEqDiff, if_true, if_false, reduceIte, PT.get_leaf] at h0; have h1 := hf 1 rfl; simp only [PT.get_set, Nat.reduceEqDiff, if_true, if_false, reduceIte, PT.get_leaf] at h1; have h9 := hf 9 rfl; simp only [PT.get_set, Nat.reduceEqDiff, if_true, if_false, reduceIte, PT.get_leaf] at h9; have h10 := hf 10 rfl; simp only [PT.get_set, Nat.reduceEqDiff, if_true, if_false, reduceIte, PT.get_leaf] at h10
  clear hf
  rcases Nat.lt_or_ge i l.length with hlt | hge
  · obtain ⟨x, hx, _, htk⟩ := get_dec (l := l) (i := i) (by simpa using hlt)
    have hm : x ∈ l := List.mem_of_getElem? hx
    have hdl : decide ((i : Int) < (l.length : Int)) = true := by simpa using hlt
    have bad : inB n x = false → PDV.s (.bool false) = B (distB n l) := fun hb => by simp [distB, each_bad hm hb]
    cases hmem : memB x (l.take i) with
    | true =>
      have tw : PDV.s (.bool false) = B (distB n l) := by
        rw [distB, each_twice (ok := inB n) (key := fun x : Int => x) hx (by rw [List.map_id']; exact memB_iff.1 hmem)]
      repeat' (first | simp only [go_sem, Int.reduceLT, Int.reduceLE, Int.reduceNeg, Int.reduceEq, Nat.reduceAdd, Nat.reduceEqDiff, Nat.reduceLeDiff, Nat.reduceBEq, reduceIte, reduceCtorEq, h0, h1, h9, h10, h11, h5, hh, hx, hdl, lkp_int hnd, hmem] | (with_reducible first | apply c1 | (first | apply c2 | apply c3) <;> (intro hc; simp only [hc]) | (first | apply c4 | apply c5) <;> (intro hc; rw [hc])))
      all_goals exact tw
    | false =>
      repeat' (first | simp only [go_sem, Int.reduceLT, Int.reduceLE, Int.reduceNeg, Int.reduceEq, Nat.reduceAdd, Nat.reduceEqDiff, Nat.reduceLeDiff, Nat.reduceBEq, reduceIte, reduceCtorEq, h0, h1, h9, h10, h11, h5, hh, hx, hdl, lkp_int hnd, mup_int hnd (memB_not.1 hmem), hmem] | (with_reducible first | apply c1 | (first | apply c2 | apply c3) <;> (intro hc; simp only [hc]) | (first | apply c4 | apply c5) <;> (intro hc; rw [hc])))
      all_goals first
        | (refine bad ?_; simp_all [inB]; done)
        | (refine bad ?_; simp_all [inB]; omega)
        | (refine ⟨hlt, by rw [htk], by rw [htk]; exact nodup_snoc.2 ⟨hnd, memB_not.1 hmem⟩, fun y hy => ?_⟩
           rw [htk, List.mem_append, List.mem_singleton] at hy
           rcases hy with hy | rfl
           · exact hok y hy
           · simp_all [inB])
  · have he : l.take i = l := List.take_of_length_le hge
    rw [he] at hnd hok
    have hE := each_ok (key := fun x : Int => x) hok (by rw [List.map_id']; exact hnd)
    repeat' (first | simp only [go_sem, Int.reduceLT, Int.reduceLE, Int.reduceNeg, Int.reduceEq, Nat.reduceAdd, Nat.reduceEqDiff, Nat.reduceLeDiff, Nat.reduceBEq, reduceIte, reduceCtorEq, h0, h1, h9, h10, h11, h5, show decide ((i : Int) < (l.length : Int)) = false by simpa using hge] | (with_reducible first | apply c1 | (first | apply c2 | apply c3) <;> (intro hc; simp only [hc]) | (first | apply c4 | apply c5) <;> (intro hc; rw [hc])))
    rw [distB, hE]
def studentB (n : Int) (x : VStudent) : Bool := nameB x.name && decide ((x.courses.length : Int) ≤ 6) && risB n x.courses
theorem student_res (p : VProblem) (x : VStudent) (hx : x.courses.length ≤ 1048576) : res Tryz.prog G0 141 [p.P, x.P] = some (B (studentB p.courses.length x)) := by
  refine res_body c_problem_student (Nat.le_of_ble_eq_true rfl) ?_
  simp only [m_problem_student, Oo, Ou, Og, Ci, Om, Of, Ol, Ok]
  repeat' (first | simp only [go_sem, Int.reduceLT, Int.reduceLE, Int.reduceNeg, Int.reduceEq, Nat.reduceAdd, Nat.reduceEqDiff, Nat.reduceLeDiff, Nat.reduceBEq, reduceIte, reduceCtorEq, q_room_Name, name_res, q_problem_rising, inc_res x.courses hx, q_problem_distinct, dist_res x.courses hx p.courses.length] | (with_reducible first | apply c1 | (first | apply c2 | apply c3) <;> (intro hc; simp only [hc]) | (first | apply c4 | apply c5) <;> (intro hc; rw [hc])))
  all_goals (simp_all [studentB, ris_split])
  all_goals (intros; exfalso; omega)
theorem rstudent_res (n : Int) (x : VStudent) (hx : x.courses.length ≤ 1048576) : res Tryz.prog G0 239 [I n, x.P] = some (B (studentB n x)) := by
  refine res_body c_ref17_student (Nat.le_of_ble_eq_true rfl) ?_
  simp only [m_ref17_student, Oo, Ou, Og, Ci, Om, Of, Ol, Ok]
  repeat' (first | simp only [go_sem, Int.reduceLT, Int.reduceLE, Int.reduceNeg, Int.reduceEq, Nat.reduceAdd, Nat.reduceEqDiff, Nat.reduceLeDiff, Nat.reduceBEq, reduceIte, reduceCtorEq, q_ref11_Name, rname_res, q_ref13_Rising, rising_res x.courses hx n] | (with_reducible first | apply c1 | (first | apply c2 | apply c3) <;> (intro hc; simp only [hc]) | (first | apply c4 | apply c5) <;> (intro hc; rw [hc])))
  all_goals (simp_all [studentB])
  all_goals (intros; exfalso; omega)
def m_pair_Known : MF := ⟨9, (.seq (.reg none [Oo 2 (.mov (.d (.p (.s (.bool false)))))]) (.seq (.reg none [Om 3 0, Oo 4 (.iop .geq (.t 3) (.d (Ci 1))), Om 5 4, Og 6 5 true (.mov (.t 0)), Og 7 5 true (.iop .leq (.t 6) (.d (Ci 14))), Oo 8 (.pick (.t 5) (.t 7) (.d (.p (.s (.bool false))))), Om 2 8]) .ret)), [.tmp 2]⟩
theorem c_pair_Known : comp Tryz.prog G0 160 = some m_pair_Known := by kernel_rfl
theorem q_pair_Known : Q0 160 := mCall_pure rfl
def m_many_Known : MF := ⟨9, (.seq (.reg none [Oo 2 (.mov (.d (.p (.s (.bool false)))))]) (.seq (.reg none [Om 3 0, Oo 4 (.iop .geq (.t 3) (.d (Ci 21))), Om 5 4, Og 6 5 true (.mov (.t 0)), Og 7 5 true (.iop .leq (.t 6) (.d (Ci 24))), Oo 8 (.pick (.t 5) (.t 7) (.d (.p (.s (.bool false))))), Om 2 8]) .ret)), [.tmp 2]⟩
theorem c_many_Known : comp Tryz.prog G0 209 = some m_many_Known := by kernel_rfl
theorem q_many_Known : Q0 209 := mCall_pure rfl
def m_ref15_Known : MF := ⟨9, (.seq (.reg none [Oo 2 (.mov (.d (.p (.s (.bool false)))))]) (.seq (.reg none [Om 3 0, Oo 4 (.iop .geq (.t 3) (.d (Ci 1))), Om 5 4, Og 6 5 true (.mov (.t 0)), Og 7 5 true (.iop .leq (.t 6) (.d (Ci 14))), Oo 8 (.pick (.t 5) (.t 7) (.d (.p (.s (.bool false))))), Om 2 8]) .ret)), [.tmp 2]⟩
theorem c_ref15_Known : comp Tryz.prog G0 168 = some m_ref15_Known := by kernel_rfl
theorem q_ref15_Known : Q0 168 := mCall_pure rfl
def m_ref16_Known : MF := ⟨9, (.seq (.reg none [Oo 2 (.mov (.d (.p (.s (.bool false)))))]) (.seq (.reg none [Om 3 0, Oo 4 (.iop .geq (.t 3) (.d (Ci 21))), Om 5 4, Og 6 5 true (.mov (.t 0)), Og 7 5 true (.iop .leq (.t 6) (.d (Ci 24))), Oo 8 (.pick (.t 5) (.t 7) (.d (.p (.s (.bool false))))), Om 2 8]) .ret)), [.tmp 2]⟩
theorem c_ref16_Known : comp Tryz.prog G0 229 = some m_ref16_Known := by kernel_rfl
theorem q_ref16_Known : Q0 229 := mCall_pure rfl
def m_many_within : MF := ⟨15, (.seq (.reg none [Oo 6 (.mov (.d (.p (.s (.bool false)))))]) (.seq (.reg none [Om 7 1, Om 8 0, Oo 9 (.iop .leq (.t 7) (.t 8)), Om 10 9, Og 11 10 true (.mov (.t 0)), Og 12 10 true (.mov (.t 2)), Og 13 10 true (.iop .leq (.t 11) (.t 12)), Oo 14 (.pick (.t 10) (.t 13) (.d (.p (.s (.bool false))))), Om 6 14]) .ret)), [.tmp 6]⟩
theorem c_many_within : comp Tryz.prog G0 243 = some m_many_within := by kernel_rfl
theorem q_many_within : Q0 243 := mCall_pure rfl
def m_ref16_from : MF := ⟨15, (.seq (.reg none [Oo 6 (.mov (.d (.p (.s (.bool false)))))]) (.seq (.reg none [Om 7 0, Om 8 1, Oo 9 (.iop .geq (.t 7) (.t 8)), Om 10 9, Og 11 10 true (.mov (.t 0)), Og 12 10 true (.mov (.t 2)), Og 13 10 true (.iop .leq (.t 11) (.t 12)), Oo 14 (.pick (.t 10) (.t 13) (.d (.p (.s (.bool false))))), Om 6 14]) .ret)), [.tmp 6]⟩
theorem c_ref16_from : comp Tryz.prog G0 276 = some m_ref16_from := by kernel_rfl
theorem q_ref16_from : Q0 276 := mCall_pure rfl
def m_many_Right : MF := ⟨51, (.seq (.reg none [Oo 6 (.mov (.d (.p (.s (.bool false)))))]) (.seq (.seq (.reg none [Om 7 0]) (.block 0 (.seq (.reg none [Oo 9 (.iop .eql (.t 7) (.d (Ci 21))), Om 8 9]) (.cond (.t 8) (.seq (.reg none [Om 10 1, Oo 11 (.call 243 [.t 10, (.d (Ci 1)), (.d (Ci 7))]), Om 12 11, Og 13 12 true (.mov (.t 2)), Og 14 12 true (.iop .eql (.t 13) (.d (Ci 0))), Oo 15 (.pick (.t 12) (.t 14) (.d (.p (.s (.bool false))))), Om 6 15]) .ret) (.seq (.seq (.reg none [Oo 17 (.iop .eql (.t 7) (.d (Ci 22))), Om 16 17]) (.cond (.t 16) .skip (.reg none [Oo 18 (.iop .eql (.t 7) (.d (Ci 13))), Om 16 18]))) (.cond (.t 16) (.seq (.reg none [Om 19 1, Oo 20 (.call 243 [.t 19, (.d (Ci 1)), (.d (Ci 96))]), Om 21 20, Og 22 21 true (.mov (.t 2)), Og 23 21 true (.iop .eql (.t 22) (.d (Ci 0))), Oo 24 (.pick (.t 21) (.t 23) (.d (.p (.s (.bool false))))), Om 6 24]) .ret) (.seq (.reg none [Oo 26 (.iop .eql (.t 7) (.d (Ci 23))), Om 25 26]) (.cond (.t 25) (.seq (.reg none [Om 27 1, Oo 28 (.call 243 [.t 27, (.d (Ci 0)), (.d (Ci 48))]), Om 29 28, Og 30 29 true (.mov (.t 2)), Og 31 29 true (.call 243 [.t 30, (.d (Ci 0)), (.d (Ci 96))]), Oo 32 (.pick (.t 29) (.t 31) (.d (.p (.s (.bool false))))), Om 6 32]) .ret) (.seq (.reg none [Oo 34 (.iop .eql (.t 7) (.d (Ci 24))), Om 33 34]) (.cond (.t 33) (.seq (.reg none [Om 35 1, Oo 36 (.call 243 [.t 35, (.d (Ci 1)), (.d (Ci 96))]), Om 37 36, Og 38 37 true (.mov (.t 2)), Og 39 37 true (.call 243 [.t 38, (.d (Ci 0)), (.d (Ci 96))]), Oo 40 (.pick (.t 37) (.t 39) (.d (.p (.s (.bool false))))), Om 6 40]) .ret) .skip)))))))))) (.seq (.reg none [Om 41 0, Oo 42 (.call 243 [.t 41, (.d (Ci 1)), (.d (Ci 14))]), Om 43 42, Og 44 43 true (.mov (.t 1)), Og 45 43 true (.iop .eql (.t 44) (.d (Ci 0))), Oo 46 (.pick (.t 43) (.t 45) (.d (.p (.s (.bool false))))), Om 47 46, Og 48 47 true (.mov (.t 2)), Og 49 47 true (.iop .eql (.t 48) (.d (Ci 0))), Oo 50 (.pick (.t 47) (.t 49) (.d (.p (.s (.bool false))))), Om 6 50]) .ret))), [.tmp 6]⟩
theorem c_many_Right : comp Tryz.prog G0 210 = some m_many_Right := by kernel_rfl
theorem q_many_Right : Q0 210 := mCall_pure rfl
def m_ref16_Right : MF := ⟨51, (.seq (.reg none [Oo 6 (.mov (.d (.p (.s (.bool false)))))]) (.seq (.seq (.reg none [Om 7 0]) (.block 0 (.seq (.reg none [Oo 9 (.iop .eql (.t 7) (.d (Ci 21))), Om 8 9]) (.cond (.t 8) (.seq (.reg none [Om 10 1, Oo 11 (.call 276 [.t 10, (.d (Ci 1)), (.d (Ci 7))]), Om 12 11, Og 13 12 true (.mov (.t 2)), Og 14 12 true (.iop .eql (.t 13) (.d (Ci 0))), Oo 15 (.pick (.t 12) (.t 14) (.d (.p (.s (.bool false))))), Om 6 15]) .ret) (.seq (.seq (.reg none [Oo 17 (.iop .eql (.t 7) (.d (Ci 22))), Om 16 17]) (.cond (.t 16) .skip (.reg none [Oo 18 (.iop .eql (.t 7) (.d (Ci 13))), Om 16 18]))) (.cond (.t 16) (.seq (.reg none [Om 19 1, Oo 20 (.call 276 [.t 19, (.d (Ci 1)), (.d (Ci 96))]), Om 21 20, Og 22 21 true (.mov (.t 2)), Og 23 21 true (.iop .eql (.t 22) (.d (Ci 0))), Oo 24 (.pick (.t 21) (.t 23) (.d (.p (.s (.bool false))))), Om 6 24]) .ret) (.seq (.reg none [Oo 26 (.iop .eql (.t 7) (.d (Ci 23))), Om 25 26]) (.cond (.t 25) (.seq (.reg none [Om 27 1, Oo 28 (.call 276 [.t 27, (.d (Ci 0)), (.d (Ci 48))]), Om 29 28, Og 30 29 true (.mov (.t 2)), Og 31 29 true (.call 276 [.t 30, (.d (Ci 0)), (.d (Ci 96))]), Oo 32 (.pick (.t 29) (.t 31) (.d (.p (.s (.bool false))))), Om 6 32]) .ret) (.seq (.reg none [Oo 34 (.iop .eql (.t 7) (.d (Ci 24))), Om 33 34]) (.cond (.t 33) (.seq (.reg none [Om 35 1, Oo 36 (.call 276 [.t 35, (.d (Ci 1)), (.d (Ci 96))]), Om 37 36, Og 38 37 true (.mov (.t 2)), Og 39 37 true (.call 276 [.t 38, (.d (Ci 0)), (.d (Ci 96))]), Oo 40 (.pick (.t 37) (.t 39) (.d (.p (.s (.bool false))))), Om 6 40]) .ret) .skip)))))))))) (.seq (.reg none [Om 41 0, Oo 42 (.call 168 [.t 41]), Om 43 42, Og 44 43 true (.mov (.t 1)), Og 45 43 true (.iop .eql (.t 44) (.d (Ci 0))), Oo 46 (.pick (.t 43) (.t 45) (.d (.p (.s (.bool false))))), Om 47 46, Og 48 47 true (.mov (.t 2)), Og 49 47 true (.iop .eql (.t 48) (.d (Ci 0))), Oo 50 (.pick (.t 47) (.t 49) (.d (.p (.s (.bool false))))), Om 6 50]) .ret))), [.tmp 6]⟩
theorem c_ref16_Right : comp Tryz.prog G0 262 = some m_ref16_Right := by kernel_rfl
theorem q_ref16_Right : Q0 262 := mCall_pure rfl
def m_problem_cost : MF := ⟨9, (.seq (.reg none [Oo 2 (.mov (.d (.p (.s (.bool false)))))]) (.seq (.reg none [Om 3 0, Oo 4 (.iop .geq (.t 3) (.d (Ci 0))), Om 5 4, Og 6 5 true (.mov (.t 0)), Og 7 5 true (.iop .leq (.t 6) (.d (Ci 1000))), Oo 8 (.pick (.t 5) (.t 7) (.d (.p (.s (.bool false))))), Om 2 8]) .ret)), [.tmp 2]⟩
theorem c_problem_cost : comp Tryz.prog G0 145 = some m_problem_cost := by kernel_rfl
theorem q_problem_cost : Q0 145 := mCall_pure rfl
def m_problem_Rule : MF := ⟨55, (.seq (.reg none [Oo 3 (.box (.t 1)), Oo 4 (.mov (.d (.p (.s (.bool false)))))]) (.seq (.seq (.reg none [Of 5 0 3, Ol 6 5, Oo 7 (.call 160 [.t 6]), Oo 8 (.un .not (.t 7)), Om 9 8, Og 10 9 true (.fadr 0 (.t 3)), Og 11 9 true (.load false 1 (.t 10)), Og 12 9 true (.call 209 [.t 11]), Og 13 9 true (.un .not (.t 12)), Oo 14 (.pick (.t 9) (.t 13) (.d (.p (.s (.bool false))))), Om 15 14, Og 16 15 false (.fadr 0 (.t 3)), Og 17 15 false (.load false 1 (.t 16)), Og 18 15 false (.fadr 2 (.t 3)), Og 19 15 false (.load false 1 (.t 18)), Og 20 15 false (.fadr 3 (.t 3)), Og 21 15 false (.load false 1 (.t 20)), Og 22 15 false (.call 210 [.t 17, .t 19, .t 21]), Og 23 15 false (.un .not (.t 22)), Oo 24 (.pick (.t 15) (.d (.p (.s (.bool true)))) (.t 23))]) (.cond (.t 24) (.seq (.reg none [Oo 4 (.mov (.d (.p (.s (.bool false)))))]) .ret) .skip)) (.seq (.seq (.reg none [Of 25 1 3, Ol 26 25, Ok 27 26, Oo 28 (.iop .lss (.t 27) (.d (Ci 2))), Om 29 28, Og 30 29 false (.fadr 1 (.t 3)), Og 31 29 false (.load false 1 (.t 30)), Og 32 29 false (.lenL (.t 31)), Og 33 29 false (.iop .gtr (.t 32) (.d (Ci 12))), Oo 34 (.pick (.t 29) (.d (.p (.s (.bool true)))) (.t 33)), Om 35 34, Og 36 35 false (.fadr 1 (.t 3)), Og 37 35 false (.load false 1 (.t 36)), Og 38 35 false (.mov (.t 0)), Og 39 35 false (.call 208 [.t 37, .t 38]), Og 40 35 false (.un .not (.t 39)), Oo 41 (.pick (.t 35) (.d (.p (.s (.bool true)))) (.t 40))]) (.cond (.t 41) (.seq (.reg none [Oo 4 (.mov (.d (.p (.s (.bool false)))))]) .ret) .skip)) (.seq (.seq (.reg none [Of 42 4 3, Ol 43 42]) (.cond (.t 43) (.seq (.reg none [Of 44 5 3, Ol 45 44, Oo 46 (.iop .eql (.t 45) (.d (Ci 0))), Om 4 46]) .ret) .skip)) (.seq (.reg none [Of 47 5 3, Ol 48 47, Oo 49 (.iop .geq (.t 48) (.d (Ci 1))), Om 50 49, Og 51 50 true (.fadr 5 (.t 3)), Og 52 50 true (.load false 1 (.t 51)), Og 53 50 true (.call 145 [.t 52]), Oo 54 (.pick (.t 50) (.t 53) (.d (.p (.s (.bool false))))), Om 4 54]) .ret))))), [.tmp 4]⟩
theorem c_problem_Rule : comp Tryz.prog G0 144 = some m_problem_Rule := by kernel_rfl
theorem q_problem_Rule : Q0 144 := mCall_pure rfl
def m_ref17_Rule : MF := ⟨85, (.seq (.reg none [Oo 3 (.box (.t 1)), Oo 4 (.mov (.d (.p (.s (.bool false)))))]) (.seq (.seq (.reg none [Of 6 0 3, Ol 7 6, Oo 8 (.call 168 [.t 7]), Oo 9 (.un .not (.t 8)), Om 10 9, Og 11 10 true (.fadr 0 (.t 3)), Og 12 10 true (.load false 1 (.t 11)), Og 13 10 true (.call 229 [.t 12]), Og 14 10 true (.un .not (.t 13)), Oo 15 (.pick (.t 10) (.t 14) (.d (.p (.s (.bool false))))), Om 16 15, Og 17 16 false (.fadr 1 (.t 3)), Og 18 16 false (.load false 1 (.t 17)), Og 19 16 false (.lenL (.t 18)), Og 20 16 false (.iop .lss (.t 19) (.d (Ci 2))), Oo 21 (.pick (.t 16) (.d (.p (.s (.bool true)))) (.t 20)), Om 22 21, Og 23 22 false (.fadr 1 (.t 3)), Og 24 22 false (.load false 1 (.t 23)), Og 25 22 false (.lenL (.t 24)), Og 26 22 false (.iop .gtr (.t 25) (.d (Ci 12))), Oo 27 (.pick (.t 22) (.d (.p (.s (.bool true)))) (.t 26)), Om 28 27, Og 29 28 false (.fadr 0 (.t 3)), Og 30 28 false (.load false 1 (.t 29)), Og 31 28 false (.fadr 2 (.t 3)), Og 32 28 false (.load false 1 (.t 31)), Og 33 28 false (.fadr 3 (.t 3)), Og 34 28 false (.load false 1 (.t 33)), Og 35 28 false (.call 262 [.t 30, .t 32, .t 34]), Og 36 28 false (.un .not (.t 35)), Oo 37 (.pick (.t 28) (.d (.p (.s (.bool true)))) (.t 36))]) (.cond (.t 37) (.seq (.reg none [Oo 4 (.mov (.d (.p (.s (.bool false)))))]) .ret) .skip)) (.seq (.seq (.reg none [Oo 5 (.mov (.d (Ci 0)))]) (.block 0 (.loop (.seq (.seq (.reg none [Om 38 5, Of 39 1 3, Ol 40 39, Ok 41 40, Oo 42 (.iop .lss (.t 38) (.t 41))]) (.cond (.t 42) .skip (.exit 0))) (.seq (.block 1 (.seq (.reg (some #[0, 1, 0, 7, 15, 31, 63, 127, 255, 127, 1023, 2047, 127, 8191, 16383, 32767, 65535, 131071, 65535, 524287, 65535, 1114111, 65535, 7405567, 15794175, 33554431, 67108863]) [Of 45 1 3, Ol 46 45, Om 47 5, Oo 48 (.iadrS 1 (.t 46) (.t 47)), Ol 49 48, Oo 50 (.iop .lss (.t 49) (.d (Ci 0))), Om 51 50, Og 52 51 false (.fadr 1 (.t 3)), Og 53 51 false (.load false 1 (.t 52)), Og 54 51 false (.mov (.t 5)), Og 55 51 false (.iadrS 1 (.t 53) (.t 54)), Og 56 51 false (.load false 1 (.t 55)), Og 57 51 false (.mov (.t 0)), Og 58 51 false (.iop .geq (.t 56) (.t 57)), Oo 59 (.pick (.t 51) (.d (.p (.s (.bool true)))) (.t 58)), Om 60 59, Og 61 60 false (.fadr 1 (.t 3)), Og 62 60 false (.load false 1 (.t 61)), Og 63 60 false (.mov (.t 5)), Og 64 60 false (.ssl 1 (.t 62) none (some (.t 63)) none), Og 65 60 false (.fadr 1 (.t 3)), Og 66 60 false (.load false 1 (.t 65)), Og 67 60 false (.mov (.t 5)), Og 68 60 false (.iadrS 1 (.t 66) (.t 67)), Og 69 60 false (.load false 1 (.t 68)), Og 70 60 false (.call 41 [.t 64, .t 69]), Oo 71 (.pick (.t 60) (.d (.p (.s (.bool true)))) (.t 70))]) (.cond (.t 71) (.seq (.reg none [Oo 4 (.mov (.d (.p (.s (.bool false)))))]) .ret) .skip))) (.reg none [Om 43 5, Oo 44 (.iop .add (.t 43) (.d (Ci 1))), Om 5 44])))))) (.seq (.seq (.reg none [Of 72 4 3, Ol 73 72]) (.cond (.t 73) (.seq (.reg none [Of 74 5 3, Ol 75 74, Oo 76 (.iop .eql (.t 75) (.d (Ci 0))), Om 4 76]) .ret) .skip)) (.seq (.reg none [Of 77 5 3, Ol 78 77, Oo 79 (.iop .geq (.t 78) (.d (Ci 1))), Om 80 79, Og 81 80 true (.fadr 5 (.t 3)), Og 82 80 true (.load false 1 (.t 81)), Og 83 80 true (.iop .leq (.t 82) (.d (Ci 1000))), Oo 84 (.pick (.t 80) (.t 83) (.d (.p (.s (.bool false))))), Om 4 84]) .ret))))), [.tmp 4]⟩
theorem c_ref17_Rule : comp Tryz.prog G0 240 = some m_ref17_Rule := by kernel_rfl
theorem q_ref17_Rule : Q0 240 := mCall_pure rfl
def pairB (k : Int) : Bool := decide (1 ≤ k) && decide (k ≤ 14)
def manyB (k : Int) : Bool := decide (21 ≤ k) && decide (k ≤ 24)
def manyR (k a b : Int) : Bool := (decide (k = 21) && (decide (1 ≤ a) && decide (a ≤ 7) && decide (b = 0))) || ((decide (k = 22) || decide (k = 13)) && (decide (1 ≤ a) && decide (a ≤ 96) && decide (b = 0))) || (decide (k = 23) && (decide (0 ≤ a) && decide (a ≤ 48) && decide (0 ≤ b) && decide (b ≤ 96))) || (decide (k = 24) && (decide (1 ≤ a) && decide (a ≤ 96) && decide (0 ≤ b) && decide (b ≤ 96))) || (decide (k ≠ 13) && pairB k && decide (a = 0) && decide (b = 0))
theorem pknown_res (k : Int) : res Tryz.prog G0 160 [I k] = some (B (pairB k)) := by
  refine res_body c_pair_Known (Nat.le_of_ble_eq_true rfl) ?_
  simp only [m_pair_Known, Oo, Ou, Og, Ci, Om, Of, Ol, Ok]
  repeat' (first | simp only [go_sem, Int.reduceLT, Int.reduceLE, Int.reduceNeg, Int.reduceEq, Nat.reduceAdd, Nat.reduceEqDiff, Nat.reduceLeDiff, Nat.reduceBEq, reduceIte, reduceCtorEq] | (with_reducible first | apply c1 | (first | apply c2 | apply c3) <;> (intro hc; simp only [hc]) | (first | apply c4 | apply c5) <;> (intro hc; rw [hc])))
  all_goals (try (rw [s_bool, Bool.eq_iff_iff]; (try simp only [Bool.and_eq_true, Bool.or_eq_true, Bool.and_eq_false_iff, Bool.or_eq_false_iff, Bool.not_eq_true', Bool.not_eq_false', decide_eq_true_eq, decide_eq_false_iff_not, Bool.true_eq_false, Bool.false_eq_true, iff_true, true_iff, iff_false, false_iff, and_true, true_and, and_false, false_and, ne_eq, Decidable.not_not, not_true_eq_false, not_false_eq_true, Int.natCast_eq_zero, pairB] at *); first | done | omega | (simp_all; done) | (simp_all; omega)))
theorem rpknown_res (k : Int) : res Tryz.prog G0 168 [I k] = some (B (pairB k)) := by
  refine res_body c_ref15_Known (Nat.le_of_ble_eq_true rfl) ?_
  simp only [m_ref15_Known, Oo, Ou, Og, Ci, Om, Of, Ol, Ok]
  repeat' (first | simp only [go_sem, Int.reduceLT, Int.reduceLE, Int.reduceNeg, Int.reduceEq, Nat.reduceAdd, Nat.reduceEqDiff, Nat.reduceLeDiff, Nat.reduceBEq, reduceIte, reduceCtorEq] | (with_reducible first | apply c1 | (first | apply c2 | apply c3) <;> (intro hc; simp only [hc]) | (first | apply c4 | apply c5) <;> (intro hc; rw [hc])))
  all_goals (try (rw [s_bool, Bool.eq_iff_iff]; (try simp only [Bool.and_eq_true, Bool.or_eq_true, Bool.and_eq_false_iff, Bool.or_eq_false_iff, Bool.not_eq_true', Bool.not_eq_false', decide_eq_true_eq, decide_eq_false_iff_not, Bool.true_eq_false, Bool.false_eq_true, iff_true, true_iff, iff_false, false_iff, and_true, true_and, and_false, false_and, ne_eq, Decidable.not_not, not_true_eq_false, not_false_eq_true, Int.natCast_eq_zero, pairB] at *); first | done | omega | (simp_all; done) | (simp_all; omega)))
theorem mknown_res (k : Int) : res Tryz.prog G0 209 [I k] = some (B (manyB k)) := by
  refine res_body c_many_Known (Nat.le_of_ble_eq_true rfl) ?_
  simp only [m_many_Known, Oo, Ou, Og, Ci, Om, Of, Ol, Ok]
  repeat' (first | simp only [go_sem, Int.reduceLT, Int.reduceLE, Int.reduceNeg, Int.reduceEq, Nat.reduceAdd, Nat.reduceEqDiff, Nat.reduceLeDiff, Nat.reduceBEq, reduceIte, reduceCtorEq] | (with_reducible first | apply c1 | (first | apply c2 | apply c3) <;> (intro hc; simp only [hc]) | (first | apply c4 | apply c5) <;> (intro hc; rw [hc])))
  all_goals (try (rw [s_bool, Bool.eq_iff_iff]; (try simp only [Bool.and_eq_true, Bool.or_eq_true, Bool.and_eq_false_iff, Bool.or_eq_false_iff, Bool.not_eq_true', Bool.not_eq_false', decide_eq_true_eq, decide_eq_false_iff_not, Bool.true_eq_false, Bool.false_eq_true, iff_true, true_iff, iff_false, false_iff, and_true, true_and, and_false, false_and, ne_eq, Decidable.not_not, not_true_eq_false, not_false_eq_true, Int.natCast_eq_zero, manyB] at *); first | done | omega | (simp_all; done) | (simp_all; omega)))
theorem rmknown_res (k : Int) : res Tryz.prog G0 229 [I k] = some (B (manyB k)) := by
  refine res_body c_ref16_Known (Nat.le_of_ble_eq_true rfl) ?_
  simp only [m_ref16_Known, Oo, Ou, Og, Ci, Om, Of, Ol, Ok]
  repeat' (first | simp only [go_sem, Int.reduceLT, Int.reduceLE, Int.reduceNeg, Int.reduceEq, Nat.reduceAdd, Nat.reduceEqDiff, Nat.reduceLeDiff, Nat.reduceBEq, reduceIte, reduceCtorEq] | (with_reducible first | apply c1 | (first | apply c2 | apply c3) <;> (intro hc; simp only [hc]) | (first | apply c4 | apply c5) <;> (intro hc; rw [hc])))
  all_goals (try (rw [s_bool, Bool.eq_iff_iff]; (try simp only [Bool.and_eq_true, Bool.or_eq_true, Bool.and_eq_false_iff, Bool.or_eq_false_iff, Bool.not_eq_true', Bool.not_eq_false', decide_eq_true_eq, decide_eq_false_iff_not, Bool.true_eq_false, Bool.false_eq_true, iff_true, true_iff, iff_false, false_iff, and_true, true_and, and_false, false_and, ne_eq, Decidable.not_not, not_true_eq_false, not_false_eq_true, Int.natCast_eq_zero, manyB] at *); first | done | omega | (simp_all; done) | (simp_all; omega)))
theorem mwithin_res (n a b : Int) : res Tryz.prog G0 243 [I n, I a, I b] = some (B (decide (a ≤ n) && decide (n ≤ b))) := by
  refine res_body c_many_within (Nat.le_of_ble_eq_true rfl) ?_
  simp only [m_many_within, Oo, Ou, Og, Ci, Om, Of, Ol, Ok]
  repeat' (first | simp only [go_sem, Int.reduceLT, Int.reduceLE, Int.reduceNeg, Int.reduceEq, Nat.reduceAdd, Nat.reduceEqDiff, Nat.reduceLeDiff, Nat.reduceBEq, reduceIte, reduceCtorEq] | (with_reducible first | apply c1 | (first | apply c2 | apply c3) <;> (intro hc; simp only [hc]) | (first | apply c4 | apply c5) <;> (intro hc; rw [hc])))
  all_goals (try (rw [s_bool, Bool.eq_iff_iff]; (try simp only [Bool.and_eq_true, Bool.or_eq_true, Bool.and_eq_false_iff, Bool.or_eq_false_iff, Bool.not_eq_true', Bool.not_eq_false', decide_eq_true_eq, decide_eq_false_iff_not, Bool.true_eq_false, Bool.false_eq_true, iff_true, true_iff, iff_false, false_iff, and_true, true_and, and_false, false_and, ne_eq, Decidable.not_not, not_true_eq_false, not_false_eq_true, Int.natCast_eq_zero] at *); first | done | omega | (simp_all; done) | (simp_all; omega)))
theorem rfrom_res (n a b : Int) : res Tryz.prog G0 276 [I n, I a, I b] = some (B (decide (a ≤ n) && decide (n ≤ b))) := by
  refine res_body c_ref16_from (Nat.le_of_ble_eq_true rfl) ?_
  simp only [m_ref16_from, Oo, Ou, Og, Ci, Om, Of, Ol, Ok]
  repeat' (first | simp only [go_sem, Int.reduceLT, Int.reduceLE, Int.reduceNeg, Int.reduceEq, Nat.reduceAdd, Nat.reduceEqDiff, Nat.reduceLeDiff, Nat.reduceBEq, reduceIte, reduceCtorEq] | (with_reducible first | apply c1 | (first | apply c2 | apply c3) <;> (intro hc; simp only [hc]) | (first | apply c4 | apply c5) <;> (intro hc; rw [hc])))
  all_goals (try (rw [s_bool, Bool.eq_iff_iff]; (try simp only [Bool.and_eq_true, Bool.or_eq_true, Bool.and_eq_false_iff, Bool.or_eq_false_iff, Bool.not_eq_true', Bool.not_eq_false', decide_eq_true_eq, decide_eq_false_iff_not, Bool.true_eq_false, Bool.false_eq_true, iff_true, true_iff, iff_false, false_iff, and_true, true_and, and_false, false_and, ne_eq, Decidable.not_not, not_true_eq_false, not_false_eq_true, Int.natCast_eq_zero] at *); first | done | omega | (simp_all; done) | (simp_all; omega)))
theorem pcost_res (n : Int) : res Tryz.prog G0 145 [I n] = some (B (costB n)) := by
  refine res_body c_problem_cost (Nat.le_of_ble_eq_true rfl) ?_
  simp only [m_problem_cost, Oo, Ou, Og, Ci, Om, Of, Ol, Ok]
  repeat' (first | simp only [go_sem, Int.reduceLT, Int.reduceLE, Int.reduceNeg, Int.reduceEq, Nat.reduceAdd, Nat.reduceEqDiff, Nat.reduceLeDiff, Nat.reduceBEq, reduceIte, reduceCtorEq] | (with_reducible first | apply c1 | (first | apply c2 | apply c3) <;> (intro hc; simp only [hc]) | (first | apply c4 | apply c5) <;> (intro hc; rw [hc])))
  all_goals (try (rw [s_bool, Bool.eq_iff_iff]; (try simp only [Bool.and_eq_true, Bool.or_eq_true, Bool.and_eq_false_iff, Bool.or_eq_false_iff, Bool.not_eq_true', Bool.not_eq_false', decide_eq_true_eq, decide_eq_false_iff_not, Bool.true_eq_false, Bool.false_eq_true, iff_true, true_iff, iff_false, false_iff, and_true, true_and, and_false, false_and, ne_eq, Decidable.not_not, not_true_eq_false, not_false_eq_true, Int.natCast_eq_zero, costB] at *); first | done | omega | (simp_all; done) | (simp_all; omega)))
theorem manyR_res (k a b : Int) (hk : -9223372036854775808 ≤ k) (hk2 : k ≤ 9223372036854775807) : res Tryz.prog G0 210 [I k, I a, I b] = some (B (manyR k a b)) := by
  refine res_body c_many_Right (Nat.le_of_ble_eq_true rfl) ?_
  simp only [m_many_Right, Oo, Ou, Og, Ci, Om, Of, Ol, Ok]
  repeat' (first | simp only [go_sem, Int.reduceLT, Int.reduceLE, Int.reduceNeg, Int.reduceEq, Nat.reduceAdd, Nat.reduceEqDiff, Nat.reduceLeDiff, Nat.reduceBEq, reduceIte, reduceCtorEq, q_many_within, mwithin_res, wrap_id hk hk2] | (with_reducible first | apply c1 | (first | apply c2 | apply c3) <;> (intro hc; simp only [hc]) | (first | apply c4 | apply c5) <;> (intro hc; rw [hc])))
  all_goals (try (rw [s_bool, Bool.eq_iff_iff]; (try simp only [Bool.and_eq_true, Bool.or_eq_true, Bool.and_eq_false_iff, Bool.or_eq_false_iff, Bool.not_eq_true', Bool.not_eq_false', decide_eq_true_eq, decide_eq_false_iff_not, Bool.true_eq_false, Bool.false_eq_true, iff_true, true_iff, iff_false, false_iff, and_true, true_and, and_false, false_and, ne_eq, Decidable.not_not, not_true_eq_false, not_false_eq_true, Int.natCast_eq_zero, manyR, pairB] at *); first | done | omega | (simp_all; done) | (simp_all; omega)))
theorem rmanyR_res (k a b : Int) : res Tryz.prog G0 262 [I k, I a, I b] = some (B (manyR k a b)) := by
  refine res_body c_ref16_Right (Nat.le_of_ble_eq_true rfl) ?_
  simp only [m_ref16_Right, Oo, Ou, Og, Ci, Om, Of, Ol, Ok]
  repeat' (first | simp only [go_sem, Int.reduceLT, Int.reduceLE, Int.reduceNeg, Int.reduceEq, Nat.reduceAdd, Nat.reduceEqDiff, Nat.reduceLeDiff, Nat.reduceBEq, reduceIte, reduceCtorEq, q_ref16_from, rfrom_res, q_ref15_Known, rpknown_res] | (with_reducible first | apply c1 | (first | apply c2 | apply c3) <;> (intro hc; simp only [hc]) | (first | apply c4 | apply c5) <;> (intro hc; rw [hc])))
  all_goals (try (rw [s_bool, Bool.eq_iff_iff]; (try simp only [Bool.and_eq_true, Bool.or_eq_true, Bool.and_eq_false_iff, Bool.or_eq_false_iff, Bool.not_eq_true', Bool.not_eq_false', decide_eq_true_eq, decide_eq_false_iff_not, Bool.true_eq_false, Bool.false_eq_true, iff_true, true_iff, iff_false, false_iff, and_true, true_and, and_false, false_and, ne_eq, Decidable.not_not, not_true_eq_false, not_false_eq_true, Int.natCast_eq_zero, manyR, pairB] at *); first | done | omega | (simp_all; done) | (simp_all; omega)))
def ruleB (n : Int) (r : VRule) : Bool := (pairB r.kind || manyB r.kind) && manyR r.kind r.a r.b && (decide ((2 : Int) ≤ r.classes.length) && decide ((r.classes.length : Int) ≤ 12)) && distB n r.classes && (if r.hard then decide (r.cost = 0) else decide (1 ≤ r.cost) && decide (r.cost ≤ 1000))
def smR (r : VRule) : Prop := r.classes.length ≤ 1048576 ∧ -9223372036854775808 ≤ r.kind ∧ r.kind ≤ 9223372036854775807
theorem rule_res (n : Int) (r : VRule) (hr : smR r) : res Tryz.prog G0 144 [I n, r.P] = some (B (ruleB n r)) := by
  obtain ⟨s1, s2, s3⟩ := hr
  refine res_body c_problem_Rule (Nat.le_of_ble_eq_true rfl) ?_
  simp only [m_problem_Rule, Oo, Ou, Og, Ci, Om, Of, Ol, Ok]
  repeat' (first | simp only [go_sem, Int.reduceLT, Int.reduceLE, Int.reduceNeg, Int.reduceEq, Nat.reduceAdd, Nat.reduceEqDiff, Nat.reduceLeDiff, Nat.reduceBEq, reduceIte, reduceCtorEq, q_pair_Known, pknown_res, q_many_Known, mknown_res, q_many_Right, manyR_res r.kind r.a r.b s2 s3, q_problem_distinct, dist_res r.classes s1 n, q_problem_cost, pcost_res] | (with_reducible first | apply c1 | (first | apply c2 | apply c3) <;> (intro hc; simp only [hc]) | (first | apply c4 | apply c5) <;> (intro hc; rw [hc])))
  all_goals (simp only [s_bool, ruleB])
  all_goals (first | (simp_all [costB]; done) | (simp_all [costB]; omega) | (simp_all [costB]; intros; exfalso; omega))
theorem ssl_take {k : Nat} {l : List PDV} {i : Nat} : sslX k (.p (.lst l)) none (some (.p (.s (.int .i64 (i : Int))))) none = if i ≤ l.length then some (.p (.lst (l.take i))) else none := by
  simp only [sslX, lenAv, bnd, asI]
  rw [if_pos (by omega)]
  simp [cut]
theorem rrule_res (n : Int) (r : VRule) (hr : smR r) : res Tryz.prog G0 240 [I n, r.P] = some (B (ruleB n r)) := by
  obtain ⟨s1, s2, s3⟩ := hr
  refine res_body c_ref17_Rule (Nat.le_of_ble_eq_true rfl) ?_
  simp only [m_ref17_Rule, Oo, Ou, Og, Ci, Om, Of, Ol, Ok]
  cases hA : ((pairB r.kind || manyB r.kind) && manyR r.kind r.a r.b && (decide ((2 : Int) ≤ r.classes.length) && decide ((r.classes.length : Int) ≤ 12))) with
  | false =>
    have bad : PDV.s (.bool false) = B (ruleB n r) := by rw [ruleB, hA]; rfl
    repeat' (first | simp only [go_sem, Int.reduceLT, Int.reduceLE, Int.reduceNeg, Int.reduceEq, Nat.reduceAdd, Nat.reduceEqDiff, Nat.reduceLeDiff, Nat.reduceBEq, reduceIte, reduceCtorEq, q_ref15_Known, rpknown_res, q_ref16_Known, rmknown_res, q_ref16_Right, rmanyR_res r.kind r.a r.b] | (with_reducible first | apply c1 | (first | apply c2 | apply c3) <;> (intro hc; simp only [hc]) | (first | apply c4 | apply c5) <;> (intro hc; rw [hc])))
    all_goals first
      | exact bad
      | (exfalso; simp_all; done)
      | (exfalso; simp_all; omega)
  | true =>
    have hA' := hA
    simp only [Bool.and_eq_true, decide_eq_true_eq] at hA'
    obtain ⟨⟨hk, hm⟩, hl1, hl2⟩ := hA'
    have hR : ruleB n r = (distB n r.classes && (if r.hard then decide (r.cost = 0) else decide (1 ≤ r.cost) && decide (r.cost ≤ 1000))) := by rw [ruleB, hA]; rfl
    have go : ∀ {Q : DX → St → Prop} {s : St}, True := fun {_ _} => trivial
    cases hpk : pairB r.kind with
    | true =>
      repeat' (first | simp only [go_sem, Int.reduceLT, Int.reduceLE, Int.reduceNeg, Int.reduceEq, Nat.reduceAdd, Nat.reduceEqDiff, Nat.reduceLeDiff, Nat.reduceBEq, reduceIte, reduceCtorEq, q_ref15_Known, rpknown_res, hpk, q_ref16_Known, rmknown_res, q_ref16_Right, rmanyR_res r.kind r.a r.b, hm, show decide ((r.classes.length : Int) < 2) = false by (simp only [decide_eq_false_iff_not]; omega), show decide ((12 : Int) < (r.classes.length : Int)) = false by (simp only [decide_eq_false_iff_not]; omega)] | (with_reducible first | apply c1 | (first | apply c2 | apply c3) <;> (intro hc; simp only [hc]) | (first | apply c4 | apply c5) <;> (intro hc; rw [hc])))
      refine X_for 5 r.classes.length (fun i s => s.h.get 0 = some (.cells (DV.cells (.p r.P)) false) ∧ (r.classes.take i).Nodup ∧ ∀ x ∈ r.classes.take i, inB n x = true) 0 (by omega) ?_ (Nat.zero_le _) ?_ ?_
      · simp only [go_sem, Int.reduceLT, Int.reduceLE, Int.reduceNeg, Int.reduceEq, Nat.reduceAdd, Nat.reduceEqDiff, Nat.reduceLeDiff, Nat.reduceBEq, reduceIte, reduceCtorEq]; rfl
      · exact ⟨by simp only [go_sem, Int.reduceLT, Int.reduceLE, Int.reduceNeg, Int.reduceEq, Nat.reduceAdd, Nat.reduceEqDiff, Nat.reduceLeDiff, Nat.reduceBEq, reduceIte, reduceCtorEq], by simp, by simp⟩
      intro i t h nx hf hi0 hi h5 hj
      obtain ⟨hh, hnd, hok⟩ := hj
      dsimp only at hh
      have h0 := hf 0 rfl; simp only [PT.get_set, Nat.reduceEqDiff, if_true, if_false, reduceIte, PT.get_leaf] at h0; have h3 := hf 3 rfl; simp only [PT.get_set, Nat.reduceEqDiff, if_true, if_false, reduceIte, PT.get_leaf] at h3
      clear hf
      rcases Nat.lt_or_ge i r.classes.length with hlt | hge
      · obtain ⟨x, hx, _, htk⟩ := get_dec (l := r.classes) (i := i) (by simpa using hlt)
        have hxm : x ∈ r.classes := List.mem_of_getElem? hx
        have hdl : decide ((i : Int) < (r.classes.length : Int)) = true := by simpa using hlt
        have hle : i ≤ r.classes.length := hi
        have bad : inB n x = false → PDV.s (.bool false) = B (ruleB n r) := fun hb => by rw [hR, distB, each_bad hxm hb]; rfl
        have hH : res Tryz.prog G0 41 [.lst ((r.classes.map I).take i), I x] = some (B (memB x (r.classes.take i))) := by rw [← List.map_take]; exact has_res (r.classes.take i) x (by simp; omega)
        cases hmem : memB x (r.classes.take i) with
        | true =>
          have tw : PDV.s (.bool false) = B (ruleB n r) := by
            rw [hR, distB, each_twice (ok := inB n) (key := fun x : Int => x) hx (by rw [List.map_id']; exact memB_iff.1 hmem)]
            rfl
          repeat' (first | simp only [go_sem, Int.reduceLT, Int.reduceLE, Int.reduceNeg, Int.reduceEq, Nat.reduceAdd, Nat.reduceEqDiff, Nat.reduceLeDiff, Nat.reduceBEq, reduceIte, reduceCtorEq, h0, h3, h5, hh, hx, hdl, ssl_take, hle, q_ref14_Has, hH, hmem] | (with_reducible first | apply c1 | (first | apply c2 | apply c3) <;> (intro hc; simp only [hc]) | (first | apply c4 | apply c5) <;> (intro hc; rw [hc])))
          all_goals exact tw
        | false =>
          repeat' (first | simp only [go_sem, Int.reduceLT, Int.reduceLE, Int.reduceNeg, Int.reduceEq, Nat.reduceAdd, Nat.reduceEqDiff, Nat.reduceLeDiff, Nat.reduceBEq, reduceIte, reduceCtorEq, h0, h3, h5, hh, hx, hdl, ssl_take, hle, q_ref14_Has, hH, hmem] | (with_reducible first | apply c1 | (first | apply c2 | apply c3) <;> (intro hc; simp only [hc]) | (first | apply c4 | apply c5) <;> (intro hc; rw [hc])))
          all_goals first
            | (refine bad ?_; simp_all [inB]; done)
            | (refine bad ?_; simp_all [inB]; omega)
            | (refine ⟨hlt, by rw [htk]; exact nodup_snoc.2 ⟨hnd, memB_not.1 hmem⟩, fun y hy => ?_⟩
               rw [htk, List.mem_append, List.mem_singleton] at hy
               rcases hy with hy | rfl
               · exact hok y hy
               · simp_all [inB])
      · have he : r.classes.take i = r.classes := List.take_of_length_le hge
        rw [he] at hnd hok
        have hE : distB n r.classes = true := each_ok (key := fun x : Int => x) hok (by rw [List.map_id']; exact hnd)
        clear hA hk
        cases hhd : r.hard
        · repeat' (first | simp only [go_sem, Int.reduceLT, Int.reduceLE, Int.reduceNeg, Int.reduceEq, Nat.reduceAdd, Nat.reduceEqDiff, Nat.reduceLeDiff, Nat.reduceBEq, reduceIte, reduceCtorEq, h0, h3, h5, hh, hhd, show decide ((i : Int) < (r.classes.length : Int)) = false by simpa using hge] | (with_reducible first | apply c1 | (first | apply c2 | apply c3) <;> (intro hc; simp only [hc]) | (first | apply c4 | apply c5) <;> (intro hc; rw [hc])))
          all_goals (rw [hR, hE, hhd])
          all_goals (try (rw [s_bool, Bool.eq_iff_iff]; (try simp only [Bool.and_eq_true, Bool.or_eq_true, Bool.and_eq_false_iff, Bool.or_eq_false_iff, Bool.not_eq_true', Bool.not_eq_false', decide_eq_true_eq, decide_eq_false_iff_not, Bool.true_eq_false, Bool.false_eq_true, iff_true, true_iff, iff_false, false_iff, and_true, true_and, and_false, false_and, ne_eq, Decidable.not_not, not_true_eq_false, not_false_eq_true, Int.natCast_eq_zero, if_false, if_true] at *); first | done | omega | (simp_all; done) | (simp_all; omega)))
        · repeat' (first | simp only [go_sem, Int.reduceLT, Int.reduceLE, Int.reduceNeg, Int.reduceEq, Nat.reduceAdd, Nat.reduceEqDiff, Nat.reduceLeDiff, Nat.reduceBEq, reduceIte, reduceCtorEq, h0, h3, h5, hh, hhd, show decide ((i : Int) < (r.classes.length : Int)) = false by simpa using hge] | (with_reducible first | apply c1 | (first | apply c2 | apply c3) <;> (intro hc; simp only [hc]) | (first | apply c4 | apply c5) <;> (intro hc; rw [hc])))
          all_goals (rw [hR, hE, hhd])
          all_goals (try (rw [s_bool, Bool.eq_iff_iff]; (try simp only [Bool.and_eq_true, Bool.or_eq_true, Bool.and_eq_false_iff, Bool.or_eq_false_iff, Bool.not_eq_true', Bool.not_eq_false', decide_eq_true_eq, decide_eq_false_iff_not, Bool.true_eq_false, Bool.false_eq_true, iff_true, true_iff, iff_false, false_iff, and_true, true_and, and_false, false_and, ne_eq, Decidable.not_not, not_true_eq_false, not_false_eq_true, Int.natCast_eq_zero, if_false, if_true] at *); first | done | omega | (simp_all; done) | (simp_all; omega)))
    | false =>
      have hmk : manyB r.kind = true := by simpa [hpk] using hk
      repeat' (first | simp only [go_sem, Int.reduceLT, Int.reduceLE, Int.reduceNeg, Int.reduceEq, Nat.reduceAdd, Nat.reduceEqDiff, Nat.reduceLeDiff, Nat.reduceBEq, reduceIte, reduceCtorEq, q_ref15_Known, rpknown_res, hpk, q_ref16_Known, rmknown_res, hmk, q_ref16_Right, rmanyR_res r.kind r.a r.b, hm, show decide ((r.classes.length : Int) < 2) = false by (simp only [decide_eq_false_iff_not]; omega), show decide ((12 : Int) < (r.classes.length : Int)) = false by (simp only [decide_eq_false_iff_not]; omega)] | (with_reducible first | apply c1 | (first | apply c2 | apply c3) <;> (intro hc; simp only [hc]) | (first | apply c4 | apply c5) <;> (intro hc; rw [hc])))
      refine X_for 5 r.classes.length (fun i s => s.h.get 0 = some (.cells (DV.cells (.p r.P)) false) ∧ (r.classes.take i).Nodup ∧ ∀ x ∈ r.classes.take i, inB n x = true) 0 (by omega) ?_ (Nat.zero_le _) ?_ ?_
      · simp only [go_sem, Int.reduceLT, Int.reduceLE, Int.reduceNeg, Int.reduceEq, Nat.reduceAdd, Nat.reduceEqDiff, Nat.reduceLeDiff, Nat.reduceBEq, reduceIte, reduceCtorEq]; rfl
      · exact ⟨by simp only [go_sem, Int.reduceLT, Int.reduceLE, Int.reduceNeg, Int.reduceEq, Nat.reduceAdd, Nat.reduceEqDiff, Nat.reduceLeDiff, Nat.reduceBEq, reduceIte, reduceCtorEq], by simp, by simp⟩
      intro i t h nx hf hi0 hi h5 hj
      obtain ⟨hh, hnd, hok⟩ := hj
      dsimp only at hh
      have h0 := hf 0 rfl; simp only [PT.get_set, Nat.reduceEqDiff, if_true, if_false, reduceIte, PT.get_leaf] at h0; have h3 := hf 3 rfl; simp only [PT.get_set, Nat.reduceEqDiff, if_true, if_false, reduceIte, PT.get_leaf] at h3
      clear hf
      rcases Nat.lt_or_ge i r.classes.length with hlt | hge
      · obtain ⟨x, hx, _, htk⟩ := get_dec (l := r.classes) (i := i) (by simpa using hlt)
        have hxm : x ∈ r.classes := List.mem_of_getElem? hx
        have hdl : decide ((i : Int) < (r.classes.length : Int)) = true := by simpa using hlt
        have hle : i ≤ r.classes.length := hi
        have bad : inB n x = false → PDV.s (.bool false) = B (ruleB n r) := fun hb => by rw [hR, distB, each_bad hxm hb]; rfl
        have hH : res Tryz.prog G0 41 [.lst ((r.classes.map I).take i), I x] = some (B (memB x (r.classes.take i))) := by rw [← List.map_take]; exact has_res (r.classes.take i) x (by simp; omega)
        cases hmem : memB x (r.classes.take i) with
        | true =>
          have tw : PDV.s (.bool false) = B (ruleB n r) := by
            rw [hR, distB, each_twice (ok := inB n) (key := fun x : Int => x) hx (by rw [List.map_id']; exact memB_iff.1 hmem)]
            rfl
          repeat' (first | simp only [go_sem, Int.reduceLT, Int.reduceLE, Int.reduceNeg, Int.reduceEq, Nat.reduceAdd, Nat.reduceEqDiff, Nat.reduceLeDiff, Nat.reduceBEq, reduceIte, reduceCtorEq, h0, h3, h5, hh, hx, hdl, ssl_take, hle, q_ref14_Has, hH, hmem] | (with_reducible first | apply c1 | (first | apply c2 | apply c3) <;> (intro hc; simp only [hc]) | (first | apply c4 | apply c5) <;> (intro hc; rw [hc])))
          all_goals exact tw
        | false =>
          repeat' (first | simp only [go_sem, Int.reduceLT, Int.reduceLE, Int.reduceNeg, Int.reduceEq, Nat.reduceAdd, Nat.reduceEqDiff, Nat.reduceLeDiff, Nat.reduceBEq, reduceIte, reduceCtorEq, h0, h3, h5, hh, hx, hdl, ssl_take, hle, q_ref14_Has, hH, hmem] | (with_reducible first | apply c1 | (first | apply c2 | apply c3) <;> (intro hc; simp only [hc]) | (first | apply c4 | apply c5) <;> (intro hc; rw [hc])))
          all_goals first
            | (refine bad ?_; simp_all [inB]; done)
            | (refine bad ?_; simp_all [inB]; omega)
            | (refine ⟨hlt, by rw [htk]; exact nodup_snoc.2 ⟨hnd, memB_not.1 hmem⟩, fun y hy => ?_⟩
               rw [htk, List.mem_append, List.mem_singleton] at hy
               rcases hy with hy | rfl
               · exact hok y hy
               · simp_all [inB])
      · have he : r.classes.take i = r.classes := List.take_of_length_le hge
        rw [he] at hnd hok
        have hE : distB n r.classes = true := each_ok (key := fun x : Int => x) hok (by rw [List.map_id']; exact hnd)
        clear hA hk
        cases hhd : r.hard
        · repeat' (first | simp only [go_sem, Int.reduceLT, Int.reduceLE, Int.reduceNeg, Int.reduceEq, Nat.reduceAdd, Nat.reduceEqDiff, Nat.reduceLeDiff, Nat.reduceBEq, reduceIte, reduceCtorEq, h0, h3, h5, hh, hhd, show decide ((i : Int) < (r.classes.length : Int)) = false by simpa using hge] | (with_reducible first | apply c1 | (first | apply c2 | apply c3) <;> (intro hc; simp only [hc]) | (first | apply c4 | apply c5) <;> (intro hc; rw [hc])))
          all_goals (rw [hR, hE, hhd])
          all_goals (try (rw [s_bool, Bool.eq_iff_iff]; (try simp only [Bool.and_eq_true, Bool.or_eq_true, Bool.and_eq_false_iff, Bool.or_eq_false_iff, Bool.not_eq_true', Bool.not_eq_false', decide_eq_true_eq, decide_eq_false_iff_not, Bool.true_eq_false, Bool.false_eq_true, iff_true, true_iff, iff_false, false_iff, and_true, true_and, and_false, false_and, ne_eq, Decidable.not_not, not_true_eq_false, not_false_eq_true, Int.natCast_eq_zero, if_false, if_true] at *); first | done | omega | (simp_all; done) | (simp_all; omega)))
        · repeat' (first | simp only [go_sem, Int.reduceLT, Int.reduceLE, Int.reduceNeg, Int.reduceEq, Nat.reduceAdd, Nat.reduceEqDiff, Nat.reduceLeDiff, Nat.reduceBEq, reduceIte, reduceCtorEq, h0, h3, h5, hh, hhd, show decide ((i : Int) < (r.classes.length : Int)) = false by simpa using hge] | (with_reducible first | apply c1 | (first | apply c2 | apply c3) <;> (intro hc; simp only [hc]) | (first | apply c4 | apply c5) <;> (intro hc; rw [hc])))
          all_goals (rw [hR, hE, hhd])
          all_goals (try (rw [s_bool, Bool.eq_iff_iff]; (try simp only [Bool.and_eq_true, Bool.or_eq_true, Bool.and_eq_false_iff, Bool.or_eq_false_iff, Bool.not_eq_true', Bool.not_eq_false', decide_eq_true_eq, decide_eq_false_iff_not, Bool.true_eq_false, Bool.false_eq_true, iff_true, true_iff, iff_false, false_iff, and_true, true_and, and_false, false_and, ne_eq, Decidable.not_not, not_true_eq_false, not_false_eq_true, Int.natCast_eq_zero, if_false, if_true] at *); first | done | omega | (simp_all; done) | (simp_all; omega)))
end Go.Proofs.YtddmnddocbmjnaaGreat.Dv
