/- Part 17 of the proof: CrowdWeeks: whatever plain data comes in, the call returns true and leaves its arguments as they were. No condition. -/
import Derived.Test.YtddmnddocbmjnaaGreatPb16
import Derived.KernelRfl
set_option linter.all false
set_option linter.unusedVariables false
set_option linter.unusedSectionVars false
set_option linter.unusedSimpArgs false
namespace Go.Proofs.YtddmnddocbmjnaaGreat.Dv
def m_problem_bad_api_Rule_ : MF := ⟨48, (.seq (.reg none [Oo 8 (.mov (.d (Ci 0))), Oo 9 (.mov (.d (.p (.s (.bool false)))))]) (.seq (.reg none [Oo 13 .mkm, Om 10 13]) (.seq (.seq (.reg none [Om 14 0, Ok 15 14, Oo 16 (.mov (.d (Ci 0)))]) (.block 0 (.loop (.seq (.reg none [Oo 17 (.iop .lss (.t 16) (.t 15))]) (.seq (.cond (.t 17) .skip (.exit 0)) (.seq (.block 1 (.seq (.reg none [Om 18 16, Oo 19 (.iadrS 6 (.t 14) (.t 16)), Oo 20 (.load true 6 (.t 19)), Oo 12 (.alloc [(Ci 0), .nil, (Ci 0), (Ci 0), (.p (.s (.bool false))), (Ci 0)]), Om 11 18, Ou (.store 6 (.t 12) (.t 20))]) (.seq (.seq (.reg none [Om 21 11, Om 22 1, Oo 23 (.iop .eql (.t 21) (.t 22))]) (.cond (.t 23) (.seq (.reg none [Om 24 11, Om 8 24, Oo 9 (.mov (.d (.p (.s (.bool true)))))]) .ret) .skip)) (.seq (.seq (.reg none [Om 25 3, Oo 26 (.load true 6 (.t 12)), Oo 27 (.callv (.t 25) [.t 26]), Oo 28 (.un .not (.t 27)), Om 29 28, Og 30 29 false (.mov (.t 2)), Og 31 29 false (.nop .fn true (.t 30) (.d (.p (.s .nilFunc)))), Og 32 29 false (.mov (.t 31)), Og 33 32 true (.mov (.t 10)), Og 34 32 true (.mov (.t 2)), Og 35 32 true (.load true 6 (.t 12)), Og 36 32 true (.callv (.t 34) [.t 35]), Og 37 32 true (.lkp false [2] (.p (.s (.bool false))) false (.t 33) (.t 36)), Og 38 29 false (.pick (.t 32) (.t 37) (.d (.p (.s (.bool false))))), Oo 39 (.pick (.t 29) (.d (.p (.s (.bool true)))) (.t 38))]) (.cond (.t 39) (.seq (.reg none [Om 40 11, Om 8 40, Oo 9 (.mov (.d (.p (.s (.bool true)))))]) .ret) .skip)) (.seq (.reg none [Om 41 2, Oo 42 (.nop .fn true (.t 41) (.d (.p (.s .nilFunc))))]) (.cond (.t 42) (.reg none [Om 43 10, Om 44 2, Oo 45 (.load true 6 (.t 12)), Oo 46 (.callv (.t 44) [.t 45]), Ou (.mup false [2] (.t 43) (.t 46) (.d (.p (.s (.bool true)))))]) .skip)))))) (.reg none [Oo 47 (.iop .add (.t 16) (.d (Ci 1))), Om 16 47]))))))) (.seq (.reg none [Oo 8 (.mov (.d (Ci 0))), Oo 9 (.mov (.d (.p (.s (.bool false)))))]) .ret)))), [.tmp 8, .tmp 9]⟩
theorem c_problem_bad_api_Rule_ : comp Tryz.prog G0 142 = some m_problem_bad_api_Rule_ := by kernel_rfl
theorem q_problem_bad_api_Rule_ : Q0 142 := mCall_pure rfl
def m_ref17_rules : MF := ⟨26, (.seq (.reg none [Oo 1 (.box (.t 0)), Oo 2 (.mov (.d (Ci 0)))]) (.seq (.seq (.reg none [Oo 3 (.mov (.d (Ci 0)))]) (.block 0 (.loop (.seq (.seq (.reg none [Om 4 3, Of 5 10 1, Ol 6 5, Ok 7 6, Oo 8 (.iop .lss (.t 4) (.t 7))]) (.cond (.t 8) .skip (.exit 0))) (.seq (.block 1 (.seq (.reg (some #[0, 1, 3, 7, 15, 31, 7, 71, 7, 455, 967, 2047, 4095, 8191]) [Om 11 3, Oo 12 (.iop .eql (.t 11) (.d (Ci 60))), Om 13 12, Og 14 13 false (.fadr 7 (.t 1)), Og 15 13 false (.load false 1 (.t 14)), Og 16 13 false (.lenL (.t 15)), Og 17 13 false (.fadr 10 (.t 1)), Og 18 13 false (.load false 1 (.t 17)), Og 19 13 false (.mov (.t 3)), Og 20 13 false (.iadrS 6 (.t 18) (.t 19)), Og 21 13 false (.load true 6 (.t 20)), Og 22 13 false (.call 240 [.t 16, .t 21]), Og 23 13 false (.un .not (.t 22)), Oo 24 (.pick (.t 13) (.d (.p (.s (.bool true)))) (.t 23))]) (.cond (.t 24) (.seq (.reg none [Om 25 3, Om 2 25]) .ret) .skip))) (.reg none [Om 9 3, Oo 10 (.iop .add (.t 9) (.d (Ci 1))), Om 3 10])))))) (.seq (.reg none [Oo 2 (.mov (.d (Ci (-1))))]) .ret))), [.tmp 2]⟩
theorem c_ref17_rules : comp Tryz.prog G0 197 = some m_ref17_rules := by kernel_rfl
theorem q_ref17_rules : Q0 197 := mCall_pure rfl
def goodR {α : Type} (m : Nat) (ok : α → Bool) (l : List α) : Bool := decide (l.length ≤ m) && l.all ok
theorem goodR_bad {α : Type} {m : Nat} {ok : α → Bool} {l : List α} {x : α} (hx : x ∈ l) (h : ok x = false) : goodR m ok l = false := by
  have : l.all ok = false := by rw [List.all_eq_false]; exact ⟨x, hx, by simp [h]⟩
  simp [goodR, this]
theorem goodR_long {α : Type} {m : Nat} {ok : α → Bool} {l : List α} (h : m < l.length) : goodR m ok l = false := by simp [goodR, Nat.not_le.2 h]
theorem goodR_ok {α : Type} {m : Nat} {ok : α → Bool} {l : List α} (h1 : l.length ≤ m) (h2 : ∀ x ∈ l, ok x = true) : goodR m ok l = true := by
  simp only [goodR, Bool.and_eq_true, decide_eq_true_eq]
  exact ⟨h1, List.all_eq_true.2 h2⟩
theorem nop_nn : nopX .fn true (.p (.s .nilFunc)) (.p (.s .nilFunc)) = some (.p (.s (.bool false))) := rfl
theorem badRule_res (l : List VRule) (hl : l.length ≤ 1048576) (m : Nat) (rc : PDV) (ok : VRule → Bool) (hr : ∀ x ∈ l, App Tryz.prog G0 rc [x.P] (B (ok x))) :
    ∃ q, res Tryz.prog G0 142 [.lst (l.map VRule.P), I (m : Int), .s .nilFunc, rc] = some q ∧ ∃ k : Int, q = .tup [I k, B (!goodR m ok l)] := by
  refine res_ex c_problem_bad_api_Rule_ (Nat.le_of_ble_eq_true rfl) ?_
  simp only [m_problem_bad_api_Rule_, Oo, Ou, Og, Ci, Om, Of, Ol, Ok]
  repeat' (first | simp only [go_sem, Int.reduceLT, Int.reduceLE, Int.reduceNeg, Int.reduceEq, Nat.reduceAdd, Nat.reduceEqDiff, Nat.reduceLeDiff, Nat.reduceBEq, reduceIte, reduceCtorEq] | (with_reducible first | apply c1 | (first | apply c2 | apply c3) <;> (intro hc; simp only [hc]) | (first | apply c4 | apply c5) <;> (intro hc; rw [hc])))
  refine X_for 16 l.length (fun i s => (∀ x ∈ l.take i, ok x = true) ∧ i ≤ m) 0 (by omega) ?_ (Nat.zero_le _) ⟨by simp, Nat.zero_le _⟩ ?_
  · simp only [go_sem, Int.reduceLT, Int.reduceLE, Int.reduceNeg, Int.reduceEq, Nat.reduceAdd, Nat.reduceEqDiff, Nat.reduceLeDiff, Nat.reduceBEq, reduceIte, reduceCtorEq]; rfl
  intro i t h nx hf hi0 hi h16 hj
  obtain ⟨hok, him⟩ := hj
  have h0 := hf 0 rfl; simp only [PT.get_set, Nat.reduceEqDiff, if_true, if_false, reduceIte, PT.get_leaf] at h0; have h1 := hf 1 rfl; simp only [PT.get_set, Nat.reduceEqDiff, if_true, if_false, reduceIte, PT.get_leaf] at h1; have h2 := hf 2 rfl; simp only [PT.get_set, Nat.reduceEqDiff, if_true, if_false, reduceIte, PT.get_leaf] at h2; have h3 := hf 3 rfl; simp only [PT.get_set, Nat.reduceEqDiff, if_true, if_false, reduceIte, PT.get_leaf] at h3; have h14 := hf 14 rfl; simp only [PT.get_set, Nat.reduceEqDiff, if_true, if_false, reduceIte, PT.get_leaf] at h14; have h15 := hf 15 rfl; simp only [PT.get_set, Nat.reduceEqDiff, if_true, if_false, reduceIte, PT.get_leaf] at h15
  have h1' := h1
  clear hf h1
  rcases Nat.lt_or_ge i l.length with hlt | hge
  · obtain ⟨x, hx, _, htk⟩ := get_dec (l := l) (i := i) (by simpa using hlt)
    have hm : x ∈ l := List.mem_of_getElem? hx
    have hdl : decide ((i : Int) < (l.length : Int)) = true := by simpa using hlt
    by_cases h1 : i = m
    · repeat' (first | simp only [go_sem, Int.reduceLT, Int.reduceLE, Int.reduceNeg, Int.reduceEq, Nat.reduceAdd, Nat.reduceEqDiff, Nat.reduceLeDiff, Nat.reduceBEq, reduceIte, reduceCtorEq, h0, h1', h2, h3, h14, h15, h16, hx, hdl, show decide ((i : Int) = (m : Int)) = true by (simp; omega)] | (with_reducible first | apply c1 | (first | apply c2 | apply c3) <;> (intro hc; simp only [hc]) | (first | apply c4 | apply c5) <;> (intro hc; rw [hc])))
      refine ⟨(i : Int), ?_⟩
      rw [goodR_long (by omega)]
      rfl
    have hdm : decide ((i : Int) = (m : Int)) = false := by simp; omega
    cases hox : ok x with
    | false =>
      repeat' (first | simp only [go_sem, Int.reduceLT, Int.reduceLE, Int.reduceNeg, Int.reduceEq, Nat.reduceAdd, Nat.reduceEqDiff, Nat.reduceLeDiff, Nat.reduceBEq, reduceIte, reduceCtorEq, h0, h1', h2, h3, h14, h15, h16, hx, hdl, hdm, callv_1 (hr x hm), hox] | (with_reducible first | apply c1 | (first | apply c2 | apply c3) <;> (intro hc; simp only [hc]) | (first | apply c4 | apply c5) <;> (intro hc; rw [hc])))
      refine ⟨(i : Int), ?_⟩
      rw [goodR_bad hm hox]
      rfl
    | true =>
      repeat' (first | simp only [go_sem, Int.reduceLT, Int.reduceLE, Int.reduceNeg, Int.reduceEq, Nat.reduceAdd, Nat.reduceEqDiff, Nat.reduceLeDiff, Nat.reduceBEq, reduceIte, reduceCtorEq, h0, h1', h2, h3, h14, h15, h16, hx, hdl, hdm, callv_1 (hr x hm), hox, nop_nn] | (with_reducible first | apply c1 | (first | apply c2 | apply c3) <;> (intro hc; simp only [hc]) | (first | apply c4 | apply c5) <;> (intro hc; rw [hc])))
      refine ⟨hlt, ?_, by omega⟩
      intro y hy
      rw [htk, List.mem_append, List.mem_singleton] at hy
      rcases hy with hy | rfl
      · exact hok y hy
      · exact hox
  · have he : l.take i = l := List.take_of_length_le hge
    rw [he] at hok
    repeat' (first | simp only [go_sem, Int.reduceLT, Int.reduceLE, Int.reduceNeg, Int.reduceEq, Nat.reduceAdd, Nat.reduceEqDiff, Nat.reduceLeDiff, Nat.reduceBEq, reduceIte, reduceCtorEq, h0, h1', h2, h3, h14, h15, h16, show decide ((i : Int) < (l.length : Int)) = false by simpa using hge] | (with_reducible first | apply c1 | (first | apply c2 | apply c3) <;> (intro hc; simp only [hc]) | (first | apply c4 | apply c5) <;> (intro hc; rw [hc])))
    refine ⟨0, ?_⟩
    rw [goodR_ok (by omega) hok]
    rfl
theorem rrules_res (p : VProblem) (hl : p.rules.length ≤ 1048576) (hs : ∀ r ∈ p.rules, smR r) : ∃ q, res Tryz.prog G0 197 [p.P] = some q ∧ ∃ k : Int, q = I k ∧ decide (0 ≤ k) = !goodR 60 (ruleB p.classes.length) p.rules := by
  refine res_ex c_ref17_rules (Nat.le_of_ble_eq_true rfl) ?_
  simp only [m_ref17_rules, Oo, Ou, Og, Ci, Om, Of, Ol, Ok]
  repeat' (first | simp only [go_sem, Int.reduceLT, Int.reduceLE, Int.reduceNeg, Int.reduceEq, Nat.reduceAdd, Nat.reduceEqDiff, Nat.reduceLeDiff, Nat.reduceBEq, reduceIte, reduceCtorEq] | (with_reducible first | apply c1 | (first | apply c2 | apply c3) <;> (intro hc; simp only [hc]) | (first | apply c4 | apply c5) <;> (intro hc; rw [hc])))
  refine X_for 3 p.rules.length (fun i s => s.h.get 0 = some (.cells (DV.cells (.p p.P)) false) ∧ (∀ x ∈ p.rules.take i, ruleB p.classes.length x = true) ∧ i ≤ 60) 0 (by omega) ?_ (Nat.zero_le _) ?_ ?_
  · simp only [go_sem, Int.reduceLT, Int.reduceLE, Int.reduceNeg, Int.reduceEq, Nat.reduceAdd, Nat.reduceEqDiff, Nat.reduceLeDiff, Nat.reduceBEq, reduceIte, reduceCtorEq]; rfl
  · exact ⟨by simp only [go_sem, Int.reduceLT, Int.reduceLE, Int.reduceNeg, Int.reduceEq, Nat.reduceAdd, Nat.reduceEqDiff, Nat.reduceLeDiff, Nat.reduceBEq, reduceIte, reduceCtorEq], by simp, by omega⟩
  intro i t h nx hf hi0 hi h3 hj
  obtain ⟨hh, hok, him⟩ := hj
  dsimp only at hh
  have h1 := hf 1 rfl; simp only [PT.get_set, Nat.reduceEqDiff, if_true, if_false, reduceIte, PT.get_leaf] at h1
  clear hf
  rcases Nat.lt_or_ge i p.rules.length with hlt | hge
  · obtain ⟨x, hx, _, htk⟩ := get_dec (l := p.rules) (i := i) (by simpa using hlt)
    have hm : x ∈ p.rules := List.mem_of_getElem? hx
    have hdl : decide ((i : Int) < (p.rules.length : Int)) = true := by simpa using hlt
    by_cases h60 : i = 60
    · repeat' (first | simp only [go_sem, Int.reduceLT, Int.reduceLE, Int.reduceNeg, Int.reduceEq, Nat.reduceAdd, Nat.reduceEqDiff, Nat.reduceLeDiff, Nat.reduceBEq, reduceIte, reduceCtorEq, h1, h3, hh, hx, hdl, show decide ((i : Int) = 60) = true by (simp; omega)] | (with_reducible first | apply c1 | (first | apply c2 | apply c3) <;> (intro hc; simp only [hc]) | (first | apply c4 | apply c5) <;> (intro hc; rw [hc])))
      refine ⟨(i : Int), rfl, ?_⟩
      rw [goodR_long (by omega)]
      simp
    have hdm : decide ((i : Int) = 60) = false := by simp; omega
    cases hox : ruleB p.classes.length x with
    | false =>
      repeat' (first | simp only [go_sem, Int.reduceLT, Int.reduceLE, Int.reduceNeg, Int.reduceEq, Nat.reduceAdd, Nat.reduceEqDiff, Nat.reduceLeDiff, Nat.reduceBEq, reduceIte, reduceCtorEq, h1, h3, hh, hx, hdl, hdm, q_ref17_Rule, rrule_res p.classes.length x (hs x hm), hox] | (with_reducible first | apply c1 | (first | apply c2 | apply c3) <;> (intro hc; simp only [hc]) | (first | apply c4 | apply c5) <;> (intro hc; rw [hc])))
      refine ⟨(i : Int), rfl, ?_⟩
      rw [goodR_bad hm hox]
      simp
    | true =>
      repeat' (first | simp only [go_sem, Int.reduceLT, Int.reduceLE, Int.reduceNeg, Int.reduceEq, Nat.reduceAdd, Nat.reduceEqDiff, Nat.reduceLeDiff, Nat.reduceBEq, reduceIte, reduceCtorEq, h1, h3, hh, hx, hdl, hdm, q_ref17_Rule, rrule_res p.classes.length x (hs x hm), hox] | (with_reducible first | apply c1 | (first | apply c2 | apply c3) <;> (intro hc; simp only [hc]) | (first | apply c4 | apply c5) <;> (intro hc; rw [hc])))
      refine ⟨hlt, ?_, by omega⟩
      intro y hy
      rw [htk, List.mem_append, List.mem_singleton] at hy
      rcases hy with hy | rfl
      · exact hok y hy
      · exact hox
  · have he : p.rules.take i = p.rules := List.take_of_length_le hge
    rw [he] at hok
    repeat' (first | simp only [go_sem, Int.reduceLT, Int.reduceLE, Int.reduceNeg, Int.reduceEq, Nat.reduceAdd, Nat.reduceEqDiff, Nat.reduceLeDiff, Nat.reduceBEq, reduceIte, reduceCtorEq, h1, h3, hh, show decide ((i : Int) < (p.rules.length : Int)) = false by simpa using hge] | (with_reducible first | apply c1 | (first | apply c2 | apply c3) <;> (intro hc; simp only [hc]) | (first | apply c4 | apply c5) <;> (intro hc; rw [hc])))
    refine ⟨-1, rfl, ?_⟩
    rw [goodR_ok (by omega) hok]
    simp
def cellN (w : List (List Int)) (i k : Nat) : Int := ((w[i]?).bind fun r => r[k]?).getD 0
def cellB (w : List (List Int)) (i k : Nat) : Bool := decide (0 ≤ cellN w i k) && decide (cellN w i k ≤ 96) && decide (cellN w i k = cellN w k i) && (decide (i ≠ k) || decide (cellN w i k ≤ 0))
def walkB (n : Nat) (w : List (List Int)) : Bool := decide (n ≤ 24) && decide (w.length = n) && w.all (fun r => decide (r.length = n)) && (List.range n).all fun i => (List.range n).all fun k => cellB w i k
theorem walk_bad {n : Nat} {w : List (List Int)} {i k : Nat} (hi : i < n) (hk : k < n) (h : cellB w i k = false) : walkB n w = false := by
  have h1 : ((List.range n).all fun k => cellB w i k) = false := by rw [List.all_eq_false]; exact ⟨k, List.mem_range.2 hk, by simp [h]⟩
  have h2 : ((List.range n).all fun i => (List.range n).all fun k => cellB w i k) = false := by rw [List.all_eq_false]; exact ⟨i, List.mem_range.2 hi, by simp [h1]⟩
  simp [walkB, h2]
theorem walk_row {n : Nat} {w : List (List Int)} {r : List Int} (hr : r ∈ w) (h : ¬ r.length = n) : walkB n w = false := by
  have h1 : (w.all fun r => decide (r.length = n)) = false := by rw [List.all_eq_false]; exact ⟨r, hr, by simp [h]⟩
  simp [walkB, h1]
theorem walk_ok {n : Nat} {w : List (List Int)} (h1 : n ≤ 24) (h2 : w.length = n) (h3 : ∀ r ∈ w, r.length = n) (h4 : ∀ i, i < n → ∀ k, k < n → cellB w i k = true) : walkB n w = true := by
  simp only [walkB, Bool.and_eq_true, decide_eq_true_eq, List.all_eq_true, List.mem_range]
  exact ⟨⟨⟨h1, h2⟩, h3⟩, h4⟩
def m_room_RightWalk : MF := ⟨76, (.seq (.reg none [Oo 4 (.mov (.d (.p (.s (.bool false)))))]) (.seq (.seq (.reg none [Om 11 0, Oo 12 (.iop .lss (.t 11) (.d (Ci 0))), Om 13 12, Og 14 13 false (.mov (.t 0)), Og 15 13 false (.iop .gtr (.t 14) (.d (Ci 24))), Oo 16 (.pick (.t 13) (.d (.p (.s (.bool true)))) (.t 15)), Om 17 16, Og 18 17 false (.mov (.t 1)), Og 19 17 false (.lenL (.t 18)), Og 20 17 false (.mov (.t 0)), Og 21 17 false (.iop .neq (.t 19) (.t 20)), Oo 22 (.pick (.t 17) (.d (.p (.s (.bool true)))) (.t 21))]) (.cond (.t 22) (.seq (.reg none [Oo 4 (.mov (.d (.p (.s (.bool false)))))]) .ret) .skip)) (.seq (.seq (.reg none [Om 23 1, Ok 24 23, Oo 25 (.mov (.d (Ci 0)))]) (.block 0 (.loop (.seq (.reg none [Oo 26 (.iop .lss (.t 25) (.t 24))]) (.seq (.cond (.t 26) .skip (.exit 0)) (.seq (.block 1 (.seq (.reg none [Oo 27 (.iadrS 1 (.t 23) (.t 25)), Ol 28 27, Om 6 28]) (.seq (.reg none [Om 29 6, Ok 30 29, Om 31 0, Oo 32 (.iop .neq (.t 30) (.t 31))]) (.cond (.t 32) (.seq (.reg none [Oo 4 (.mov (.d (.p (.s (.bool false)))))]) .ret) .skip)))) (.reg none [Oo 33 (.iop .add (.t 25) (.d (Ci 1))), Om 25 33]))))))) (.seq (.seq (.reg none [Om 34 1, Ok 35 34, Oo 36 (.mov (.d (Ci 0)))]) (.block 2 (.loop (.seq (.reg none [Oo 37 (.iop .lss (.t 36) (.t 35))]) (.seq (.cond (.t 37) .skip (.exit 2)) (.seq (.block 3 (.seq (.reg none [Om 38 36, Oo 39 (.iadrS 1 (.t 34) (.t 36)), Ol 40 39, Om 7 38, Om 8 40]) (.seq (.reg none [Om 41 8, Ok 42 41, Oo 43 (.mov (.d (Ci 0)))]) (.block 4 (.loop (.seq (.reg none [Oo 44 (.iop .lss (.t 43) (.t 42))]) (.seq (.cond (.t 44) .skip (.exit 4)) (.seq (.block 5 (.seq (.reg none [Om 45 43, Oo 46 (.iadrS 1 (.t 41) (.t 43)), Ol 47 46, Om 9 45, Om 10 47]) (.seq (.reg none [Om 48 10, Oo 49 (.iop .lss (.t 48) (.d (Ci 0))), Om 50 49, Og 51 50 false (.mov (.t 10)), Og 52 50 false (.iop .gtr (.t 51) (.d (Ci 96))), Oo 53 (.pick (.t 50) (.d (.p (.s (.bool true)))) (.t 52)), Om 54 53, Og 55 54 false (.mov (.t 10)), Og 56 54 false (.mov (.t 1)), Og 57 54 false (.mov (.t 9)), Og 58 54 false (.iadrS 1 (.t 56) (.t 57)), Og 59 54 false (.load false 1 (.t 58)), Og 60 54 false (.mov (.t 7)), Og 61 54 false (.iadrS 1 (.t 59) (.t 60)), Og 62 54 false (.load false 1 (.t 61)), Og 63 54 false (.iop .neq (.t 55) (.t 62)), Oo 64 (.pick (.t 54) (.d (.p (.s (.bool true)))) (.t 63)), Om 65 64, Og 66 65 false (.mov (.t 7)), Og 67 65 false (.mov (.t 9)), Og 68 65 false (.iop .eql (.t 66) (.t 67)), Og 69 65 false (.mov (.t 68)), Og 70 69 true (.mov (.t 10)), Og 71 69 true (.iop .gtr (.t 70) (.d (Ci 0))), Og 72 65 false (.pick (.t 69) (.t 71) (.d (.p (.s (.bool false))))), Oo 73 (.pick (.t 65) (.d (.p (.s (.bool true)))) (.t 72))]) (.cond (.t 73) (.seq (.reg none [Oo 4 (.mov (.d (.p (.s (.bool false)))))]) .ret) .skip)))) (.reg none [Oo 74 (.iop .add (.t 43) (.d (Ci 1))), Om 43 74]))))))))) (.reg none [Oo 75 (.iop .add (.t 36) (.d (Ci 1))), Om 36 75]))))))) (.seq (.reg none [Oo 4 (.mov (.d (.p (.s (.bool true)))))]) .ret))))), [.tmp 4]⟩
theorem c_room_RightWalk : comp Tryz.prog G0 125 = some m_room_RightWalk := by kernel_rfl
theorem q_room_RightWalk : Q0 125 := mCall_pure rfl
def m_ref11_RightWalk : MF := ⟨92, (.seq (.reg none [Oo 4 (.mov (.d (.p (.s (.bool false)))))]) (.seq (.seq (.reg none [Om 8 0, Oo 9 (.iop .lss (.t 8) (.d (Ci 0))), Om 10 9, Og 11 10 false (.mov (.t 0)), Og 12 10 false (.iop .gtr (.t 11) (.d (Ci 24))), Oo 13 (.pick (.t 10) (.d (.p (.s (.bool true)))) (.t 12)), Om 14 13, Og 15 14 false (.mov (.t 1)), Og 16 14 false (.lenL (.t 15)), Og 17 14 false (.mov (.t 0)), Og 18 14 false (.iop .neq (.t 16) (.t 17)), Oo 19 (.pick (.t 14) (.d (.p (.s (.bool true)))) (.t 18))]) (.cond (.t 19) (.seq (.reg none [Oo 4 (.mov (.d (.p (.s (.bool false)))))]) .ret) .skip)) (.seq (.seq (.reg none [Oo 5 (.mov (.d (Ci 0)))]) (.block 0 (.loop (.seq (.seq (.reg none [Om 20 5, Om 21 0, Oo 22 (.iop .lss (.t 20) (.t 21))]) (.cond (.t 22) .skip (.exit 0))) (.seq (.block 1 (.seq (.reg none [Om 25 1, Om 26 5, Oo 27 (.iadrS 1 (.t 25) (.t 26)), Ol 28 27, Ok 29 28, Om 30 0, Oo 31 (.iop .neq (.t 29) (.t 30))]) (.cond (.t 31) (.seq (.reg none [Oo 4 (.mov (.d (.p (.s (.bool false)))))]) .ret) .skip))) (.reg none [Om 23 5, Oo 24 (.iop .add (.t 23) (.d (Ci 1))), Om 5 24])))))) (.seq (.seq (.reg none [Oo 6 (.mov (.d (Ci 0)))]) (.block 2 (.loop (.seq (.seq (.reg none [Om 32 6, Om 33 0, Oo 34 (.iop .lss (.t 32) (.t 33))]) (.cond (.t 34) .skip (.exit 2))) (.seq (.block 3 (.seq (.reg none [Oo 7 (.mov (.d (Ci 0)))]) (.block 4 (.loop (.seq (.seq (.reg none [Om 37 7, Om 38 0, Oo 39 (.iop .lss (.t 37) (.t 38))]) (.cond (.t 39) .skip (.exit 4))) (.seq (.block 5 (.seq (.reg (some #[0, 0, 3, 7, 0, 31, 63, 127, 255, 511, 511, 2047, 4095, 511, 16383, 32767, 65535, 131071, 262143, 524287, 524287, 2097151, 4194303, 524287, 16777215, 33554431, 524287, 524287, 201850879, 470286335, 524287, 2080899071, 4228382719, 8589934591, 17179869183, 34359738367, 68719476735, 68719476735, 274877906943, 549755813887, 1099511627775, 1099511627775, 4398046511103, 8796093022207, 1099511627775, 35184372088831, 70368744177663, 140737488355327, 281474976710655, 562949953421311]) [Om 42 1, Om 43 6, Oo 44 (.iadrS 1 (.t 42) (.t 43)), Ol 45 44, Om 46 7, Oo 47 (.iadrS 1 (.t 45) (.t 46)), Ol 48 47, Oo 49 (.iop .lss (.t 48) (.d (Ci 0))), Om 50 49, Og 51 50 false (.mov (.t 1)), Og 52 50 false (.mov (.t 6)), Og 53 50 false (.iadrS 1 (.t 51) (.t 52)), Og 54 50 false (.load false 1 (.t 53)), Og 55 50 false (.mov (.t 7)), Og 56 50 false (.iadrS 1 (.t 54) (.t 55)), Og 57 50 false (.load false 1 (.t 56)), Og 58 50 false (.iop .gtr (.t 57) (.d (Ci 96))), Oo 59 (.pick (.t 50) (.d (.p (.s (.bool true)))) (.t 58)), Om 60 59, Og 61 60 false (.mov (.t 1)), Og 62 60 false (.mov (.t 6)), Og 63 60 false (.iadrS 1 (.t 61) (.t 62)), Og 64 60 false (.load false 1 (.t 63)), Og 65 60 false (.mov (.t 7)), Og 66 60 false (.iadrS 1 (.t 64) (.t 65)), Og 67 60 false (.load false 1 (.t 66)), Og 68 60 false (.mov (.t 1)), Og 69 60 false (.mov (.t 7)), Og 70 60 false (.iadrS 1 (.t 68) (.t 69)), Og 71 60 false (.load false 1 (.t 70)), Og 72 60 false (.mov (.t 6)), Og 73 60 false (.iadrS 1 (.t 71) (.t 72)), Og 74 60 false (.load false 1 (.t 73)), Og 75 60 false (.iop .neq (.t 67) (.t 74)), Oo 76 (.pick (.t 60) (.d (.p (.s (.bool true)))) (.t 75)), Om 77 76, Og 78 77 false (.mov (.t 6)), Og 79 77 false (.mov (.t 7)), Og 80 77 false (.iop .eql (.t 78) (.t 79)), Og 81 77 false (.mov (.t 80)), Og 82 81 true (.mov (.t 1)), Og 83 81 true (.mov (.t 6)), Og 84 81 true (.iadrS 1 (.t 82) (.t 83)), Og 85 81 true (.load false 1 (.t 84)), Og 86 81 true (.mov (.t 7)), Og 87 81 true (.iadrS 1 (.t 85) (.t 86)), Og 88 81 true (.load false 1 (.t 87)), Og 89 81 true (.iop .neq (.t 88) (.d (Ci 0))), Og 90 77 false (.pick (.t 81) (.t 89) (.d (.p (.s (.bool false))))), Oo 91 (.pick (.t 77) (.d (.p (.s (.bool true)))) (.t 90))]) (.cond (.t 91) (.seq (.reg none [Oo 4 (.mov (.d (.p (.s (.bool false)))))]) .ret) .skip))) (.reg none [Om 40 7, Oo 41 (.iop .add (.t 40) (.d (Ci 1))), Om 7 41]))))))) (.reg none [Om 35 6, Oo 36 (.iop .add (.t 35) (.d (Ci 1))), Om 6 36])))))) (.seq (.reg none [Oo 4 (.mov (.d (.p (.s (.bool true)))))]) .ret))))), [.tmp 4]⟩
theorem c_ref11_RightWalk : comp Tryz.prog G0 192 = some m_ref11_RightWalk := by kernel_rfl
theorem q_ref11_RightWalk : Q0 192 := mCall_pure rfl
theorem walkOk_res (n : Nat) (hn0 : n ≤ 1048576) (w : List (List Int)) : res Tryz.prog G0 125 [I (n : Int), LL w] = some (B (walkB n w)) := by
  refine res_body c_room_RightWalk (Nat.le_of_ble_eq_true rfl) ?_
  simp only [m_room_RightWalk, Oo, Ou, Og, Ci, Om, Of, Ol, Ok]
  by_cases hn : n ≤ 24
  case neg =>
    repeat' (first | simp only [go_sem, Int.reduceLT, Int.reduceLE, Int.reduceNeg, Int.reduceEq, Nat.reduceAdd, Nat.reduceEqDiff, Nat.reduceLeDiff, Nat.reduceBEq, reduceIte, reduceCtorEq, show decide ((24 : Int) < (n : Int)) = true by (simp only [decide_eq_true_eq]; omega)] | (with_reducible first | apply c1 | (first | apply c2 | apply c3) <;> (intro hc; simp only [hc]) | (first | apply c4 | apply c5) <;> (intro hc; rw [hc])))
    simp [walkB, hn]
  by_cases hl : w.length = n
  case neg =>
    repeat' (first | simp only [go_sem, Int.reduceLT, Int.reduceLE, Int.reduceNeg, Int.reduceEq, Nat.reduceAdd, Nat.reduceEqDiff, Nat.reduceLeDiff, Nat.reduceBEq, reduceIte, reduceCtorEq, show decide ((24 : Int) < (n : Int)) = false by (simp only [decide_eq_false_iff_not]; omega), show decide ((w.length : Int) ≠ (n : Int)) = true by (simp only [decide_eq_true_eq]; omega)] | (with_reducible first | apply c1 | (first | apply c2 | apply c3) <;> (intro hc; simp only [hc]) | (first | apply c4 | apply c5) <;> (intro hc; rw [hc])))
    simp [walkB, hl]
  repeat' (first | simp only [go_sem, Int.reduceLT, Int.reduceLE, Int.reduceNeg, Int.reduceEq, Nat.reduceAdd, Nat.reduceEqDiff, Nat.reduceLeDiff, Nat.reduceBEq, reduceIte, reduceCtorEq, show decide ((24 : Int) < (n : Int)) = false by (simp only [decide_eq_false_iff_not]; omega), show decide ((w.length : Int) ≠ (n : Int)) = false by (simp; omega)] | (with_reducible first | apply c1 | (first | apply c2 | apply c3) <;> (intro hc; simp only [hc]) | (first | apply c4 | apply c5) <;> (intro hc; rw [hc])))
  refine X_for 25 n (fun i s => ∀ r ∈ w.take i, r.length = n) 0 (by omega) ?_ (Nat.zero_le _) (by simp) ?_
  · simp only [go_sem, Int.reduceLT, Int.reduceLE, Int.reduceNeg, Int.reduceEq, Nat.reduceAdd, Nat.reduceEqDiff, Nat.reduceLeDiff, Nat.reduceBEq, reduceIte, reduceCtorEq]; rfl
  intro i t h nx hf hi0 hi hC1 hj
  have h0 := hf 0 rfl; simp only [PT.get_set, Nat.reduceEqDiff, if_true, if_false, reduceIte, PT.get_leaf] at h0; have h1 := hf 1 rfl; simp only [PT.get_set, Nat.reduceEqDiff, if_true, if_false, reduceIte, PT.get_leaf] at h1; have h23 := hf 23 rfl; simp only [PT.get_set, Nat.reduceEqDiff, if_true, if_false, reduceIte, PT.get_leaf] at h23; have h24 := hf 24 rfl; simp only [PT.get_set, Nat.reduceEqDiff, if_true, if_false, reduceIte, PT.get_leaf] at h24
  clear hf
  rcases Nat.lt_or_ge i n with hlt | hge
  · obtain ⟨r, hr, _, htk⟩ := get_dec (l := w) (i := i) (by simp; omega)
    have hdl : decide ((i : Int) < (w.length : Int)) = true := by simp; omega
    by_cases hrn : r.length = n
    · repeat' (first | simp only [go_sem, Int.reduceLT, Int.reduceLE, Int.reduceNeg, Int.reduceEq, Nat.reduceAdd, Nat.reduceEqDiff, Nat.reduceLeDiff, Nat.reduceBEq, reduceIte, reduceCtorEq, h0, h1, h23, h24, hC1, hr, hdl, show decide ((r.length : Int) ≠ (n : Int)) = false by (simp; omega)] | (with_reducible first | apply c1 | (first | apply c2 | apply c3) <;> (intro hc; simp only [hc]) | (first | apply c4 | apply c5) <;> (intro hc; rw [hc])))
      refine ⟨hlt, fun y hy => ?_⟩
      rw [htk, List.mem_append, List.mem_singleton] at hy
      rcases hy with hy | rfl
      · exact hj y hy
      · exact hrn
    · repeat' (first | simp only [go_sem, Int.reduceLT, Int.reduceLE, Int.reduceNeg, Int.reduceEq, Nat.reduceAdd, Nat.reduceEqDiff, Nat.reduceLeDiff, Nat.reduceBEq, reduceIte, reduceCtorEq, h0, h1, h23, h24, hC1, hr, hdl, show decide ((r.length : Int) ≠ (n : Int)) = true by (simp; omega)] | (with_reducible first | apply c1 | (first | apply c2 | apply c3) <;> (intro hc; simp only [hc]) | (first | apply c4 | apply c5) <;> (intro hc; rw [hc])))
      rw [walk_row (List.mem_of_getElem? hr) hrn]
  rw [List.take_of_length_le (by omega)] at hj
  have rows := hj
  repeat' (first | simp only [go_sem, Int.reduceLT, Int.reduceLE, Int.reduceNeg, Int.reduceEq, Nat.reduceAdd, Nat.reduceEqDiff, Nat.reduceLeDiff, Nat.reduceBEq, reduceIte, reduceCtorEq, h0, h1, h23, h24, hC1, show decide ((i : Int) < (w.length : Int)) = false by (simp; omega)] | (with_reducible first | apply c1 | (first | apply c2 | apply c3) <;> (intro hc; simp only [hc]) | (first | apply c4 | apply c5) <;> (intro hc; rw [hc])))
  refine X_for 36 n (fun i s => ∀ a, a < i → ∀ k, k < n → cellB w a k = true) 0 (by omega) ?_ (Nat.zero_le _) (fun a h => by omega) ?_
  · simp only [go_sem, Int.reduceLT, Int.reduceLE, Int.reduceNeg, Int.reduceEq, Nat.reduceAdd, Nat.reduceEqDiff, Nat.reduceLeDiff, Nat.reduceBEq, reduceIte, reduceCtorEq]; rfl
  intro i2 t2 hp2 nx2 hf hi02 hi2 hC2 hj
  have f0 := hf 0 rfl; have f1 := hf 1 rfl; have f34 := hf 34 rfl; have f35 := hf 35 rfl
  simp only [PT.get_set, Nat.reduceEqDiff, if_true, if_false, reduceIte, h0, h1, h23, h24, hC1] at f0 f1 f34 f35
  clear hf
  rcases Nat.lt_or_ge i2 n with hlt2 | hge2
  · obtain ⟨r, hr, _, _⟩ := get_dec (l := w) (i := i2) (by simp; omega)
    have hrl : r.length = n := rows r (List.mem_of_getElem? hr)
    have hdl : decide ((i2 : Int) < (w.length : Int)) = true := by simp; omega
    repeat' (first | simp only [go_sem, Int.reduceLT, Int.reduceLE, Int.reduceNeg, Int.reduceEq, Nat.reduceAdd, Nat.reduceEqDiff, Nat.reduceLeDiff, Nat.reduceBEq, reduceIte, reduceCtorEq, f0, f1, f34, f35, hC2, hr, hdl] | (with_reducible first | apply c1 | (first | apply c2 | apply c3) <;> (intro hc; simp only [hc]) | (first | apply c4 | apply c5) <;> (intro hc; rw [hc])))
    refine X_for 43 n (fun k s => ∀ a, a < k → cellB w i2 a = true) 0 (by omega) ?_ (Nat.zero_le _) (fun a h => by omega) ?_
    · simp only [go_sem, Int.reduceLT, Int.reduceLE, Int.reduceNeg, Int.reduceEq, Nat.reduceAdd, Nat.reduceEqDiff, Nat.reduceLeDiff, Nat.reduceBEq, reduceIte, reduceCtorEq]; rfl
    intro k t3 hp3 nx3 hf hk0 hk hC3 hj2
    have g0 := hf 0 rfl; have g1 := hf 1 rfl; have g7 := hf 7 rfl; have g34 := hf 34 rfl; have g35 := hf 35 rfl; have g36 := hf 36 rfl; have g41 := hf 41 rfl; have g42 := hf 42 rfl
    simp only [PT.get_set, Nat.reduceEqDiff, if_true, if_false, reduceIte, f0, f1, f34, f35, hC2] at g0 g1 g7 g34 g35 g36 g41 g42
    clear hf
    rcases Nat.lt_or_ge k n with hlt3 | hge3
    · obtain ⟨x, hx, _, _⟩ := get_dec (l := r) (i := k) (by simp; omega)
      obtain ⟨s, hs, _, _⟩ := get_dec (l := w) (i := k) (by simp; omega)
      have hsl : s.length = n := rows s (List.mem_of_getElem? hs)
      obtain ⟨y, hy, _, _⟩ := get_dec (l := s) (i := i2) (by simp; omega)
      have hdl3 : decide ((k : Int) < (r.length : Int)) = true := by simp; omega
      have hc1 : cellN w i2 k = x := by simp [cellN, hr, hx]
      have hc2 : cellN w k i2 = y := by simp [cellN, hs, hy]
      have hcell : cellB w i2 k = (decide (0 ≤ x) && decide (x ≤ 96) && decide (x = y) && (decide (i2 ≠ k) || decide (x ≤ 0))) := by simp only [cellB, hc1, hc2]
      repeat' (first | simp only [go_sem, Int.reduceLT, Int.reduceLE, Int.reduceNeg, Int.reduceEq, Nat.reduceAdd, Nat.reduceEqDiff, Nat.reduceLeDiff, Nat.reduceBEq, reduceIte, reduceCtorEq, g0, g1, g7, g34, g35, g36, g41, g42, hC3, hr, hx, hs, hy, hdl3] | (with_reducible first | apply c1 | (first | apply c2 | apply c3) <;> (intro hc; simp only [hc]) | (first | apply c4 | apply c5) <;> (intro hc; rw [hc])))
      all_goals first
        | (refine ⟨hlt3, fun a ha => ?_⟩
           by_cases e : a = k
           · rw [e, hcell]
             simp only [Bool.and_eq_true, Bool.or_eq_true, decide_eq_true_eq, decide_eq_false_iff_not] at *
             omega
           · exact hj2 a (by omega))
        | (rw [walk_bad hlt2 hlt3 (by
             rw [hcell]
             simp only [Bool.and_eq_false_iff, Bool.or_eq_false_iff, decide_eq_true_eq, decide_eq_false_iff_not] at *
             omega)])
        | (exfalso; simp only [Bool.and_eq_true, Bool.or_eq_true, decide_eq_true_eq, decide_eq_false_iff_not] at *; omega)
    · repeat' (first | simp only [go_sem, Int.reduceLT, Int.reduceLE, Int.reduceNeg, Int.reduceEq, Nat.reduceAdd, Nat.reduceEqDiff, Nat.reduceLeDiff, Nat.reduceBEq, reduceIte, reduceCtorEq, g0, g1, g7, g34, g35, g36, g41, g42, hC3, show decide ((k : Int) < (r.length : Int)) = false by (simp; omega)] | (with_reducible first | apply c1 | (first | apply c2 | apply c3) <;> (intro hc; simp only [hc]) | (first | apply c4 | apply c5) <;> (intro hc; rw [hc])))
      refine ⟨hlt2, fun a ha k2 hk2 => ?_⟩
      by_cases e : a = i2
      · rw [e]; exact hj2 k2 (by omega)
      · exact hj a (by omega) k2 hk2
  · repeat' (first | simp only [go_sem, Int.reduceLT, Int.reduceLE, Int.reduceNeg, Int.reduceEq, Nat.reduceAdd, Nat.reduceEqDiff, Nat.reduceLeDiff, Nat.reduceBEq, reduceIte, reduceCtorEq, f0, f1, f34, f35, hC2, show decide ((i2 : Int) < (w.length : Int)) = false by (simp; omega)] | (with_reducible first | apply c1 | (first | apply c2 | apply c3) <;> (intro hc; simp only [hc]) | (first | apply c4 | apply c5) <;> (intro hc; rw [hc])))
    rw [walk_ok hn hl rows (fun a ha k hk => hj a (by omega) k hk)]
theorem rwalkOk_res (n : Nat) (hn0 : n ≤ 1048576) (w : List (List Int)) : res Tryz.prog G0 192 [I (n : Int), LL w] = some (B (walkB n w)) := by
  refine res_body c_ref11_RightWalk (Nat.le_of_ble_eq_true rfl) ?_
  simp only [m_ref11_RightWalk, Oo, Ou, Og, Ci, Om, Of, Ol, Ok]
  by_cases hn : n ≤ 24
  case neg =>
    repeat' (first | simp only [go_sem, Int.reduceLT, Int.reduceLE, Int.reduceNeg, Int.reduceEq, Nat.reduceAdd, Nat.reduceEqDiff, Nat.reduceLeDiff, Nat.reduceBEq, reduceIte, reduceCtorEq, show decide ((24 : Int) < (n : Int)) = true by (simp only [decide_eq_true_eq]; omega)] | (with_reducible first | apply c1 | (first | apply c2 | apply c3) <;> (intro hc; simp only [hc]) | (first | apply c4 | apply c5) <;> (intro hc; rw [hc])))
    simp [walkB, hn]
  by_cases hl : w.length = n
  case neg =>
    repeat' (first | simp only [go_sem, Int.reduceLT, Int.reduceLE, Int.reduceNeg, Int.reduceEq, Nat.reduceAdd, Nat.reduceEqDiff, Nat.reduceLeDiff, Nat.reduceBEq, reduceIte, reduceCtorEq, show decide ((24 : Int) < (n : Int)) = false by (simp only [decide_eq_false_iff_not]; omega), show decide ((w.length : Int) ≠ (n : Int)) = true by (simp only [decide_eq_true_eq]; omega)] | (with_reducible first | apply c1 | (first | apply c2 | apply c3) <;> (intro hc; simp only [hc]) | (first | apply c4 | apply c5) <;> (intro hc; rw [hc])))
    simp [walkB, hl]
  repeat' (first | simp only [go_sem, Int.reduceLT, Int.reduceLE, Int.reduceNeg, Int.reduceEq, Nat.reduceAdd, Nat.reduceEqDiff, Nat.reduceLeDiff, Nat.reduceBEq, reduceIte, reduceCtorEq, show decide ((24 : Int) < (n : Int)) = false by (simp only [decide_eq_false_iff_not]; omega), show decide ((w.length : Int) ≠ (n : Int)) = false by (simp; omega)] | (with_reducible first | apply c1 | (first | apply c2 | apply c3) <;> (intro hc; simp only [hc]) | (first | apply c4 | apply c5) <;> (intro hc; rw [hc])))
  refine X_for 5 n (fun i s => ∀ r ∈ w.take i, r.length = n) 0 (by omega) ?_ (Nat.zero_le _) (by simp) ?_
  · simp only [go_sem, Int.reduceLT, Int.reduceLE, Int.reduceNeg, Int.reduceEq, Nat.reduceAdd, Nat.reduceEqDiff, Nat.reduceLeDiff, Nat.reduceBEq, reduceIte, reduceCtorEq]; rfl
  intro i t h nx hf hi0 hi hC1 hj
  have h0 := hf 0 rfl; simp only [PT.get_set, Nat.reduceEqDiff, if_true, if_false, reduceIte, PT.get_leaf] at h0; have h1 := hf 1 rfl; simp only [PT.get_set, Nat.reduceEqDiff, if_true, if_false, reduceIte, PT.get_leaf] at h1
  clear hf
  rcases Nat.lt_or_ge i n with hlt | hge
  · obtain ⟨r, hr, _, htk⟩ := get_dec (l := w) (i := i) (by simp; omega)
    have hdl : decide ((i : Int) < (n : Int)) = true := by simp; omega
    by_cases hrn : r.length = n
    · repeat' (first | simp only [go_sem, Int.reduceLT, Int.reduceLE, Int.reduceNeg, Int.reduceEq, Nat.reduceAdd, Nat.reduceEqDiff, Nat.reduceLeDiff, Nat.reduceBEq, reduceIte, reduceCtorEq, h0, h1, hC1, hr, hdl, show decide ((r.length : Int) ≠ (n : Int)) = false by (simp; omega)] | (with_reducible first | apply c1 | (first | apply c2 | apply c3) <;> (intro hc; simp only [hc]) | (first | apply c4 | apply c5) <;> (intro hc; rw [hc])))
      refine ⟨hlt, fun y hy => ?_⟩
      rw [htk, List.mem_append, List.mem_singleton] at hy
      rcases hy with hy | rfl
      · exact hj y hy
      · exact hrn
    · repeat' (first | simp only [go_sem, Int.reduceLT, Int.reduceLE, Int.reduceNeg, Int.reduceEq, Nat.reduceAdd, Nat.reduceEqDiff, Nat.reduceLeDiff, Nat.reduceBEq, reduceIte, reduceCtorEq, h0, h1, hC1, hr, hdl, show decide ((r.length : Int) ≠ (n : Int)) = true by (simp; omega)] | (with_reducible first | apply c1 | (first | apply c2 | apply c3) <;> (intro hc; simp only [hc]) | (first | apply c4 | apply c5) <;> (intro hc; rw [hc])))
      rw [walk_row (List.mem_of_getElem? hr) hrn]
  rw [List.take_of_length_le (by omega)] at hj
  have rows := hj
  repeat' (first | simp only [go_sem, Int.reduceLT, Int.reduceLE, Int.reduceNeg, Int.reduceEq, Nat.reduceAdd, Nat.reduceEqDiff, Nat.reduceLeDiff, Nat.reduceBEq, reduceIte, reduceCtorEq, h0, h1, hC1, show decide ((i : Int) < (n : Int)) = false by (simp; omega)] | (with_reducible first | apply c1 | (first | apply c2 | apply c3) <;> (intro hc; simp only [hc]) | (first | apply c4 | apply c5) <;> (intro hc; rw [hc])))
  refine X_for 6 n (fun i s => ∀ a, a < i → ∀ k, k < n → cellB w a k = true) 0 (by omega) ?_ (Nat.zero_le _) (fun a h => by omega) ?_
  · simp only [go_sem, Int.reduceLT, Int.reduceLE, Int.reduceNeg, Int.reduceEq, Nat.reduceAdd, Nat.reduceEqDiff, Nat.reduceLeDiff, Nat.reduceBEq, reduceIte, reduceCtorEq]; rfl
  intro i2 t2 hp2 nx2 hf hi02 hi2 hC2 hj
  have f0 := hf 0 rfl; have f1 := hf 1 rfl
  simp only [PT.get_set, Nat.reduceEqDiff, if_true, if_false, reduceIte, h0, h1, hC1] at f0 f1
  clear hf
  rcases Nat.lt_or_ge i2 n with hlt2 | hge2
  · obtain ⟨r, hr, _, _⟩ := get_dec (l := w) (i := i2) (by simp; omega)
    have hrl : r.length = n := rows r (List.mem_of_getElem? hr)
    have hdl : decide ((i2 : Int) < (n : Int)) = true := by simp; omega
    repeat' (first | simp only [go_sem, Int.reduceLT, Int.reduceLE, Int.reduceNeg, Int.reduceEq, Nat.reduceAdd, Nat.reduceEqDiff, Nat.reduceLeDiff, Nat.reduceBEq, reduceIte, reduceCtorEq, f0, f1, hC2, hr, hdl] | (with_reducible first | apply c1 | (first | apply c2 | apply c3) <;> (intro hc; simp only [hc]) | (first | apply c4 | apply c5) <;> (intro hc; rw [hc])))
    refine X_for 7 n (fun k s => ∀ a, a < k → cellB w i2 a = true) 0 (by omega) ?_ (Nat.zero_le _) (fun a h => by omega) ?_
    · simp only [go_sem, Int.reduceLT, Int.reduceLE, Int.reduceNeg, Int.reduceEq, Nat.reduceAdd, Nat.reduceEqDiff, Nat.reduceLeDiff, Nat.reduceBEq, reduceIte, reduceCtorEq]; rfl
    intro k t3 hp3 nx3 hf hk0 hk hC3 hj2
    have g0 := hf 0 rfl; have g1 := hf 1 rfl; have g6 := hf 6 rfl
    simp only [PT.get_set, Nat.reduceEqDiff, if_true, if_false, reduceIte, f0, f1, hC2] at g0 g1 g6
    clear hf
    rcases Nat.lt_or_ge k n with hlt3 | hge3
    · obtain ⟨x, hx, _, _⟩ := get_dec (l := r) (i := k) (by simp; omega)
      obtain ⟨s, hs, _, _⟩ := get_dec (l := w) (i := k) (by simp; omega)
      have hsl : s.length = n := rows s (List.mem_of_getElem? hs)
      obtain ⟨y, hy, _, _⟩ := get_dec (l := s) (i := i2) (by simp; omega)
      have hdl3 : decide ((k : Int) < (n : Int)) = true := by simp; omega
      have hc1 : cellN w i2 k = x := by simp [cellN, hr, hx]
      have hc2 : cellN w k i2 = y := by simp [cellN, hs, hy]
      have hcell : cellB w i2 k = (decide (0 ≤ x) && decide (x ≤ 96) && decide (x = y) && (decide (i2 ≠ k) || decide (x ≤ 0))) := by simp only [cellB, hc1, hc2]
      repeat' (first | simp only [go_sem, Int.reduceLT, Int.reduceLE, Int.reduceNeg, Int.reduceEq, Nat.reduceAdd, Nat.reduceEqDiff, Nat.reduceLeDiff, Nat.reduceBEq, reduceIte, reduceCtorEq, g0, g1, g6, hC3, hr, hx, hs, hy, hdl3] | (with_reducible first | apply c1 | (first | apply c2 | apply c3) <;> (intro hc; simp only [hc]) | (first | apply c4 | apply c5) <;> (intro hc; rw [hc])))
      all_goals first
        | (refine ⟨hlt3, fun a ha => ?_⟩
           by_cases e : a = k
           · rw [e, hcell]
             simp only [Bool.and_eq_true, Bool.or_eq_true, decide_eq_true_eq, decide_eq_false_iff_not] at *
             omega
           · exact hj2 a (by omega))
        | (rw [walk_bad hlt2 hlt3 (by
             rw [hcell]
             simp only [Bool.and_eq_false_iff, Bool.or_eq_false_iff, decide_eq_true_eq, decide_eq_false_iff_not] at *
             omega)])
        | (exfalso; simp only [Bool.and_eq_true, Bool.or_eq_true, decide_eq_true_eq, decide_eq_false_iff_not] at *; omega)
    · repeat' (first | simp only [go_sem, Int.reduceLT, Int.reduceLE, Int.reduceNeg, Int.reduceEq, Nat.reduceAdd, Nat.reduceEqDiff, Nat.reduceLeDiff, Nat.reduceBEq, reduceIte, reduceCtorEq, g0, g1, g6, hC3, show decide ((k : Int) < (n : Int)) = false by (simp; omega)] | (with_reducible first | apply c1 | (first | apply c2 | apply c3) <;> (intro hc; simp only [hc]) | (first | apply c4 | apply c5) <;> (intro hc; rw [hc])))
      refine ⟨hlt2, fun a ha k2 hk2 => ?_⟩
      by_cases e : a = i2
      · rw [e]; exact hj2 k2 (by omega)
      · exact hj a (by omega) k2 hk2
  · repeat' (first | simp only [go_sem, Int.reduceLT, Int.reduceLE, Int.reduceNeg, Int.reduceEq, Nat.reduceAdd, Nat.reduceEqDiff, Nat.reduceLeDiff, Nat.reduceBEq, reduceIte, reduceCtorEq, f0, f1, hC2, show decide ((i2 : Int) < (n : Int)) = false by (simp; omega)] | (with_reducible first | apply c1 | (first | apply c2 | apply c3) <;> (intro hc; simp only [hc]) | (first | apply c4 | apply c5) <;> (intro hc; rw [hc])))
    rw [walk_ok hn hl rows (fun a ha k hk => hj a (by omega) k hk)]
end Go.Proofs.YtddmnddocbmjnaaGreat.Dv
namespace Go.Proofs.YtddmnddocbmjnaaGreat.Dv
def m_problem_roomName : MF := ⟨5, (.seq (.reg none [Oo 1 (.box (.t 0)), Oo 2 (.mov (.d (.p (.s (.string ⟨#[]⟩)))))]) (.seq (.reg none [Of 3 0 1, Ol 4 3, Om 2 4]) .ret)), [.tmp 2]⟩
theorem c_problem_roomName : comp Tryz.prog G0 122 = some m_problem_roomName := by kernel_rfl
theorem k_problem_roomName : callable Tryz.prog 122 = true := by kernel_rfl
theorem roomName_res (x : VRoom) : res Tryz.prog G0 122 [x.P] = some (.s (.string x.name)) := by
  refine res_body c_problem_roomName (Nat.le_of_ble_eq_true rfl) ?_
  simp only [m_problem_roomName, Oo, Ou, Og, Ci, Om, Of, Ol, Ok]
  repeat' (first | simp only [go_sem, Int.reduceLT, Int.reduceLE, Int.reduceNeg, Int.reduceEq, Nat.reduceAdd, Nat.reduceEqDiff, Nat.reduceLeDiff, Nat.reduceBEq, reduceIte, reduceCtorEq] | (with_reducible first | apply c1 | (first | apply c2 | apply c3) <;> (intro hc; simp only [hc]) | (first | apply c4 | apply c5) <;> (intro hc; rw [hc])))
def m_problem_personName : MF := ⟨5, (.seq (.reg none [Oo 1 (.box (.t 0)), Oo 2 (.mov (.d (.p (.s (.string ⟨#[]⟩)))))]) (.seq (.reg none [Of 3 0 1, Ol 4 3, Om 2 4]) .ret)), [.tmp 2]⟩
theorem c_problem_personName : comp Tryz.prog G0 127 = some m_problem_personName := by kernel_rfl
theorem k_problem_personName : callable Tryz.prog 127 = true := by kernel_rfl
theorem personName_res (x : VPerson) : res Tryz.prog G0 127 [x.P] = some (.s (.string x.name)) := by
  refine res_body c_problem_personName (Nat.le_of_ble_eq_true rfl) ?_
  simp only [m_problem_personName, Oo, Ou, Og, Ci, Om, Of, Ol, Ok]
  repeat' (first | simp only [go_sem, Int.reduceLT, Int.reduceLE, Int.reduceNeg, Int.reduceEq, Nat.reduceAdd, Nat.reduceEqDiff, Nat.reduceLeDiff, Nat.reduceBEq, reduceIte, reduceCtorEq] | (with_reducible first | apply c1 | (first | apply c2 | apply c3) <;> (intro hc; simp only [hc]) | (first | apply c4 | apply c5) <;> (intro hc; rw [hc])))
def m_problem_className : MF := ⟨5, (.seq (.reg none [Oo 1 (.box (.t 0)), Oo 2 (.mov (.d (.p (.s (.string ⟨#[]⟩)))))]) (.seq (.reg none [Of 3 0 1, Ol 4 3, Om 2 4]) .ret)), [.tmp 2]⟩
theorem c_problem_className : comp Tryz.prog G0 131 = some m_problem_className := by kernel_rfl
theorem k_problem_className : callable Tryz.prog 131 = true := by kernel_rfl
theorem className_res (x : VClass) : res Tryz.prog G0 131 [x.P] = some (.s (.string x.name)) := by
  refine res_body c_problem_className (Nat.le_of_ble_eq_true rfl) ?_
  simp only [m_problem_className, Oo, Ou, Og, Ci, Om, Of, Ol, Ok]
  repeat' (first | simp only [go_sem, Int.reduceLT, Int.reduceLE, Int.reduceNeg, Int.reduceEq, Nat.reduceAdd, Nat.reduceEqDiff, Nat.reduceLeDiff, Nat.reduceBEq, reduceIte, reduceCtorEq] | (with_reducible first | apply c1 | (first | apply c2 | apply c3) <;> (intro hc; simp only [hc]) | (first | apply c4 | apply c5) <;> (intro hc; rw [hc])))
def m_problem_courseName : MF := ⟨5, (.seq (.reg none [Oo 1 (.box (.t 0)), Oo 2 (.mov (.d (.p (.s (.string ⟨#[]⟩)))))]) (.seq (.reg none [Of 3 0 1, Ol 4 3, Om 2 4]) .ret)), [.tmp 2]⟩
theorem c_problem_courseName : comp Tryz.prog G0 135 = some m_problem_courseName := by kernel_rfl
theorem k_problem_courseName : callable Tryz.prog 135 = true := by kernel_rfl
theorem courseName_res (x : VCourse) : res Tryz.prog G0 135 [x.P] = some (.s (.string x.name)) := by
  refine res_body c_problem_courseName (Nat.le_of_ble_eq_true rfl) ?_
  simp only [m_problem_courseName, Oo, Ou, Og, Ci, Om, Of, Ol, Ok]
  repeat' (first | simp only [go_sem, Int.reduceLT, Int.reduceLE, Int.reduceNeg, Int.reduceEq, Nat.reduceAdd, Nat.reduceEqDiff, Nat.reduceLeDiff, Nat.reduceBEq, reduceIte, reduceCtorEq] | (with_reducible first | apply c1 | (first | apply c2 | apply c3) <;> (intro hc; simp only [hc]) | (first | apply c4 | apply c5) <;> (intro hc; rw [hc])))
def m_problem_studentName : MF := ⟨5, (.seq (.reg none [Oo 1 (.box (.t 0)), Oo 2 (.mov (.d (.p (.s (.string ⟨#[]⟩)))))]) (.seq (.reg none [Of 3 0 1, Ol 4 3, Om 2 4]) .ret)), [.tmp 2]⟩
theorem c_problem_studentName : comp Tryz.prog G0 139 = some m_problem_studentName := by kernel_rfl
theorem k_problem_studentName : callable Tryz.prog 139 = true := by kernel_rfl
theorem studentName_res (x : VStudent) : res Tryz.prog G0 139 [x.P] = some (.s (.string x.name)) := by
  refine res_body c_problem_studentName (Nat.le_of_ble_eq_true rfl) ?_
  simp only [m_problem_studentName, Oo, Ou, Og, Ci, Om, Of, Ol, Ok]
  repeat' (first | simp only [go_sem, Int.reduceLT, Int.reduceLE, Int.reduceNeg, Int.reduceEq, Nat.reduceAdd, Nat.reduceEqDiff, Nat.reduceLeDiff, Nat.reduceBEq, reduceIte, reduceCtorEq] | (with_reducible first | apply c1 | (first | apply c2 | apply c3) <;> (intro hc; simp only [hc]) | (first | apply c4 | apply c5) <;> (intro hc; rw [hc])))
def m_problem_Check_1 : MF := ⟨8, (.seq (.reg none [Oo 2 (.box (.t 0)), Oo 3 (.mov (.d (.p (.s (.bool false)))))]) (.seq (.reg none [Of 4 1 1, Oo 5 (.load true 3 (.t 4)), Oo 6 (.load true 4 (.t 2)), Oo 7 (.call 124 [.t 5, .t 6]), Om 3 7]) .ret)), [.tmp 3]⟩
theorem c_problem_Check_1 : comp Tryz.prog G0 123 = some m_problem_Check_1 := by kernel_rfl
theorem k_problem_Check_1 : callable Tryz.prog 123 = true := by kernel_rfl
theorem check1_res (p : VProblem) (x : VRoom) (hx : x.shut.length ≤ 1048576) : res Tryz.prog G0 123 [x.P, .rp p.P.cells] = some (B (roomB p.grid x)) := by
  refine res_body c_problem_Check_1 (Nat.le_of_ble_eq_true rfl) ?_
  simp only [m_problem_Check_1, Oo, Ou, Og, Ci, Om, Of, Ol, Ok]
  repeat' (first | simp only [go_sem, Int.reduceLT, Int.reduceLE, Int.reduceNeg, Int.reduceEq, Nat.reduceAdd, Nat.reduceEqDiff, Nat.reduceLeDiff, Nat.reduceBEq, reduceIte, reduceCtorEq, q_room_Right, room_res p.grid x hx] | (with_reducible first | apply c1 | (first | apply c2 | apply c3) <;> (intro hc; simp only [hc]) | (first | apply c4 | apply c5) <;> (intro hc; rw [hc])))
def m_problem_Check_2 : MF := ⟨8, (.seq (.reg none [Oo 2 (.box (.t 0)), Oo 3 (.mov (.d (.p (.s (.bool false)))))]) (.seq (.reg none [Of 4 1 1, Oo 5 (.load true 3 (.t 4)), Oo 6 (.load true 2 (.t 2)), Oo 7 (.call 129 [.t 5, .t 6]), Om 3 7]) .ret)), [.tmp 3]⟩
theorem c_problem_Check_2 : comp Tryz.prog G0 128 = some m_problem_Check_2 := by kernel_rfl
theorem k_problem_Check_2 : callable Tryz.prog 128 = true := by kernel_rfl
theorem check2_res (p : VProblem) (x : VPerson) (hx : x.away.length ≤ 1048576) : res Tryz.prog G0 128 [x.P, .rp p.P.cells] = some (B (personB p.grid x)) := by
  refine res_body c_problem_Check_2 (Nat.le_of_ble_eq_true rfl) ?_
  simp only [m_problem_Check_2, Oo, Ou, Og, Ci, Om, Of, Ol, Ok]
  repeat' (first | simp only [go_sem, Int.reduceLT, Int.reduceLE, Int.reduceNeg, Int.reduceEq, Nat.reduceAdd, Nat.reduceEqDiff, Nat.reduceLeDiff, Nat.reduceBEq, reduceIte, reduceCtorEq, q_person_Right, person_res p.grid x hx] | (with_reducible first | apply c1 | (first | apply c2 | apply c3) <;> (intro hc; simp only [hc]) | (first | apply c4 | apply c5) <;> (intro hc; rw [hc])))
def m_problem_Check_3 : MF := ⟨17, (.seq (.reg none [Oo 2 (.box (.t 0)), Oo 3 (.mov (.d (.p (.s (.bool false)))))]) (.seq (.reg none [Of 4 1 1, Oo 5 (.load true 3 (.t 4)), Of 6 4 1, Ol 7 6, Ok 8 7, Of 9 6 1, Ol 10 9, Ok 11 10, Of 12 7 1, Ol 13 12, Ok 14 13, Oo 15 (.load true 7 (.t 2)), Oo 16 (.call 133 [.t 5, .t 8, .t 11, .t 14, .t 15]), Om 3 16]) .ret)), [.tmp 3]⟩
theorem c_problem_Check_3 : comp Tryz.prog G0 132 = some m_problem_Check_3 := by kernel_rfl
theorem k_problem_Check_3 : callable Tryz.prog 132 = true := by kernel_rfl
theorem check3_res (p : VProblem) (x : VClass) (hx : smC x) : res Tryz.prog G0 132 [x.P, .rp p.P.cells] = some (B (classB p.grid p.rooms.length p.persons.length p.classes.length x)) := by
  refine res_body c_problem_Check_3 (Nat.le_of_ble_eq_true rfl) ?_
  simp only [m_problem_Check_3, Oo, Ou, Og, Ci, Om, Of, Ol, Ok]
  repeat' (first | simp only [go_sem, Int.reduceLT, Int.reduceLE, Int.reduceNeg, Int.reduceEq, Nat.reduceAdd, Nat.reduceEqDiff, Nat.reduceLeDiff, Nat.reduceBEq, reduceIte, reduceCtorEq, q_class_Right, class_res p.grid p.rooms.length p.persons.length p.classes.length x hx] | (with_reducible first | apply c1 | (first | apply c2 | apply c3) <;> (intro hc; simp only [hc]) | (first | apply c4 | apply c5) <;> (intro hc; rw [hc])))
def m_problem_Check_4 : MF := ⟨9, (.seq (.reg none [Oo 2 (.box (.t 0)), Oo 3 (.mov (.d (.p (.s (.bool false)))))]) (.seq (.reg none [Of 4 7 1, Ol 5 4, Ok 6 5, Oo 7 (.load true 2 (.t 2)), Oo 8 (.call 137 [.t 6, .t 7]), Om 3 8]) .ret)), [.tmp 3]⟩
theorem c_problem_Check_4 : comp Tryz.prog G0 136 = some m_problem_Check_4 := by kernel_rfl
theorem k_problem_Check_4 : callable Tryz.prog 136 = true := by kernel_rfl
theorem check4_res (p : VProblem) (x : VCourse) (hx : smCo x) : res Tryz.prog G0 136 [x.P, .rp p.P.cells] = some (B (courseB p.classes.length x)) := by
  refine res_body c_problem_Check_4 (Nat.le_of_ble_eq_true rfl) ?_
  simp only [m_problem_Check_4, Oo, Ou, Og, Ci, Om, Of, Ol, Ok]
  repeat' (first | simp only [go_sem, Int.reduceLT, Int.reduceLE, Int.reduceNeg, Int.reduceEq, Nat.reduceAdd, Nat.reduceEqDiff, Nat.reduceLeDiff, Nat.reduceBEq, reduceIte, reduceCtorEq, q_course_Right, course_res p.classes.length x hx] | (with_reducible first | apply c1 | (first | apply c2 | apply c3) <;> (intro hc; simp only [hc]) | (first | apply c4 | apply c5) <;> (intro hc; rw [hc])))
def m_problem_Check_5 : MF := ⟨7, (.seq (.reg none [Oo 2 (.box (.t 0)), Oo 3 (.mov (.d (.p (.s (.bool false)))))]) (.seq (.reg none [Oo 4 (.load true 15 (.t 1)), Oo 5 (.load true 2 (.t 2)), Oo 6 (.call 141 [.t 4, .t 5]), Om 3 6]) .ret)), [.tmp 3]⟩
theorem c_problem_Check_5 : comp Tryz.prog G0 140 = some m_problem_Check_5 := by kernel_rfl
theorem k_problem_Check_5 : callable Tryz.prog 140 = true := by kernel_rfl
theorem check5_res (p : VProblem) (x : VStudent) (hx : x.courses.length ≤ 1048576) : res Tryz.prog G0 140 [x.P, .rp p.P.cells] = some (B (studentB p.courses.length x)) := by
  refine res_body c_problem_Check_5 (Nat.le_of_ble_eq_true rfl) ?_
  simp only [m_problem_Check_5, Oo, Ou, Og, Ci, Om, Of, Ol, Ok]
  repeat' (first | simp only [go_sem, Int.reduceLT, Int.reduceLE, Int.reduceNeg, Int.reduceEq, Nat.reduceAdd, Nat.reduceEqDiff, Nat.reduceLeDiff, Nat.reduceBEq, reduceIte, reduceCtorEq, q_problem_student, student_res p x hx] | (with_reducible first | apply c1 | (first | apply c2 | apply c3) <;> (intro hc; simp only [hc]) | (first | apply c4 | apply c5) <;> (intro hc; rw [hc])))
def m_problem_Check_6 : MF := ⟨9, (.seq (.reg none [Oo 2 (.box (.t 0)), Oo 3 (.mov (.d (.p (.s (.bool false)))))]) (.seq (.reg none [Of 4 7 1, Ol 5 4, Ok 6 5, Oo 7 (.load true 6 (.t 2)), Oo 8 (.call 144 [.t 6, .t 7]), Om 3 8]) .ret)), [.tmp 3]⟩
theorem c_problem_Check_6 : comp Tryz.prog G0 143 = some m_problem_Check_6 := by kernel_rfl
theorem k_problem_Check_6 : callable Tryz.prog 143 = true := by kernel_rfl
theorem check6_res (p : VProblem) (x : VRule) (hx : smR x) : res Tryz.prog G0 143 [x.P, .rp p.P.cells] = some (B (ruleB p.classes.length x)) := by
  refine res_body c_problem_Check_6 (Nat.le_of_ble_eq_true rfl) ?_
  simp only [m_problem_Check_6, Oo, Ou, Og, Ci, Om, Of, Ol, Ok]
  repeat' (first | simp only [go_sem, Int.reduceLT, Int.reduceLE, Int.reduceNeg, Int.reduceEq, Nat.reduceAdd, Nat.reduceEqDiff, Nat.reduceLeDiff, Nat.reduceBEq, reduceIte, reduceCtorEq, q_problem_Rule, rule_res p.classes.length x hx] | (with_reducible first | apply c1 | (first | apply c2 | apply c3) <;> (intro hc; simp only [hc]) | (first | apply c4 | apply c5) <;> (intro hc; rw [hc])))
def m_ref17_weigh : MF := ⟨32, (.seq (.reg none [Oo 1 (.box (.t 0)), Oo 2 (.mov (.d (.p (.s (.bool false)))))]) (.seq (.reg none [Of 5 0 1, Ol 6 5, Of 7 1 1, Ol 8 7, Of 9 2 1, Ol 10 9, Of 11 3 1, Ol 12 11, Oo 13 (.bldS false none 4 [.t 6, .t 8, .t 10, .t 12]), Om 3 13]) (.seq (.seq (.reg none [Oo 4 (.mov (.d (Ci 0)))]) (.block 0 (.loop (.seq (.seq (.reg none [Om 14 4, Om 15 3, Ok 16 15, Oo 17 (.iop .lss (.t 14) (.t 16))]) (.cond (.t 17) .skip (.exit 0))) (.seq (.block 1 (.seq (.reg none [Om 20 3, Om 21 4, Oo 22 (.iadrS 1 (.t 20) (.t 21)), Ol 23 22, Oo 24 (.iop .lss (.t 23) (.d (Ci 0))), Om 25 24, Og 26 25 false (.mov (.t 3)), Og 27 25 false (.mov (.t 4)), Og 28 25 false (.iadrS 1 (.t 26) (.t 27)), Og 29 25 false (.load false 1 (.t 28)), Og 30 25 false (.iop .gtr (.t 29) (.d (Ci 1000))), Oo 31 (.pick (.t 25) (.d (.p (.s (.bool true)))) (.t 30))]) (.cond (.t 31) (.seq (.reg none [Oo 2 (.mov (.d (.p (.s (.bool false)))))]) .ret) .skip))) (.reg none [Om 18 4, Oo 19 (.iop .add (.t 18) (.d (Ci 1))), Om 4 19])))))) (.seq (.reg none [Oo 2 (.mov (.d (.p (.s (.bool true)))))]) .ret)))), [.tmp 2]⟩
theorem c_ref17_weigh : comp Tryz.prog G0 198 = some m_ref17_weigh := by kernel_rfl
theorem q_ref17_weigh : Q0 198 := mCall_pure rfl
def m_problem_Check : MF := ⟨115, (.seq (.reg none [Oo 1 (.box (.t 0)), Oo 2 (.mov (.d (Ci 0))), Oo 3 (.mov (.d (Ci 0)))]) (.seq (.block 0 (.seq (.reg none [Of 18 0 1, Ol 19 18, Oo 20 (.call 119 [.t 19]), Oo 21 (.un .not (.t 20)), Om 17 21]) (.cond (.t 17) (.seq (.reg none [Oo 2 (.mov (.d (Ci 18))), Oo 3 (.mov (.d (Ci 0)))]) .ret) (.seq (.reg none [Of 23 1 1, Oo 24 (.load true 3 (.t 23)), Oo 25 (.call 120 [.t 24]), Oo 26 (.un .not (.t 25)), Om 22 26]) (.cond (.t 22) (.seq (.reg none [Oo 2 (.mov (.d (Ci 10))), Oo 3 (.mov (.d (Ci 0)))]) .ret) .skip))))) (.seq (.seq (.reg none [Of 28 4 1, Ol 29 28, Oo 30 (.mkf (.func 123) [] [.t 1]), Oo 31 (.call 121 [.t 29, (.d (Ci 24)), (.d (.p (.s (.func (.func 122) #[] #[])))), .t 30]), Om 27 31, Oo 32 (.xtr 0 (.t 27)), Oo 33 (.xtr 1 (.t 27)), Om 4 32, Om 5 33]) (.seq (.reg none [Om 34 5]) (.cond (.t 34) (.seq (.reg none [Om 35 4, Oo 2 (.mov (.d (Ci 11))), Om 3 35]) .ret) .skip))) (.seq (.seq (.reg none [Of 36 4 1, Ol 37 36, Ok 38 37, Of 39 5 1, Ol 40 39, Oo 41 (.call 125 [.t 38, .t 40]), Oo 42 (.un .not (.t 41))]) (.cond (.t 42) (.seq (.reg (some #[0, 1, 3, 0, 15]) [Of 43 4 1, Ol 44 43, Ok 45 44, Oo 2 (.mov (.d (Ci 11))), Om 3 45]) .ret) .skip)) (.seq (.seq (.reg none [Of 47 6 1, Ol 48 47, Oo 49 (.mkf (.func 128) [] [.t 1]), Oo 50 (.call 126 [.t 48, (.d (Ci 24)), (.d (.p (.s (.func (.func 127) #[] #[])))), .t 49]), Om 46 50, Oo 51 (.xtr 0 (.t 46)), Oo 52 (.xtr 1 (.t 46)), Om 6 51, Om 7 52]) (.seq (.reg none [Om 53 7]) (.cond (.t 53) (.seq (.reg none [Om 54 6, Oo 2 (.mov (.d (Ci 12))), Om 3 54]) .ret) .skip))) (.seq (.seq (.reg none [Of 56 7 1, Ol 57 56, Oo 58 (.mkf (.func 132) [] [.t 1]), Oo 59 (.call 130 [.t 57, (.d (Ci 40)), (.d (.p (.s (.func (.func 131) #[] #[])))), .t 58]), Om 55 59, Oo 60 (.xtr 0 (.t 55)), Oo 61 (.xtr 1 (.t 55)), Om 8 60, Om 9 61]) (.seq (.reg none [Om 62 9]) (.cond (.t 62) (.seq (.reg none [Om 63 8, Oo 2 (.mov (.d (Ci 13))), Om 3 63]) .ret) .skip))) (.seq (.seq (.reg none [Of 65 8 1, Ol 66 65, Oo 67 (.mkf (.func 136) [] [.t 1]), Oo 68 (.call 134 [.t 66, (.d (Ci 16)), (.d (.p (.s (.func (.func 135) #[] #[])))), .t 67]), Om 64 68, Oo 69 (.xtr 0 (.t 64)), Oo 70 (.xtr 1 (.t 64)), Om 10 69, Om 11 70]) (.seq (.reg none [Om 71 11]) (.cond (.t 71) (.seq (.reg none [Om 72 10, Oo 2 (.mov (.d (Ci 14))), Om 3 72]) .ret) .skip))) (.seq (.seq (.reg none [Of 74 9 1, Ol 75 74, Oo 76 (.mkf (.func 140) [] [.t 1]), Oo 77 (.call 138 [.t 75, (.d (Ci 200)), (.d (.p (.s (.func (.func 139) #[] #[])))), .t 76]), Om 73 77, Oo 78 (.xtr 0 (.t 73)), Oo 79 (.xtr 1 (.t 73)), Om 12 78, Om 13 79]) (.seq (.reg none [Om 80 13]) (.cond (.t 80) (.seq (.reg none [Om 81 12, Oo 2 (.mov (.d (Ci 15))), Om 3 81]) .ret) .skip))) (.seq (.seq (.reg none [Of 83 10 1, Ol 84 83, Oo 85 (.mkf (.func 143) [] [.t 1]), Oo 86 (.call 142 [.t 84, (.d (Ci 60)), (.d (.p (.s .nilFunc))), .t 85]), Om 82 86, Oo 87 (.xtr 0 (.t 82)), Oo 88 (.xtr 1 (.t 82)), Om 14 87, Om 15 88]) (.seq (.reg none [Om 89 15]) (.cond (.t 89) (.seq (.reg none [Om 90 14, Oo 2 (.mov (.d (Ci 16))), Om 3 90]) .ret) .skip))) (.seq (.seq (.reg none [Of 91 11 1, Oo 92 (.load true 4 (.t 91)), Oo 16 (.alloc [(Ci 0), (Ci 0), (Ci 0), (Ci 0)]), Ou (.store 4 (.t 16) (.t 92))]) (.seq (.reg none [Of 93 0 16, Ol 94 93, Oo 95 (.call 145 [.t 94]), Oo 96 (.un .not (.t 95)), Om 97 96, Og 98 97 false (.fadr 1 (.t 16)), Og 99 97 false (.load false 1 (.t 98)), Og 100 97 false (.call 145 [.t 99]), Og 101 97 false (.un .not (.t 100)), Oo 102 (.pick (.t 97) (.d (.p (.s (.bool true)))) (.t 101)), Om 103 102, Og 104 103 false (.fadr 2 (.t 16)), Og 105 103 false (.load false 1 (.t 104)), Og 106 103 false (.call 145 [.t 105]), Og 107 103 false (.un .not (.t 106)), Oo 108 (.pick (.t 103) (.d (.p (.s (.bool true)))) (.t 107)), Om 109 108, Og 110 109 false (.fadr 3 (.t 16)), Og 111 109 false (.load false 1 (.t 110)), Og 112 109 false (.call 145 [.t 111]), Og 113 109 false (.un .not (.t 112)), Oo 114 (.pick (.t 109) (.d (.p (.s (.bool true)))) (.t 113))]) (.cond (.t 114) (.seq (.reg none [Oo 2 (.mov (.d (Ci 17))), Oo 3 (.mov (.d (Ci 0)))]) .ret) .skip))) (.seq (.reg none [Oo 2 (.mov (.d (Ci 0))), Oo 3 (.mov (.d (Ci 0)))]) .ret))))))))))), [.tmp 2, .tmp 3]⟩
theorem c_problem_Check : comp Tryz.prog G0 88 = some m_problem_Check := by kernel_rfl
theorem q_problem_Check : Q0 88 := mCall_pure rfl
def m_ref17_Check : MF := ⟨62, (.seq (.reg none [Oo 1 (.box (.t 0)), Oo 2 (.mov (.d (Ci 0))), Oo 3 (.mov (.d (Ci 0)))]) (.seq (.seq (.reg none [Of 10 0 1, Ol 11 10, Oo 12 (.call 189 [.t 11]), Oo 13 (.un .not (.t 12))]) (.cond (.t 13) (.seq (.reg none [Oo 2 (.mov (.d (Ci 18))), Oo 3 (.mov (.d (Ci 0)))]) .ret) .skip)) (.seq (.seq (.reg none [Of 14 1 1, Oo 15 (.load true 3 (.t 14)), Oo 16 (.call 190 [.t 15]), Oo 17 (.un .not (.t 16))]) (.cond (.t 17) (.seq (.reg none [Oo 2 (.mov (.d (Ci 10))), Oo 3 (.mov (.d (Ci 0)))]) .ret) .skip)) (.seq (.seq (.reg none [Oo 18 (.load true 15 (.t 1)), Oo 19 (.call 191 [.t 18]), Om 4 19]) (.seq (.reg none [Om 20 4, Oo 21 (.iop .geq (.t 20) (.d (Ci 0)))]) (.cond (.t 21) (.seq (.reg none [Om 22 4, Oo 2 (.mov (.d (Ci 11))), Om 3 22]) .ret) .skip))) (.seq (.seq (.reg none [Of 23 4 1, Ol 24 23, Ok 25 24, Of 26 5 1, Ol 27 26, Oo 28 (.call 192 [.t 25, .t 27]), Oo 29 (.un .not (.t 28))]) (.cond (.t 29) (.seq (.reg (some #[0, 1, 3, 0, 15]) [Of 30 4 1, Ol 31 30, Ok 32 31, Oo 2 (.mov (.d (Ci 11))), Om 3 32]) .ret) .skip)) (.seq (.seq (.reg none [Oo 33 (.load true 15 (.t 1)), Oo 34 (.call 193 [.t 33]), Om 5 34]) (.seq (.reg none [Om 35 5, Oo 36 (.iop .geq (.t 35) (.d (Ci 0)))]) (.cond (.t 36) (.seq (.reg none [Om 37 5, Oo 2 (.mov (.d (Ci 12))), Om 3 37]) .ret) .skip))) (.seq (.seq (.reg none [Oo 38 (.load true 15 (.t 1)), Oo 39 (.call 194 [.t 38]), Om 6 39]) (.seq (.reg none [Om 40 6, Oo 41 (.iop .geq (.t 40) (.d (Ci 0)))]) (.cond (.t 41) (.seq (.reg none [Om 42 6, Oo 2 (.mov (.d (Ci 13))), Om 3 42]) .ret) .skip))) (.seq (.seq (.reg none [Oo 43 (.load true 15 (.t 1)), Oo 44 (.call 195 [.t 43]), Om 7 44]) (.seq (.reg none [Om 45 7, Oo 46 (.iop .geq (.t 45) (.d (Ci 0)))]) (.cond (.t 46) (.seq (.reg none [Om 47 7, Oo 2 (.mov (.d (Ci 14))), Om 3 47]) .ret) .skip))) (.seq (.seq (.reg none [Oo 48 (.load true 15 (.t 1)), Oo 49 (.call 196 [.t 48]), Om 8 49]) (.seq (.reg none [Om 50 8, Oo 51 (.iop .geq (.t 50) (.d (Ci 0)))]) (.cond (.t 51) (.seq (.reg none [Om 52 8, Oo 2 (.mov (.d (Ci 15))), Om 3 52]) .ret) .skip))) (.seq (.seq (.reg none [Oo 53 (.load true 15 (.t 1)), Oo 54 (.call 197 [.t 53]), Om 9 54]) (.seq (.reg none [Om 55 9, Oo 56 (.iop .geq (.t 55) (.d (Ci 0)))]) (.cond (.t 56) (.seq (.reg none [Om 57 9, Oo 2 (.mov (.d (Ci 16))), Om 3 57]) .ret) .skip))) (.seq (.seq (.reg none [Of 58 11 1, Oo 59 (.load true 4 (.t 58)), Oo 60 (.call 198 [.t 59]), Oo 61 (.un .not (.t 60))]) (.cond (.t 61) (.seq (.reg none [Oo 2 (.mov (.d (Ci 17))), Oo 3 (.mov (.d (Ci 0)))]) .ret) .skip)) (.seq (.reg none [Oo 2 (.mov (.d (Ci 0))), Oo 3 (.mov (.d (Ci 0)))]) .ret)))))))))))), [.tmp 2, .tmp 3]⟩
theorem c_ref17_Check : comp Tryz.prog G0 118 = some m_ref17_Check := by kernel_rfl
theorem q_ref17_Check : Q0 118 := mCall_pure rfl
def m_problem_Right : MF := ⟨12, (.seq (.reg none [Oo 1 (.box (.t 0)), Oo 2 (.mov (.d (.p (.s (.bool false)))))]) (.seq (.reg none [Oo 6 (.load true 15 (.t 1)), Oo 7 (.call 88 [.t 6]), Om 5 7, Oo 8 (.xtr 0 (.t 5)), Oo 9 (.xtr 1 (.t 5)), Om 3 8, Om 4 9]) (.seq (.reg none [Om 10 3, Oo 11 (.iop .eql (.t 10) (.d (Ci 0))), Om 2 11]) .ret))), [.tmp 2]⟩
theorem c_problem_Right : comp Tryz.prog G0 53 = some m_problem_Right := by kernel_rfl
theorem q_problem_Right : Q0 53 := mCall_pure rfl
def m_ref17_Right : MF := ⟨12, (.seq (.reg none [Oo 1 (.box (.t 0)), Oo 2 (.mov (.d (.p (.s (.bool false)))))]) (.seq (.reg none [Oo 6 (.load true 15 (.t 1)), Oo 7 (.call 118 [.t 6]), Om 5 7, Oo 8 (.xtr 0 (.t 5)), Oo 9 (.xtr 1 (.t 5)), Om 3 8, Om 4 9]) (.seq (.reg none [Om 10 3, Oo 11 (.iop .eql (.t 10) (.d (Ci 0))), Om 2 11]) .ret))), [.tmp 2]⟩
theorem c_ref17_Right : comp Tryz.prog G0 81 = some m_ref17_Right := by kernel_rfl
theorem q_ref17_Right : Q0 81 := mCall_pure rfl
def weighB (w : VWeigh) : Bool := costB w.time && costB w.place && costB w.rule && costB w.clash
theorem bldS_4 {a b c d : Int} {id : Nat} : bldSX false none 4 [.p (I a), .p (I b), .p (I c), .p (I d)] id = some { dv := .ow id ([a, b, c, d].map I), rd := [], up := [(id, some (.tip 1))] } := rfl
theorem lenL_ow {i : Nat} {l : List PDV} : lenLX (.ow i l) = some (.p (.s (.int .i64 (l.length : Int)))) := rfl
theorem iadrS_ow {α : Type} {k j : Nat} {f : α → PDV} {l : List α} {i : Nat} : iadrSX k (.ow j (l.map f)) (.p (.s (.int .i64 (i : Int)))) = (l[i]?).bind fun x => if k = (f x).cells.length then some (.p (.rp (f x).cells)) else none := by
  simp only [iadrSX, asI]
  rw [if_neg (by omega)]
  simp only [Int.toNat_natCast, List.getElem?_map]
  cases l[i]? <;> rfl
theorem rweigh_res (w : VWeigh) : res Tryz.prog G0 198 [w.P] = some (B (weighB w)) := by
  refine res_body c_ref17_weigh (Nat.le_of_ble_eq_true rfl) ?_
  simp only [m_ref17_weigh, Oo, Ou, Og, Ci, Om, Of, Ol, Ok]
  repeat' (first | simp only [go_sem, Int.reduceLT, Int.reduceLE, Int.reduceNeg, Int.reduceEq, Nat.reduceAdd, Nat.reduceEqDiff, Nat.reduceLeDiff, Nat.reduceBEq, reduceIte, reduceCtorEq, bldS_4] | (with_reducible first | apply c1 | (first | apply c2 | apply c3) <;> (intro hc; simp only [hc]) | (first | apply c4 | apply c5) <;> (intro hc; rw [hc])))
  obtain ⟨l, hL⟩ : ∃ l, l = [w.time, w.place, w.rule, w.clash] := ⟨_, rfl⟩
  have hall : weighB w = l.all costB := by rw [hL]; simp [weighB, Bool.and_assoc]
  have hlen : l.length = 4 := by rw [hL]; rfl
  rw [hall]
  refine X_for 4 4 (fun i s => ∀ x ∈ l.take i, costB x = true) 0 (by omega) ?_ (Nat.zero_le _) (by simp) ?_
  · simp only [go_sem, Int.reduceLT, Int.reduceLE, Int.reduceNeg, Int.reduceEq, Nat.reduceAdd, Nat.reduceEqDiff, Nat.reduceLeDiff, Nat.reduceBEq, reduceIte, reduceCtorEq]; rfl
  intro i t h nx hf hi0 hi h4 hj
  obtain ⟨j, h3⟩ : ∃ j, t.get 3 = some (.ow j (l.map I)) := by
    refine ⟨10, ?_⟩
    rw [hf 3 rfl, hL]
    simp only [PT.get_set, Nat.reduceEqDiff, if_true, if_false, reduceIte]
    rfl
  clear hf
  rcases Nat.lt_or_ge i 4 with hlt | hge
  · obtain ⟨x, hx, _, htk⟩ := get_dec (l := l) (i := i) (by simp; omega)
    have hdl : decide ((i : Int) < (l.length : Int)) = true := by simp; omega
    repeat' (first | simp only [go_sem, Int.reduceLT, Int.reduceLE, Int.reduceNeg, Int.reduceEq, Nat.reduceAdd, Nat.reduceEqDiff, Nat.reduceLeDiff, Nat.reduceBEq, reduceIte, reduceCtorEq, h3, h4, hx, hdl, lenL_ow, iadrS_ow] | (with_reducible first | apply c1 | (first | apply c2 | apply c3) <;> (intro hc; simp only [hc]) | (first | apply c4 | apply c5) <;> (intro hc; rw [hc])))
    all_goals first
      | (refine ⟨hlt, fun y hy => ?_⟩
         rw [htk, List.mem_append, List.mem_singleton] at hy
         rcases hy with hy | rfl
         · exact hj y hy
         · simp only [costB, Bool.and_eq_true, decide_eq_true_eq, decide_eq_false_iff_not] at *; omega)
      | (have : l.all costB = false := by
           rw [List.all_eq_false]
           refine ⟨x, List.mem_of_getElem? hx, ?_⟩
           simp only [costB, Bool.and_eq_true, decide_eq_true_eq, decide_eq_false_iff_not] at *; omega
         rw [this])
  · rw [List.take_of_length_le (by omega)] at hj
    repeat' (first | simp only [go_sem, Int.reduceLT, Int.reduceLE, Int.reduceNeg, Int.reduceEq, Nat.reduceAdd, Nat.reduceEqDiff, Nat.reduceLeDiff, Nat.reduceBEq, reduceIte, reduceCtorEq, h3, h4, lenL_ow, show decide ((i : Int) < (l.length : Int)) = false by (simp; omega)] | (with_reducible first | apply c1 | (first | apply c2 | apply c3) <;> (intro hc; simp only [hc]) | (first | apply c4 | apply c5) <;> (intro hc; rw [hc])))
    rw [List.all_eq_true.2 hj]
def smP (p : VProblem) : Prop := (p.rooms.length ≤ 1048576 ∧ ∀ x ∈ p.rooms, x.shut.length ≤ 1048576) ∧ (p.persons.length ≤ 1048576 ∧ ∀ x ∈ p.persons, x.away.length ≤ 1048576) ∧ (p.classes.length ≤ 1048576 ∧ ∀ x ∈ p.classes, smC x) ∧ (p.courses.length ≤ 1048576 ∧ ∀ x ∈ p.courses, smCo x) ∧ (p.students.length ≤ 1048576 ∧ ∀ x ∈ p.students, x.courses.length ≤ 1048576) ∧ (p.rules.length ≤ 1048576 ∧ ∀ x ∈ p.rules, smR x)
def probB (p : VProblem) : Bool := nameB p.name && gridB p.grid && goodB 24 (roomB p.grid) VRoom.name p.rooms && walkB p.rooms.length p.walk && goodB 24 (personB p.grid) VPerson.name p.persons && goodB 40 (classB p.grid p.rooms.length p.persons.length p.classes.length) VClass.name p.classes && goodB 16 (courseB p.classes.length) VCourse.name p.courses && goodB 200 (studentB p.courses.length) VStudent.name p.students && goodR 60 (ruleB p.classes.length) p.rules && weighB p.weigh
set_option maxHeartbeats 2000000 in
theorem check_res (p : VProblem) (hp : smP p) : ∃ q, res Tryz.prog G0 88 [p.P] = some q ∧ ∃ e k : Int, q = .tup [I e, I k] ∧ decide (e = 0) = probB p := by
  obtain ⟨⟨r1, r2⟩, ⟨p1, p2⟩, ⟨c1, c2⟩, ⟨o1, o2⟩, ⟨s1, s2⟩, ⟨u1, u2⟩⟩ := hp
  obtain ⟨q1, hq1, k1, rfl⟩ := badRoom_res p.rooms r1 24 (.s (.func (.func 122) #[] #[])) (.clo (.func 123) [] [.rp p.P.cells]) VRoom.name (roomB p.grid) (fun x _ => App_fn k_problem_roomName (fun _ => rfl) (roomName_res x)) (fun x hx => App_clo k_problem_Check_1 (fun _ => rfl) (check1_res p x (r2 x hx))) rfl
  obtain ⟨q2, hq2, k2, rfl⟩ := badPerson_res p.persons p1 24 (.s (.func (.func 127) #[] #[])) (.clo (.func 128) [] [.rp p.P.cells]) VPerson.name (personB p.grid) (fun x _ => App_fn k_problem_personName (fun _ => rfl) (personName_res x)) (fun x hx => App_clo k_problem_Check_2 (fun _ => rfl) (check2_res p x (p2 x hx))) rfl
  obtain ⟨q3, hq3, k3, rfl⟩ := badClass_res p.classes c1 40 (.s (.func (.func 131) #[] #[])) (.clo (.func 132) [] [.rp p.P.cells]) VClass.name (classB p.grid p.rooms.length p.persons.length p.classes.length) (fun x _ => App_fn k_problem_className (fun _ => rfl) (className_res x)) (fun x hx => App_clo k_problem_Check_3 (fun _ => rfl) (check3_res p x (c2 x hx))) rfl
  obtain ⟨q4, hq4, k4, rfl⟩ := badCourse_res p.courses o1 16 (.s (.func (.func 135) #[] #[])) (.clo (.func 136) [] [.rp p.P.cells]) VCourse.name (courseB p.classes.length) (fun x _ => App_fn k_problem_courseName (fun _ => rfl) (courseName_res x)) (fun x hx => App_clo k_problem_Check_4 (fun _ => rfl) (check4_res p x (o2 x hx))) rfl
  obtain ⟨q5, hq5, k5, rfl⟩ := badStudent_res p.students s1 200 (.s (.func (.func 139) #[] #[])) (.clo (.func 140) [] [.rp p.P.cells]) VStudent.name (studentB p.courses.length) (fun x _ => App_fn k_problem_studentName (fun _ => rfl) (studentName_res x)) (fun x hx => App_clo k_problem_Check_5 (fun _ => rfl) (check5_res p x (s2 x hx))) rfl
  obtain ⟨q6, hq6, k6, rfl⟩ := badRule_res p.rules u1 60 (.clo (.func 143) [] [.rp p.P.cells]) (ruleB p.classes.length) (fun x hx => App_clo k_problem_Check_6 (fun _ => rfl) (check6_res p x (u2 x hx)))
  have hw := walkOk_res p.rooms.length r1 p.walk
  refine res_ex c_problem_Check (Nat.le_of_ble_eq_true rfl) ?_
  simp only [m_problem_Check, Oo, Ou, Og, Ci, Om, Of, Ol, Ok]
  have e24 : ((24 : Nat) : Int) = 24 := rfl
  have e40 : ((40 : Nat) : Int) = 40 := rfl
  have e16 : ((16 : Nat) : Int) = 16 := rfl
  have e200 : ((200 : Nat) : Int) = 200 := rfl
  have e60 : ((60 : Nat) : Int) = 60 := rfl
  rw [e24] at hq1 hq2
  rw [e40] at hq3
  rw [e16] at hq4
  rw [e200] at hq5
  rw [e60] at hq6
  repeat' (first | simp only [go_sem, Int.reduceLT, Int.reduceLE, Int.reduceNeg, Int.reduceEq, Nat.reduceAdd, Nat.reduceEqDiff, Nat.reduceLeDiff, Nat.reduceBEq, reduceIte, reduceCtorEq, q_room_Name, name_res, q_when_RightGrid, grid_res, q_problem_bad_api_Room_, hq1, q_room_RightWalk, hw, q_problem_bad_api_Person_, hq2, q_problem_bad_api_Class_, hq3, q_problem_bad_api_Course_, hq4, q_problem_bad_api_Student_, hq5, q_problem_bad_api_Rule_, hq6, q_problem_cost, pcost_res] | (with_reducible first | apply c1 | (first | apply c2 | apply c3) <;> (intro hc; simp only [hc]) | (first | apply c4 | apply c5) <;> (intro hc; rw [hc])))
  all_goals (refine ⟨_, _, rfl, ?_⟩; simp_all [probB, weighB])
set_option maxHeartbeats 2000000 in
theorem rcheck_res (p : VProblem) (hp : smP p) : ∃ q, res Tryz.prog G0 118 [p.P] = some q ∧ ∃ e k : Int, q = .tup [I e, I k] ∧ decide (e = 0) = probB p := by
  obtain ⟨⟨r1, r2⟩, ⟨p1, p2⟩, ⟨c1, c2⟩, ⟨o1, o2⟩, ⟨s1, s2⟩, ⟨u1, u2⟩⟩ := hp
  obtain ⟨q1, hq1, k1, rfl, hk1⟩ := rrooms_res p r1 (roomB p.grid) (fun x hx => rroom_res p.grid x (r2 x hx))
  obtain ⟨q2, hq2, k2, rfl, hk2⟩ := rpersons_res p p1 (personB p.grid) (fun x hx => rperson_res p.grid x (p2 x hx))
  obtain ⟨q3, hq3, k3, rfl, hk3⟩ := rclasses_res p c1 (classB p.grid p.rooms.length p.persons.length p.classes.length) (fun x hx => rclass_res p.grid _ _ _ x (c2 x hx))
  obtain ⟨q4, hq4, k4, rfl, hk4⟩ := rcourses_res p o1 (courseB p.classes.length) (fun x hx => rcourse_res _ x (o2 x hx))
  obtain ⟨q5, hq5, k5, rfl, hk5⟩ := rstudents_res p s1 (studentB p.courses.length) (fun x hx => rstudent_res _ x (s2 x hx))
  obtain ⟨q6, hq6, k6, rfl, hk6⟩ := rrules_res p u1 u2
  have hw := rwalkOk_res p.rooms.length r1 p.walk
  refine res_ex c_ref17_Check (Nat.le_of_ble_eq_true rfl) ?_
  simp only [m_ref17_Check, Oo, Ou, Og, Ci, Om, Of, Ol, Ok]
  repeat' (first | simp only [go_sem, Int.reduceLT, Int.reduceLE, Int.reduceNeg, Int.reduceEq, Nat.reduceAdd, Nat.reduceEqDiff, Nat.reduceLeDiff, Nat.reduceBEq, reduceIte, reduceCtorEq, q_ref11_Name, rname_res, q_ref09_RightGrid, rgrid_res, q_ref17_rooms, hq1, hk1, q_ref11_RightWalk, hw, q_ref17_persons, hq2, hk2, q_ref17_classes, hq3, hk3, q_ref17_courses, hq4, hk4, q_ref17_students, hq5, hk5, q_ref17_rules, hq6, hk6, q_ref17_weigh, rweigh_res] | (with_reducible first | apply c1 | (first | apply c2 | apply c3) <;> (intro hc; simp only [hc]) | (first | apply c4 | apply c5) <;> (intro hc; rw [hc])))
  all_goals (refine ⟨_, _, rfl, ?_⟩; simp_all [probB])
theorem prob_res (p : VProblem) (hp : smP p) : res Tryz.prog G0 53 [p.P] = some (B (probB p)) := by
  obtain ⟨q, hq, e, k, rfl, he⟩ := check_res p hp
  refine res_body c_problem_Right (Nat.le_of_ble_eq_true rfl) ?_
  simp only [m_problem_Right, Oo, Ou, Og, Ci, Om, Of, Ol, Ok]
  repeat' (first | simp only [go_sem, Int.reduceLT, Int.reduceLE, Int.reduceNeg, Int.reduceEq, Nat.reduceAdd, Nat.reduceEqDiff, Nat.reduceLeDiff, Nat.reduceBEq, reduceIte, reduceCtorEq, q_problem_Check, hq, he] | (with_reducible first | apply c1 | (first | apply c2 | apply c3) <;> (intro hc; simp only [hc]) | (first | apply c4 | apply c5) <;> (intro hc; rw [hc])))
theorem rprob_res (p : VProblem) (hp : smP p) : res Tryz.prog G0 81 [p.P] = some (B (probB p)) := by
  obtain ⟨q, hq, e, k, rfl, he⟩ := rcheck_res p hp
  refine res_body c_ref17_Right (Nat.le_of_ble_eq_true rfl) ?_
  simp only [m_ref17_Right, Oo, Ou, Og, Ci, Om, Of, Ol, Ok]
  repeat' (first | simp only [go_sem, Int.reduceLT, Int.reduceLE, Int.reduceNeg, Int.reduceEq, Nat.reduceAdd, Nat.reduceEqDiff, Nat.reduceLeDiff, Nat.reduceBEq, reduceIte, reduceCtorEq, q_ref17_Check, hq, he] | (with_reducible first | apply c1 | (first | apply c2 | apply c3) <;> (intro hc; simp only [hc]) | (first | apply c4 | apply c5) <;> (intro hc; rw [hc])))
end Go.Proofs.YtddmnddocbmjnaaGreat.Dv
