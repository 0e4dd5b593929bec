/- Part 14 of the proof: CrowdWeeks: whatever plain data comes in, the call returns true and leaves its arguments as they were. No condition. -/
import Derived.Test.YtddmnddocbmjnaaGreatPb13
import Derived.KernelRfl
set_option linter.all false
set_option linter.unusedVariables false
set_option linter.unusedSectionVars false
set_option linter.unusedSimpArgs false
namespace Go.Proofs.YtddmnddocbmjnaaGreat.Dv
def risP (n : Int) (l : List Int) : Prop := l.Pairwise (· < ·) ∧ ∀ x ∈ l, 0 ≤ x ∧ x < n
def risB (n : Int) (l : List Int) : Bool := decide (l.Pairwise (· < ·)) && l.all fun x => decide (0 ≤ x) && decide (x < n)
theorem risB_iff {n : Int} {l : List Int} : risB n l = true ↔ risP n l := by simp [risB, risP]
def lastI (l : List Int) : Int := l.getLast?.getD (-1)
theorem lastI_snoc {l : List Int} {x : Int} : lastI (l ++ [x]) = x := by simp [lastI]
theorem ris_snoc {n : Int} {l : List Int} {x : Int} : risP n (l ++ [x]) ↔ risP n l ∧ lastI l < x ∧ x < n := by
  simp only [risP, List.pairwise_append, List.mem_append, List.mem_singleton]
  rcases List.eq_nil_or_concat l with rfl | ⟨k, y, rfl⟩
  · simp [lastI]; omega
  · simp only [List.concat_eq_append, lastI_snoc, List.pairwise_append, List.mem_append, List.mem_singleton]
    constructor
    · rintro ⟨⟨h1, _, h2⟩, h3⟩
      exact ⟨⟨h1, fun z hz => h3 z (.inl hz)⟩, h2 y (.inr rfl) x rfl, (h3 x (.inr rfl)).2⟩
    · rintro ⟨⟨⟨h1, h2, h3⟩, h4⟩, h5, h6⟩
      refine ⟨⟨⟨h1, h2, h3⟩, by simp, ?_⟩, ?_⟩
      · rintro a (ha | rfl) b rfl
        · have := h3 a ha y rfl; omega
        · exact h5
      · rintro z (hz | rfl)
        · exact h4 z hz
        · have := h4 y (.inr rfl); omega
theorem ris_take {n : Int} {l : List Int} (h : risP n l) (i : Nat) : risP n (l.take i) := ⟨h.1.sublist (List.take_sublist i l), fun x hx => h.2 x (List.mem_of_mem_take hx)⟩
theorem ris_not {n : Int} {l : List Int} {i : Nat} {x : Int} (ht : l.take (i + 1) = l.take i ++ [x]) (h : ¬ (lastI (l.take i) < x ∧ x < n)) : risB n l = false := by
  cases hr : risB n l with
  | false => rfl
  | true =>
    have := ris_take (risB_iff.1 hr) (i + 1)
    rw [ht, ris_snoc] at this
    exact absurd this.2 h
def m_class_folk : MF := ⟨27, (.seq (.reg none [Oo 4 (.mov (.d (.p (.s (.bool false)))))]) (.seq (.reg none [Oo 5 (.mov (.d (Ci (-1))))]) (.seq (.seq (.reg none [Om 8 0, Ok 9 8, Oo 10 (.mov (.d (Ci 0)))]) (.block 0 (.loop (.seq (.reg none [Oo 11 (.iop .lss (.t 10) (.t 9))]) (.seq (.cond (.t 11) .skip (.exit 0)) (.seq (.block 1 (.seq (.reg none [Oo 12 (.iadrS 1 (.t 8) (.t 10)), Ol 13 12, Om 7 13]) (.seq (.seq (.reg none [Om 14 7, Om 15 5, Oo 16 (.iop .leq (.t 14) (.t 15)), Om 17 16, Og 18 17 false (.mov (.t 7)), Og 19 17 false (.mov (.t 1)), Og 20 17 false (.iop .geq (.t 18) (.t 19)), Oo 21 (.pick (.t 17) (.d (.p (.s (.bool true)))) (.t 20))]) (.cond (.t 21) (.seq (.reg none [Oo 4 (.mov (.d (.p (.s (.bool false)))))]) .ret) .skip)) (.reg none [Om 22 7, Om 5 22])))) (.reg none [Oo 23 (.iop .add (.t 10) (.d (Ci 1))), Om 10 23]))))))) (.seq (.reg none [Om 24 0, Ok 25 24, Oo 26 (.iop .leq (.t 25) (.d (Ci 4))), Om 4 26]) .ret)))), [.tmp 4]⟩
theorem c_class_folk : comp Tryz.prog G0 203 = some m_class_folk := by kernel_rfl
theorem q_class_folk : Q0 203 := mCall_pure rfl
def m_ref13_Rising : MF := ⟨41, (.seq (.reg none [Oo 4 (.mov (.d (.p (.s (.bool false)))))]) (.seq (.seq (.reg none [Oo 5 (.mov (.d (Ci 0)))]) (.block 0 (.loop (.seq (.seq (.reg none [Om 6 5, Om 7 0, Ok 8 7, Oo 9 (.iop .lss (.t 6) (.t 8))]) (.cond (.t 9) .skip (.exit 0))) (.seq (.block 1 (.seq (.reg (some #[0, 0, 3, 7, 15, 31, 63, 63, 255, 511, 63, 2047, 4095, 8191, 16383, 32767, 65535, 131071, 131071, 524287, 1048575, 131071, 131071, 4325375, 14811135, 31588351, 67108863, 134217727, 268435455]) [Om 12 0, Om 13 5, Oo 14 (.iadrS 1 (.t 12) (.t 13)), Ol 15 14, Oo 16 (.iop .lss (.t 15) (.d (Ci 0))), Om 17 16, Og 18 17 false (.mov (.t 0)), Og 19 17 false (.mov (.t 5)), Og 20 17 false (.iadrS 1 (.t 18) (.t 19)), Og 21 17 false (.load false 1 (.t 20)), Og 22 17 false (.mov (.t 1)), Og 23 17 false (.iop .geq (.t 21) (.t 22)), Oo 24 (.pick (.t 17) (.d (.p (.s (.bool true)))) (.t 23)), Om 25 24, Og 26 25 false (.mov (.t 5)), Og 27 25 false (.iop .gtr (.t 26) (.d (Ci 0))), Og 28 25 false (.mov (.t 27)), Og 29 28 true (.mov (.t 0)), Og 30 28 true (.mov (.t 5)), Og 31 28 true (.iadrS 1 (.t 29) (.t 30)), Og 32 28 true (.load false 1 (.t 31)), Og 33 28 true (.mov (.t 0)), Og 34 28 true (.mov (.t 5)), Og 35 28 true (.iop .sub (.t 34) (.d (Ci 1))), Og 36 28 true (.iadrS 1 (.t 33) (.t 35)), Og 37 28 true (.load false 1 (.t 36)), Og 38 28 true (.iop .leq (.t 32) (.t 37)), Og 39 25 false (.pick (.t 28) (.t 38) (.d (.p (.s (.bool false))))), Oo 40 (.pick (.t 25) (.d (.p (.s (.bool true)))) (.t 39))]) (.cond (.t 40) (.seq (.reg none [Oo 4 (.mov (.d (.p (.s (.bool false)))))]) .ret) .skip))) (.reg none [Om 10 5, Oo 11 (.iop .add (.t 10) (.d (Ci 1))), Om 5 11])))))) (.seq (.reg none [Oo 4 (.mov (.d (.p (.s (.bool true)))))]) .ret))), [.tmp 4]⟩
theorem c_ref13_Rising : comp Tryz.prog G0 233 = some m_ref13_Rising := by kernel_rfl
theorem q_ref13_Rising : Q0 233 := mCall_pure rfl
theorem folk_res (l : List Int) (hl : l.length ≤ 1048576) (n : Int) : res Tryz.prog G0 203 [L l, I n] = some (B (risB n l && decide ((l.length : Int) ≤ 4))) := by
  refine res_body c_class_folk (Nat.le_of_ble_eq_true rfl) ?_
  simp only [m_class_folk, Oo, Ou, Og, Ci, Om, Of, Ol, Ok]
  repeat' (first | simp only [go_sem, Int.reduceLT, Int.reduceLE, Int.reduceNeg, Int.reduceEq, Nat.reduceAdd, Nat.reduceEqDiff, Nat.reduceLeDiff, Nat.reduceBEq, reduceIte, reduceCtorEq] | (with_reducible first | apply c1 | (first | apply c2 | apply c3) <;> (intro hc; simp only [hc]) | (first | apply c4 | apply c5) <;> (intro hc; rw [hc])))
  refine X_for 10 l.length (fun i s => risP n (l.take i) ∧ s.t.get 5 = some (.p (.s (.int .i64 (lastI (l.take i)))))) 0 (by omega) ?_ (Nat.zero_le _) ⟨by simp [risP], by simp only [go_sem, Int.reduceLT, Int.reduceLE, Int.reduceNeg, Int.reduceEq, Nat.reduceAdd, Nat.reduceEqDiff, Nat.reduceLeDiff, Nat.reduceBEq, reduceIte, reduceCtorEq]; simp [lastI]⟩ ?_
  · simp only [go_sem, Int.reduceLT, Int.reduceLE, Int.reduceNeg, Int.reduceEq, Nat.reduceAdd, Nat.reduceEqDiff, Nat.reduceLeDiff, Nat.reduceBEq, reduceIte, reduceCtorEq]; rfl
  intro i t h nx hf hi0 hi h10 hj
  obtain ⟨hr, h5⟩ := hj
  dsimp only at h5
  have h0 := hf 0 rfl; simp only [PT.get_set, Nat.reduceEqDiff, if_true, if_false, reduceIte, PT.get_leaf] at h0; have h1 := hf 1 rfl; simp only [PT.get_set, Nat.reduceEqDiff, if_true, if_false, reduceIte, PT.get_leaf] at h1; have h8 := hf 8 rfl; simp only [PT.get_set, Nat.reduceEqDiff, if_true, if_false, reduceIte, PT.get_leaf] at h8; have h9 := hf 9 rfl; simp only [PT.get_set, Nat.reduceEqDiff, if_true, if_false, reduceIte, PT.get_leaf] at h9
  clear hf
  rcases Nat.lt_or_ge i l.length with hlt | hge
  · obtain ⟨x, hx, _, htk⟩ := get_dec (l := l) (i := i) (by simpa using hlt)
    have hdl : decide ((i : Int) < (l.length : Int)) = true := by simpa using hlt
    by_cases hb : lastI (l.take i) < x ∧ x < n
    · repeat' (first | simp only [go_sem, Int.reduceLT, Int.reduceLE, Int.reduceNeg, Int.reduceEq, Nat.reduceAdd, Nat.reduceEqDiff, Nat.reduceLeDiff, Nat.reduceBEq, reduceIte, reduceCtorEq, h0, h1, h5, h8, h9, h10, hx, hdl, show decide (x ≤ lastI (l.take i)) = false by (simp; omega), show decide (n ≤ x) = false by (simp; omega)] | (with_reducible first | apply c1 | (first | apply c2 | apply c3) <;> (intro hc; simp only [hc]) | (first | apply c4 | apply c5) <;> (intro hc; rw [hc])))
      refine ⟨hlt, ?_, ?_⟩
      · rw [htk]; exact ris_snoc.2 ⟨hr, hb⟩
      · rw [htk, lastI_snoc]
    · by_cases hb1 : x ≤ lastI (l.take i)
      · repeat' (first | simp only [go_sem, Int.reduceLT, Int.reduceLE, Int.reduceNeg, Int.reduceEq, Nat.reduceAdd, Nat.reduceEqDiff, Nat.reduceLeDiff, Nat.reduceBEq, reduceIte, reduceCtorEq, h0, h1, h5, h8, h9, h10, hx, hdl, show decide (x ≤ lastI (l.take i)) = true by simpa using hb1] | (with_reducible first | apply c1 | (first | apply c2 | apply c3) <;> (intro hc; simp only [hc]) | (first | apply c4 | apply c5) <;> (intro hc; rw [hc])))
        rw [ris_not htk hb]; rfl
      · repeat' (first | simp only [go_sem, Int.reduceLT, Int.reduceLE, Int.reduceNeg, Int.reduceEq, Nat.reduceAdd, Nat.reduceEqDiff, Nat.reduceLeDiff, Nat.reduceBEq, reduceIte, reduceCtorEq, h0, h1, h5, h8, h9, h10, hx, hdl, show decide (x ≤ lastI (l.take i)) = false by simpa using hb1, show decide (n ≤ x) = true by (simp; omega)] | (with_reducible first | apply c1 | (first | apply c2 | apply c3) <;> (intro hc; simp only [hc]) | (first | apply c4 | apply c5) <;> (intro hc; rw [hc])))
        rw [ris_not htk hb]; rfl
  · rw [List.take_of_length_le hge] at hr
    repeat' (first | simp only [go_sem, Int.reduceLT, Int.reduceLE, Int.reduceNeg, Int.reduceEq, Nat.reduceAdd, Nat.reduceEqDiff, Nat.reduceLeDiff, Nat.reduceBEq, reduceIte, reduceCtorEq, h0, h1, h5, h8, h9, h10, show decide ((i : Int) < (l.length : Int)) = false by simpa using hge] | (with_reducible first | apply c1 | (first | apply c2 | apply c3) <;> (intro hc; simp only [hc]) | (first | apply c4 | apply c5) <;> (intro hc; rw [hc])))
    rw [risB_iff.2 hr]; rfl
theorem rising_res (l : List Int) (hl : l.length ≤ 1048576) (n : Int) : res Tryz.prog G0 233 [L l, I n] = some (B (risB n l)) := by
  refine res_body c_ref13_Rising (Nat.le_of_ble_eq_true rfl) ?_
  simp only [m_ref13_Rising, Oo, Ou, Og, Ci, Om, Of, Ol, Ok]
  repeat' (first | simp only [go_sem, Int.reduceLT, Int.reduceLE, Int.reduceNeg, Int.reduceEq, Nat.reduceAdd, Nat.reduceEqDiff, Nat.reduceLeDiff, Nat.reduceBEq, reduceIte, reduceCtorEq] | (with_reducible first | apply c1 | (first | apply c2 | apply c3) <;> (intro hc; simp only [hc]) | (first | apply c4 | apply c5) <;> (intro hc; rw [hc])))
  refine X_for 5 l.length (fun i s => risP n (l.take i)) 0 (by omega) ?_ (Nat.zero_le _) (by simp [risP]) ?_
  · simp only [go_sem, Int.reduceLT, Int.reduceLE, Int.reduceNeg, Int.reduceEq, Nat.reduceAdd, Nat.reduceEqDiff, Nat.reduceLeDiff, Nat.reduceBEq, reduceIte, reduceCtorEq]; rfl
  intro i t h nx hf hi0 hi h5 hr
  have h0 := hf 0 rfl; simp only [PT.get_set, Nat.reduceEqDiff, if_true, if_false, reduceIte, PT.get_leaf] at h0; have h1 := hf 1 rfl; simp only [PT.get_set, Nat.reduceEqDiff, if_true, if_false, reduceIte, PT.get_leaf] at h1
  clear hf
  rcases Nat.lt_or_ge i l.length with hlt | hge
  · obtain ⟨x, hx, _, htk⟩ := get_dec (l := l) (i := i) (by simpa using hlt)
    have hdl : decide ((i : Int) < (l.length : Int)) = true := by simpa using hlt
    have nxt : lastI (l.take i) < x ∧ x < n → i < l.length ∧ risP n (l.take (i + 1)) := fun hb => ⟨hlt, by rw [htk]; exact ris_snoc.2 ⟨hr, hb⟩⟩
    have bad : ¬ (lastI (l.take i) < x ∧ x < n) → PDV.s (.bool false) = B (risB n l) := fun hb => by rw [ris_not htk hb]
    cases i with
    | zero =>
      simp only [List.take_zero, lastI, List.getLast?_nil, Option.getD_none] at nxt bad
      repeat' (first | simp only [go_sem, Int.reduceLT, Int.reduceLE, Int.reduceNeg, Int.reduceEq, Nat.reduceAdd, Nat.reduceEqDiff, Nat.reduceLeDiff, Nat.reduceBEq, reduceIte, reduceCtorEq, h0, h1, h5, hx, hdl, show decide (((0 : Nat) : Int) > 0) = false by simp] | (with_reducible first | apply c1 | (first | apply c2 | apply c3) <;> (intro hc; simp only [hc]) | (first | apply c4 | apply c5) <;> (intro hc; rw [hc])))
      all_goals first
        | (refine bad ?_; simp only [decide_eq_true_eq, decide_eq_false_iff_not] at *; omega)
        | (refine nxt ?_; simp only [decide_eq_true_eq, decide_eq_false_iff_not] at *; omega)
        | (exfalso; simp at *; omega)
    | succ k =>
      obtain ⟨y, hy, _, hyk⟩ := get_dec (l := l) (i := k) (by simp; omega)
      have hlast : lastI (l.take (k + 1)) = y := by rw [hyk, lastI_snoc]
      have hy0 : 0 ≤ y := (hr.2 y (by rw [hyk]; simp)).1
      rw [hlast] at nxt bad
      have hw : IntKind.wrap .i64 (((k + 1 : Nat) : Int) - 1) = (k : Int) := by rw [wrap_id (by omega) (by omega)]; omega
      repeat' (first | simp only [go_sem, Int.reduceLT, Int.reduceLE, Int.reduceNeg, Int.reduceEq, Nat.reduceAdd, Nat.reduceEqDiff, Nat.reduceLeDiff, Nat.reduceBEq, reduceIte, reduceCtorEq, h0, h1, h5, hx, hy, hdl, hw, show decide ((0 : Int) < ((k + 1 : Nat) : Int)) = true by (simp only [decide_eq_true_eq]; omega)] | (with_reducible first | apply c1 | (first | apply c2 | apply c3) <;> (intro hc; simp only [hc]) | (first | apply c4 | apply c5) <;> (intro hc; rw [hc])))
      all_goals first
        | (refine bad ?_; simp only [decide_eq_true_eq, decide_eq_false_iff_not] at *; omega)
        | (refine nxt ?_; simp only [decide_eq_true_eq, decide_eq_false_iff_not] at *; omega)
        | (exfalso; simp at *; omega)
  · rw [List.take_of_length_le hge] at hr
    repeat' (first | simp only [go_sem, Int.reduceLT, Int.reduceLE, Int.reduceNeg, Int.reduceEq, Nat.reduceAdd, Nat.reduceEqDiff, Nat.reduceLeDiff, Nat.reduceBEq, reduceIte, reduceCtorEq, h0, h1, h5, show decide ((i : Int) < (l.length : Int)) = false by simpa using hge] | (with_reducible first | apply c1 | (first | apply c2 | apply c3) <;> (intro hc; simp only [hc]) | (first | apply c4 | apply c5) <;> (intro hc; rw [hc])))
    rw [risB_iff.2 hr]
def m_class_cheap : MF := ⟨9, (.seq (.reg none [Oo 2 (.mov (.d (.p (.s (.bool false)))))]) (.seq (.reg none [Om 3 0, Oo 4 (.iop .geq (.t 3) (.d (Ci 0))), Om 5 4, Og 6 5 true (.mov (.t 0)), Og 7 5 true (.iop .leq (.t 6) (.d (Ci 1000))), Oo 8 (.pick (.t 5) (.t 7) (.d (.p (.s (.bool false))))), Om 2 8]) .ret)), [.tmp 2]⟩
theorem c_class_cheap : comp Tryz.prog G0 242 = some m_class_cheap := by kernel_rfl
theorem q_class_cheap : Q0 242 := mCall_pure rfl
def m_ref13_cost : MF := ⟨9, (.seq (.reg none [Oo 2 (.mov (.d (.p (.s (.bool false)))))]) (.seq (.reg none [Om 3 0, Oo 4 (.iop .geq (.t 3) (.d (Ci 0))), Om 5 4, Og 6 5 true (.mov (.t 0)), Og 7 5 true (.iop .leq (.t 6) (.d (Ci 1000))), Oo 8 (.pick (.t 5) (.t 7) (.d (.p (.s (.bool false))))), Om 2 8]) .ret)), [.tmp 2]⟩
theorem c_ref13_cost : comp Tryz.prog G0 275 = some m_ref13_cost := by kernel_rfl
theorem q_ref13_cost : Q0 275 := mCall_pure rfl
def costB (n : Int) : Bool := decide (0 ≤ n) && decide (n ≤ 1000)
theorem cheap_res (n : Int) : res Tryz.prog G0 242 [I n] = some (B (costB n)) := by
  refine res_body c_class_cheap (Nat.le_of_ble_eq_true rfl) ?_
  simp only [m_class_cheap, Oo, Ou, Og, Ci, Om, Of, Ol, Ok]
  repeat' (first | simp only [go_sem, Int.reduceLT, Int.reduceLE, Int.reduceNeg, Int.reduceEq, Nat.reduceAdd, Nat.reduceEqDiff, Nat.reduceLeDiff, Nat.reduceBEq, reduceIte, reduceCtorEq] | (with_reducible first | apply c1 | (first | apply c2 | apply c3) <;> (intro hc; simp only [hc]) | (first | apply c4 | apply c5) <;> (intro hc; rw [hc])))
  all_goals (try (rw [s_bool, Bool.eq_iff_iff]; (try simp only [Bool.and_eq_true, Bool.or_eq_true, Bool.and_eq_false_iff, Bool.or_eq_false_iff, Bool.not_eq_true', Bool.not_eq_false', decide_eq_true_eq, decide_eq_false_iff_not, Bool.true_eq_false, Bool.false_eq_true, iff_true, true_iff, iff_false, false_iff, and_true, true_and, and_false, false_and, ne_eq, Decidable.not_not, not_true_eq_false, not_false_eq_true, Int.natCast_eq_zero, costB] at *); first | done | omega | (simp_all; done) | (simp_all; omega)))
theorem rcost_res (n : Int) : res Tryz.prog G0 275 [I n] = some (B (costB n)) := by
  refine res_body c_ref13_cost (Nat.le_of_ble_eq_true rfl) ?_
  simp only [m_ref13_cost, Oo, Ou, Og, Ci, Om, Of, Ol, Ok]
  repeat' (first | simp only [go_sem, Int.reduceLT, Int.reduceLE, Int.reduceNeg, Int.reduceEq, Nat.reduceAdd, Nat.reduceEqDiff, Nat.reduceLeDiff, Nat.reduceBEq, reduceIte, reduceCtorEq] | (with_reducible first | apply c1 | (first | apply c2 | apply c3) <;> (intro hc; simp only [hc]) | (first | apply c4 | apply c5) <;> (intro hc; rw [hc])))
  all_goals (try (rw [s_bool, Bool.eq_iff_iff]; (try simp only [Bool.and_eq_true, Bool.or_eq_true, Bool.and_eq_false_iff, Bool.or_eq_false_iff, Bool.not_eq_true', Bool.not_eq_false', decide_eq_true_eq, decide_eq_false_iff_not, Bool.true_eq_false, Bool.false_eq_true, iff_true, true_iff, iff_false, false_iff, and_true, true_and, and_false, false_and, ne_eq, Decidable.not_not, not_true_eq_false, not_false_eq_true, Int.natCast_eq_zero, costB] at *); first | done | omega | (simp_all; done) | (simp_all; omega)))
def eachB {α β : Type} [DecidableEq β] (ok : α → Bool) (key : α → β) (l : List α) : Bool := l.all ok && nodupB (l.map key)
theorem each_bad {α β : Type} [DecidableEq β] {ok : α → Bool} {key : α → β} {l : List α} {x : α} (hx : x ∈ l) (h : ok x = false) : eachB ok key l = false := by
  have : l.all ok = false := by rw [List.all_eq_false]; exact ⟨x, hx, by simp [h]⟩
  simp [eachB, this]
theorem each_twice {α β : Type} [DecidableEq β] {ok : α → Bool} {key : α → β} {l : List α} {i : Nat} {x : α} (hx : l[i]? = some x) (h : key x ∈ (l.take i).map key) : eachB ok key l = false := by
  have : ¬ (l.map key).Nodup := by
    intro hn
    have e : l.map key = (l.take i).map key ++ (l.drop i).map key := by rw [← List.map_append, List.take_append_drop]
    rw [e, List.nodup_append] at hn
    have hd : key x ∈ (l.drop i).map key := by
      refine List.mem_map.2 ⟨x, ?_, rfl⟩
      refine List.mem_of_getElem? (i := 0) ?_
      rw [List.getElem?_drop]
      simpa using hx
    exact hn.2.2 _ h _ hd rfl
  have : nodupB (l.map key) = false := by
    cases hh : nodupB (l.map key) with
    | false => rfl
    | true => exact absurd (nodupB_iff.1 hh) this
  simp [eachB, this]
theorem each_ok {α β : Type} [DecidableEq β] {ok : α → Bool} {key : α → β} {l : List α} (h2 : ∀ x ∈ l, ok x = true) (h3 : (l.map key).Nodup) : eachB ok key l = true := by
  simp only [eachB, Bool.and_eq_true]
  exact ⟨List.all_eq_true.2 h2, nodupB_iff.2 h3⟩
theorem aop_when {n : Bool} {a b : VWhen} : aopX [0, 0, 0, 0] n (.p a.P) (.p b.P) = some (bl n (decide (a = b))) := by
  have := key_when.eq a b
  simp only [eqK, VWhen.P] at this
  simp only [aopX, VWhen.P, this, Option.map_some]
def m_class_times : MF := ⟨44, (.seq (.reg none [Oo 2 (.box (.t 0)), Oo 4 (.mov (.d (.p (.s (.bool false)))))]) (.seq (.reg none [Oo 8 .mkm, Om 5 8]) (.seq (.seq (.reg none [Om 9 1, Ok 10 9, Oo 11 (.mov (.d (Ci 0)))]) (.block 0 (.loop (.seq (.reg none [Oo 12 (.iop .lss (.t 11) (.t 10))]) (.seq (.cond (.t 12) .skip (.exit 0)) (.seq (.block 1 (.seq (.reg none [Oo 13 (.iadrS 5 (.t 9) (.t 11)), Oo 14 (.load true 5 (.t 13)), Oo 7 (.alloc [(.p (.s (.int .u32 0))), (.p (.s (.int .u8 0))), (Ci 0), (Ci 0), (Ci 0)]), Ou (.store 5 (.t 7) (.t 14))]) (.seq (.seq (.reg none [Oo 15 (.load true 3 (.t 2)), Of 16 0 7, Oo 17 (.load true 4 (.t 16)), Oo 18 (.call 161 [.t 15, .t 17]), Oo 19 (.un .not (.t 18)), Om 20 19, Og 21 20 false (.fadr 4 (.t 7)), Og 22 20 false (.load false 1 (.t 21)), Og 23 20 false (.call 242 [.t 22]), Og 24 20 false (.un .not (.t 23)), Oo 25 (.pick (.t 20) (.d (.p (.s (.bool true)))) (.t 24)), Om 26 25, Og 27 26 false (.mov (.t 5)), Og 28 26 false (.fadr 0 (.t 7)), Og 29 26 false (.load true 4 (.t 28)), Og 30 26 false (.lkp true [0, 0, 0, 0] (.p (.s (.bool false))) false (.t 27) (.t 29)), Oo 31 (.pick (.t 26) (.d (.p (.s (.bool true)))) (.t 30))]) (.cond (.t 31) (.seq (.reg none [Oo 4 (.mov (.d (.p (.s (.bool false)))))]) .ret) .skip)) (.reg none [Om 32 5, Of 33 0 7, Oo 34 (.load true 4 (.t 33)), Ou (.mup true [0, 0, 0, 0] (.t 32) (.t 34) (.d (.p (.s (.bool true)))))])))) (.reg none [Oo 35 (.iop .add (.t 11) (.d (Ci 1))), Om 11 35]))))))) (.seq (.reg none [Om 36 1, Ok 37 36, Oo 38 (.iop .gtr (.t 37) (.d (Ci 0))), Om 39 38, Og 40 39 true (.mov (.t 1)), Og 41 39 true (.lenL (.t 40)), Og 42 39 true (.iop .leq (.t 41) (.d (Ci 16))), Oo 43 (.pick (.t 39) (.t 42) (.d (.p (.s (.bool false))))), Om 4 43]) .ret)))), [.tmp 4]⟩
theorem c_class_times : comp Tryz.prog G0 204 = some m_class_times := by kernel_rfl
theorem q_class_times : Q0 204 := mCall_pure rfl
def m_ref13_times : MF := ⟨54, (.seq (.reg none [Oo 2 (.box (.t 0)), Oo 4 (.mov (.d (.p (.s (.bool false)))))]) (.seq (.seq (.reg none [Oo 5 (.mov (.d (Ci 0)))]) (.block 0 (.loop (.seq (.seq (.reg none [Om 7 5, Om 8 1, Ok 9 8, Oo 10 (.iop .lss (.t 7) (.t 9))]) (.cond (.t 10) .skip (.exit 0))) (.seq (.block 1 (.seq (.seq (.reg (some #[0, 0, 0, 6, 14, 30, 63, 127, 255, 511, 511, 2047, 4095, 8191, 16383, 32767, 65535]) [Oo 13 (.load true 3 (.t 2)), Om 14 1, Om 15 5, Oo 16 (.iadrS 5 (.t 14) (.t 15)), Of 17 0 16, Oo 18 (.load true 4 (.t 17)), Oo 19 (.call 220 [.t 13, .t 18]), Oo 20 (.un .not (.t 19)), Om 21 20, Og 22 21 false (.mov (.t 1)), Og 23 21 false (.mov (.t 5)), Og 24 21 false (.iadrS 5 (.t 22) (.t 23)), Og 25 21 false (.fadr 4 (.t 24)), Og 26 21 false (.load false 1 (.t 25)), Og 27 21 false (.call 275 [.t 26]), Og 28 21 false (.un .not (.t 27)), Oo 29 (.pick (.t 21) (.d (.p (.s (.bool true)))) (.t 28))]) (.cond (.t 29) (.seq (.reg none [Oo 4 (.mov (.d (.p (.s (.bool false)))))]) .ret) .skip)) (.seq (.reg none [Oo 6 (.mov (.d (Ci 0)))]) (.block 2 (.loop (.seq (.seq (.reg none [Om 30 6, Om 31 5, Oo 32 (.iop .lss (.t 30) (.t 31))]) (.cond (.t 32) .skip (.exit 2))) (.seq (.block 3 (.seq (.reg (some #[0, 0, 3, 7, 15, 0, 0, 96, 224, 480, 1023]) [Om 35 1, Om 36 6, Oo 37 (.iadrS 5 (.t 35) (.t 36)), Of 38 0 37, Oo 39 (.load true 4 (.t 38)), Om 40 1, Om 41 5, Oo 42 (.iadrS 5 (.t 40) (.t 41)), Of 43 0 42, Oo 44 (.load true 4 (.t 43)), Oo 45 (.aop [0, 0, 0, 0] false (.t 39) (.t 44))]) (.cond (.t 45) (.seq (.reg none [Oo 4 (.mov (.d (.p (.s (.bool false)))))]) .ret) .skip))) (.reg none [Om 33 6, Oo 34 (.iop .add (.t 33) (.d (Ci 1))), Om 6 34])))))))) (.reg none [Om 11 5, Oo 12 (.iop .add (.t 11) (.d (Ci 1))), Om 5 12])))))) (.seq (.reg none [Om 46 1, Ok 47 46, Oo 48 (.iop .geq (.t 47) (.d (Ci 1))), Om 49 48, Og 50 49 true (.mov (.t 1)), Og 51 49 true (.lenL (.t 50)), Og 52 49 true (.iop .leq (.t 51) (.d (Ci 16))), Oo 53 (.pick (.t 49) (.t 52) (.d (.p (.s (.bool false))))), Om 4 53]) .ret))), [.tmp 4]⟩
theorem c_ref13_times : comp Tryz.prog G0 260 = some m_ref13_times := by kernel_rfl
theorem q_ref13_times : Q0 260 := mCall_pure rfl
def m_class_places : MF := ⟨43, (.seq (.reg none [Oo 4 (.mov (.d (.p (.s (.bool false)))))]) (.seq (.reg none [Oo 8 .mkm, Om 5 8]) (.seq (.seq (.reg none [Om 9 1, Ok 10 9, Oo 11 (.mov (.d (Ci 0)))]) (.block 0 (.loop (.seq (.reg none [Oo 12 (.iop .lss (.t 11) (.t 10))]) (.seq (.cond (.t 12) .skip (.exit 0)) (.seq (.block 1 (.seq (.reg none [Oo 13 (.iadrS 2 (.t 9) (.t 11)), Oo 14 (.load true 2 (.t 13)), Oo 7 (.alloc [(Ci 0), (Ci 0)]), Ou (.store 2 (.t 7) (.t 14))]) (.seq (.seq (.reg none [Of 15 0 7, Ol 16 15, Oo 17 (.iop .lss (.t 16) (.d (Ci 0))), Om 18 17, Og 19 18 false (.fadr 0 (.t 7)), Og 20 18 false (.load false 1 (.t 19)), Og 21 18 false (.mov (.t 0)), Og 22 18 false (.iop .geq (.t 20) (.t 21)), Oo 23 (.pick (.t 18) (.d (.p (.s (.bool true)))) (.t 22)), Om 24 23, Og 25 24 false (.fadr 1 (.t 7)), Og 26 24 false (.load false 1 (.t 25)), Og 27 24 false (.call 242 [.t 26]), Og 28 24 false (.un .not (.t 27)), Oo 29 (.pick (.t 24) (.d (.p (.s (.bool true)))) (.t 28)), Om 30 29, Og 31 30 false (.mov (.t 5)), Og 32 30 false (.fadr 0 (.t 7)), Og 33 30 false (.load false 1 (.t 32)), Og 34 30 false (.lkp false [0] (.p (.s (.bool false))) false (.t 31) (.t 33)), Oo 35 (.pick (.t 30) (.d (.p (.s (.bool true)))) (.t 34))]) (.cond (.t 35) (.seq (.reg none [Oo 4 (.mov (.d (.p (.s (.bool false)))))]) .ret) .skip)) (.reg none [Om 36 5, Of 37 0 7, Ol 38 37, Ou (.mup false [0] (.t 36) (.t 38) (.d (.p (.s (.bool true)))))])))) (.reg none [Oo 39 (.iop .add (.t 11) (.d (Ci 1))), Om 11 39]))))))) (.seq (.reg none [Om 40 1, Ok 41 40, Oo 42 (.iop .leq (.t 41) (.d (Ci 12))), Om 4 42]) .ret)))), [.tmp 4]⟩
theorem c_class_places : comp Tryz.prog G0 205 = some m_class_places := by kernel_rfl
theorem q_class_places : Q0 205 := mCall_pure rfl
def m_ref13_places : MF := ⟨56, (.seq (.reg none [Oo 4 (.mov (.d (.p (.s (.bool false)))))]) (.seq (.seq (.reg none [Oo 5 (.mov (.d (Ci 0)))]) (.block 0 (.loop (.seq (.seq (.reg none [Om 7 5, Om 8 1, Ok 9 8, Oo 10 (.iop .lss (.t 7) (.t 9))]) (.cond (.t 10) .skip (.exit 0))) (.seq (.block 1 (.seq (.seq (.reg none [Om 13 1, Om 14 5, Oo 15 (.iadrS 2 (.t 13) (.t 14)), Of 16 0 15, Ol 17 16, Oo 18 (.iop .lss (.t 17) (.d (Ci 0))), Om 19 18, Og 20 19 false (.mov (.t 1)), Og 21 19 false (.mov (.t 5)), Og 22 19 false (.iadrS 2 (.t 20) (.t 21)), Og 23 19 false (.fadr 0 (.t 22)), Og 24 19 false (.load false 1 (.t 23)), Og 25 19 false (.mov (.t 0)), Og 26 19 false (.iop .geq (.t 24) (.t 25)), Oo 27 (.pick (.t 19) (.d (.p (.s (.bool true)))) (.t 26)), Om 28 27, Og 29 28 false (.mov (.t 1)), Og 30 28 false (.mov (.t 5)), Og 31 28 false (.iadrS 2 (.t 29) (.t 30)), Og 32 28 false (.fadr 1 (.t 31)), Og 33 28 false (.load false 1 (.t 32)), Og 34 28 false (.call 275 [.t 33]), Og 35 28 false (.un .not (.t 34)), Oo 36 (.pick (.t 28) (.d (.p (.s (.bool true)))) (.t 35))]) (.cond (.t 36) (.seq (.reg none [Oo 4 (.mov (.d (.p (.s (.bool false)))))]) .ret) .skip)) (.seq (.reg none [Oo 6 (.mov (.d (Ci 0)))]) (.block 2 (.loop (.seq (.seq (.reg none [Om 37 6, Om 38 5, Oo 39 (.iop .lss (.t 37) (.t 38))]) (.cond (.t 39) .skip (.exit 2))) (.seq (.block 3 (.seq (.reg (some #[0, 0, 3, 7, 15, 0, 0, 96, 224, 480, 1023]) [Om 42 1, Om 43 6, Oo 44 (.iadrS 2 (.t 42) (.t 43)), Of 45 0 44, Ol 46 45, Om 47 1, Om 48 5, Oo 49 (.iadrS 2 (.t 47) (.t 48)), Of 50 0 49, Ol 51 50, Oo 52 (.iop .eql (.t 46) (.t 51))]) (.cond (.t 52) (.seq (.reg none [Oo 4 (.mov (.d (.p (.s (.bool false)))))]) .ret) .skip))) (.reg none [Om 40 6, Oo 41 (.iop .add (.t 40) (.d (Ci 1))), Om 6 41])))))))) (.reg none [Om 11 5, Oo 12 (.iop .add (.t 11) (.d (Ci 1))), Om 5 12])))))) (.seq (.reg none [Om 53 1, Ok 54 53, Oo 55 (.iop .leq (.t 54) (.d (Ci 12))), Om 4 55]) .ret))), [.tmp 4]⟩
theorem c_ref13_places : comp Tryz.prog G0 261 = some m_ref13_places := by kernel_rfl
theorem q_ref13_places : Q0 261 := mCall_pure rfl
def timeB (g : VGrid) (t : VTime) : Bool := whenB g t.when && costB t.cost
def placeB (n : Int) (p : VPlace) : Bool := decide (0 ≤ p.room) && decide (p.room < n) && costB p.cost
def timesB (g : VGrid) (l : List VTime) : Bool := eachB (timeB g) VTime.when l && (decide ((1 : Int) ≤ l.length) && decide ((l.length : Int) ≤ 16))
def placesB (n : Int) (l : List VPlace) : Bool := eachB (placeB n) VPlace.room l && decide ((l.length : Int) ≤ 12)
theorem times_res (g : VGrid) (l : List VTime) (hl : l.length ≤ 1048576) : res Tryz.prog G0 204 [g.P, .lst (l.map VTime.P)] = some (B (timesB g l)) := by
  refine res_body c_class_times (Nat.le_of_ble_eq_true rfl) ?_
  simp only [m_class_times, Oo, Ou, Og, Ci, Om, Of, Ol, Ok]
  repeat' (first | simp only [go_sem, Int.reduceLT, Int.reduceLE, Int.reduceNeg, Int.reduceEq, Nat.reduceAdd, Nat.reduceEqDiff, Nat.reduceLeDiff, Nat.reduceBEq, reduceIte, reduceCtorEq] | (with_reducible first | apply c1 | (first | apply c2 | apply c3) <;> (intro hc; simp only [hc]) | (first | apply c4 | apply c5) <;> (intro hc; rw [hc])))
  refine X_for 11 l.length (fun i s => s.h.get 2 = some (.map (mapS VWhen.P ((l.take i).map VTime.when))) ∧ s.t.get 5 = some (.mm 2) ∧ ((l.take i).map VTime.when).Nodup ∧ (∀ x ∈ l.take i, timeB g x = true) ∧ s.h.get 0 = some (.cells (DV.cells (.p g.P)) false)) 0 (by omega) ?_ (Nat.zero_le _) ⟨by simp only [go_sem, Int.reduceLT, Int.reduceLE, Int.reduceNeg, Int.reduceEq, Nat.reduceAdd, Nat.reduceEqDiff, Nat.reduceLeDiff, Nat.reduceBEq, reduceIte, reduceCtorEq]; rfl, by simp only [go_sem, Int.reduceLT, Int.reduceLE, Int.reduceNeg, Int.reduceEq, Nat.reduceAdd, Nat.reduceEqDiff, Nat.reduceLeDiff, Nat.reduceBEq, reduceIte, reduceCtorEq], by simp, by simp, by simp only [go_sem, Int.reduceLT, Int.reduceLE, Int.reduceNeg, Int.reduceEq, Nat.reduceAdd, Nat.reduceEqDiff, Nat.reduceLeDiff, Nat.reduceBEq, reduceIte, reduceCtorEq]⟩ ?_
  · simp only [go_sem, Int.reduceLT, Int.reduceLE, Int.reduceNeg, Int.reduceEq, Nat.reduceAdd, Nat.reduceEqDiff, Nat.reduceLeDiff, Nat.reduceBEq, reduceIte, reduceCtorEq]; rfl
  intro i t h nx hf hi0 hi h11 hj
  obtain ⟨hh, h5, hnd, hok, hg⟩ := hj
  dsimp only at hh h5 hg
  have h1 := hf 1 rfl; simp only [PT.get_set, Nat.reduceEqDiff, if_true, if_false, reduceIte, PT.get_leaf] at h1; have h2 := hf 2 rfl; simp only [PT.get_set, Nat.reduceEqDiff, if_true, if_false, reduceIte, PT.get_leaf] at h2; have h9 := hf 9 rfl; simp only [PT.get_set, Nat.reduceEqDiff, if_true, if_false, reduceIte, PT.get_leaf] at h9; have h10 := hf 10 rfl; simp only [PT.get_set, Nat.reduceEqDiff, if_true, if_false, reduceIte, PT.get_leaf] at h10
  clear hf
  rcases Nat.lt_or_ge i l.length with hlt | hge
  · obtain ⟨x, hx, _, htk⟩ := get_dec (l := l) (i := i) (by simpa using hlt)
    have hm : x ∈ l := List.mem_of_getElem? hx
    have hdl : decide ((i : Int) < (l.length : Int)) = true := by simpa using hlt
    have bad : timeB g x = false → PDV.s (.bool false) = B (timesB g l) := fun hb => by simp [timesB, each_bad hm hb]
    cases hmem : memB x.when ((l.take i).map VTime.when) with
    | true =>
      have tw : PDV.s (.bool false) = B (timesB g l) := by simp [timesB, each_twice (ok := timeB g) hx (memB_iff.1 hmem)]
      repeat' (first | simp only [go_sem, Int.reduceLT, Int.reduceLE, Int.reduceNeg, Int.reduceEq, Nat.reduceAdd, Nat.reduceEqDiff, Nat.reduceLeDiff, Nat.reduceBEq, reduceIte, reduceCtorEq, h1, h2, h9, h10, h11, h5, hh, hx, hdl, hg, q_when_Right, when_res, q_class_cheap, cheap_res, lkp_when hnd, hmem] | (with_reducible first | apply c1 | (first | apply c2 | apply c3) <;> (intro hc; simp only [hc]) | (first | apply c4 | apply c5) <;> (intro hc; rw [hc])))
      all_goals exact tw
    | false =>
      repeat' (first | simp only [go_sem, Int.reduceLT, Int.reduceLE, Int.reduceNeg, Int.reduceEq, Nat.reduceAdd, Nat.reduceEqDiff, Nat.reduceLeDiff, Nat.reduceBEq, reduceIte, reduceCtorEq, h1, h2, h9, h10, h11, h5, hh, hx, hdl, hg, q_when_Right, when_res, q_class_cheap, cheap_res, lkp_when hnd, mup_when hnd (memB_not.1 hmem), hmem] | (with_reducible first | apply c1 | (first | apply c2 | apply c3) <;> (intro hc; simp only [hc]) | (first | apply c4 | apply c5) <;> (intro hc; rw [hc])))
      all_goals first
        | (refine bad ?_; simp_all [timeB]; done)
        | (refine bad ?_; simp_all [timeB]; omega)
        | (refine ⟨hlt, by rw [htk]; simp [mapS], by rw [htk, List.map_append, List.map_singleton]; exact nodup_snoc.2 ⟨hnd, memB_not.1 hmem⟩, fun y hy => ?_⟩
           rw [htk, List.mem_append, List.mem_singleton] at hy
           rcases hy with hy | rfl
           · exact hok y hy
           · simp_all [timeB])
  · have he : l.take i = l := List.take_of_length_le hge
    rw [he] at hnd hok
    have hE := each_ok hok hnd
    repeat' (first | simp only [go_sem, Int.reduceLT, Int.reduceLE, Int.reduceNeg, Int.reduceEq, Nat.reduceAdd, Nat.reduceEqDiff, Nat.reduceLeDiff, Nat.reduceBEq, reduceIte, reduceCtorEq, h1, h2, h9, h10, h11, h5, show decide ((i : Int) < (l.length : Int)) = false by simpa using hge] | (with_reducible first | apply c1 | (first | apply c2 | apply c3) <;> (intro hc; simp only [hc]) | (first | apply c4 | apply c5) <;> (intro hc; rw [hc])))
    all_goals (simp only [timesB, hE, s_bool]; simp_all; try omega)
theorem places_res (n : Int) (l : List VPlace) (hl : l.length ≤ 1048576) : res Tryz.prog G0 205 [I n, .lst (l.map VPlace.P)] = some (B (placesB n l)) := by
  refine res_body c_class_places (Nat.le_of_ble_eq_true rfl) ?_
  simp only [m_class_places, Oo, Ou, Og, Ci, Om, Of, Ol, Ok]
  repeat' (first | simp only [go_sem, Int.reduceLT, Int.reduceLE, Int.reduceNeg, Int.reduceEq, Nat.reduceAdd, Nat.reduceEqDiff, Nat.reduceLeDiff, Nat.reduceBEq, reduceIte, reduceCtorEq] | (with_reducible first | apply c1 | (first | apply c2 | apply c3) <;> (intro hc; simp only [hc]) | (first | apply c4 | apply c5) <;> (intro hc; rw [hc])))
  refine X_for 11 l.length (fun i s => s.h.get 1 = some (.map (mapS intP ((l.take i).map VPlace.room))) ∧ s.t.get 5 = some (.mm 1) ∧ ((l.take i).map VPlace.room).Nodup ∧ (∀ x ∈ l.take i, placeB n x = true)) 0 (by omega) ?_ (Nat.zero_le _) ⟨by simp only [go_sem, Int.reduceLT, Int.reduceLE, Int.reduceNeg, Int.reduceEq, Nat.reduceAdd, Nat.reduceEqDiff, Nat.reduceLeDiff, Nat.reduceBEq, reduceIte, reduceCtorEq]; rfl, by simp only [go_sem, Int.reduceLT, Int.reduceLE, Int.reduceNeg, Int.reduceEq, Nat.reduceAdd, Nat.reduceEqDiff, Nat.reduceLeDiff, Nat.reduceBEq, reduceIte, reduceCtorEq], by simp, by simp⟩ ?_
  · simp only [go_sem, Int.reduceLT, Int.reduceLE, Int.reduceNeg, Int.reduceEq, Nat.reduceAdd, Nat.reduceEqDiff, Nat.reduceLeDiff, Nat.reduceBEq, reduceIte, reduceCtorEq]; rfl
  intro i t h nx hf hi0 hi h11 hj
  obtain ⟨hh, h5, hnd, hok⟩ := hj
  dsimp only at hh h5
  have h0 := hf 0 rfl; simp only [PT.get_set, Nat.reduceEqDiff, if_true, if_false, reduceIte, PT.get_leaf] at h0; have h1 := hf 1 rfl; simp only [PT.get_set, Nat.reduceEqDiff, if_true, if_false, reduceIte, PT.get_leaf] at h1; have h9 := hf 9 rfl; simp only [PT.get_set, Nat.reduceEqDiff, if_true, if_false, reduceIte, PT.get_leaf] at h9; have h10 := hf 10 rfl; simp only [PT.get_set, Nat.reduceEqDiff, if_true, if_false, reduceIte, PT.get_leaf] at h10
  clear hf
  rcases Nat.lt_or_ge i l.length with hlt | hge
  · obtain ⟨x, hx, _, htk⟩ := get_dec (l := l) (i := i) (by simpa using hlt)
    have hm : x ∈ l := List.mem_of_getElem? hx
    have hdl : decide ((i : Int) < (l.length : Int)) = true := by simpa using hlt
    have bad : placeB n x = false → PDV.s (.bool false) = B (placesB n l) := fun hb => by simp [placesB, each_bad hm hb]
    cases hmem : memB x.room ((l.take i).map VPlace.room) with
    | true =>
      have tw : PDV.s (.bool false) = B (placesB n l) := by simp [placesB, each_twice (ok := placeB n) hx (memB_iff.1 hmem)]
      repeat' (first | simp only [go_sem, Int.reduceLT, Int.reduceLE, Int.reduceNeg, Int.reduceEq, Nat.reduceAdd, Nat.reduceEqDiff, Nat.reduceLeDiff, Nat.reduceBEq, reduceIte, reduceCtorEq, h0, h1, h9, h10, h11, h5, hh, hx, hdl, q_class_cheap, cheap_res, lkp_int hnd, hmem] | (with_reducible first | apply c1 | (first | apply c2 | apply c3) <;> (intro hc; simp only [hc]) | (first | apply c4 | apply c5) <;> (intro hc; rw [hc])))
      all_goals exact tw
    | false =>
      repeat' (first | simp only [go_sem, Int.reduceLT, Int.reduceLE, Int.reduceNeg, Int.reduceEq, Nat.reduceAdd, Nat.reduceEqDiff, Nat.reduceLeDiff, Nat.reduceBEq, reduceIte, reduceCtorEq, h0, h1, h9, h10, h11, h5, hh, hx, hdl, q_class_cheap, cheap_res, lkp_int hnd, mup_int hnd (memB_not.1 hmem), hmem] | (with_reducible first | apply c1 | (first | apply c2 | apply c3) <;> (intro hc; simp only [hc]) | (first | apply c4 | apply c5) <;> (intro hc; rw [hc])))
      all_goals first
        | (refine bad ?_; simp_all [placeB]; done)
        | (refine bad ?_; simp_all [placeB]; omega)
        | (refine ⟨hlt, by rw [htk]; simp [mapS], by rw [htk, List.map_append, List.map_singleton]; exact nodup_snoc.2 ⟨hnd, memB_not.1 hmem⟩, fun y hy => ?_⟩
           rw [htk, List.mem_append, List.mem_singleton] at hy
           rcases hy with hy | rfl
           · exact hok y hy
           · simp_all [placeB])
  · have he : l.take i = l := List.take_of_length_le hge
    rw [he] at hnd hok
    have hE := each_ok hok hnd
    repeat' (first | simp only [go_sem, Int.reduceLT, Int.reduceLE, Int.reduceNeg, Int.reduceEq, Nat.reduceAdd, Nat.reduceEqDiff, Nat.reduceLeDiff, Nat.reduceBEq, reduceIte, reduceCtorEq, h0, h1, h9, h10, h11, h5, show decide ((i : Int) < (l.length : Int)) = false by simpa using hge] | (with_reducible first | apply c1 | (first | apply c2 | apply c3) <;> (intro hc; simp only [hc]) | (first | apply c4 | apply c5) <;> (intro hc; rw [hc])))
    all_goals (simp only [placesB, hE, s_bool]; simp_all; try omega)
end Go.Proofs.YtddmnddocbmjnaaGreat.Dv
namespace Go.Proofs.YtddmnddocbmjnaaGreat.Dv
theorem rtimes_res (g : VGrid) (l : List VTime) (hl : l.length ≤ 1048576) : res Tryz.prog G0 260 [g.P, .lst (l.map VTime.P)] = some (B (timesB g l)) := by
  refine res_body c_ref13_times (Nat.le_of_ble_eq_true rfl) ?_
  simp only [m_ref13_times, Oo, Ou, Og, Ci, Om, Of, Ol, Ok]
  repeat' (first | simp only [go_sem, Int.reduceLT, Int.reduceLE, Int.reduceNeg, Int.reduceEq, Nat.reduceAdd, Nat.reduceEqDiff, Nat.reduceLeDiff, Nat.reduceBEq, reduceIte, reduceCtorEq] | (with_reducible first | apply c1 | (first | apply c2 | apply c3) <;> (intro hc; simp only [hc]) | (first | apply c4 | apply c5) <;> (intro hc; rw [hc])))
  refine X_for 5 l.length (fun i s => ((l.take i).map VTime.when).Nodup ∧ (∀ x ∈ l.take i, timeB g x = true) ∧ s.h.get 0 = some (.cells (DV.cells (.p g.P)) false)) 0 (by omega) ?_ (Nat.zero_le _) ⟨by simp, by simp, by simp only [go_sem, Int.reduceLT, Int.reduceLE, Int.reduceNeg, Int.reduceEq, Nat.reduceAdd, Nat.reduceEqDiff, Nat.reduceLeDiff, Nat.reduceBEq, reduceIte, reduceCtorEq]⟩ ?_
  · simp only [go_sem, Int.reduceLT, Int.reduceLE, Int.reduceNeg, Int.reduceEq, Nat.reduceAdd, Nat.reduceEqDiff, Nat.reduceLeDiff, Nat.reduceBEq, reduceIte, reduceCtorEq]; rfl
  intro i t h nx hf hi0 hi h5 hj
  obtain ⟨hnd, hok, hg⟩ := hj
  dsimp only at hg
  have h1 := hf 1 rfl; simp only [PT.get_set, Nat.reduceEqDiff, if_true, if_false, reduceIte, PT.get_leaf] at h1; have h2 := hf 2 rfl; simp only [PT.get_set, Nat.reduceEqDiff, if_true, if_false, reduceIte, PT.get_leaf] at h2
  clear hf
  rcases Nat.lt_or_ge i l.length with hlt | hge
  · obtain ⟨x, hx, _, htk⟩ := get_dec (l := l) (i := i) (by simpa using hlt)
    have hm : x ∈ l := List.mem_of_getElem? hx
    have hdl : decide ((i : Int) < (l.length : Int)) = true := by simpa using hlt
    cases hox : timeB g x with
    | false =>
      have bad : PDV.s (.bool false) = B (timesB g l) := by simp [timesB, each_bad hm hox]
      repeat' (first | simp only [go_sem, Int.reduceLT, Int.reduceLE, Int.reduceNeg, Int.reduceEq, Nat.reduceAdd, Nat.reduceEqDiff, Nat.reduceLeDiff, Nat.reduceBEq, reduceIte, reduceCtorEq, h1, h2, h5, hx, hdl, q_ref09_Right, rwhen_res, q_ref13_cost, rcost_res, hg] | (with_reducible first | apply c1 | (first | apply c2 | apply c3) <;> (intro hc; simp only [hc]) | (first | apply c4 | apply c5) <;> (intro hc; rw [hc])))
      all_goals first
        | exact bad
        | (exfalso; simp_all [timeB]; done)
        | (exfalso; simp_all [timeB]; omega)
    | true =>
      have hox' := hox
      simp only [timeB, Bool.and_eq_true, decide_eq_true_eq] at hox'
      repeat' (first | simp only [go_sem, Int.reduceLT, Int.reduceLE, Int.reduceNeg, Int.reduceEq, Nat.reduceAdd, Nat.reduceEqDiff, Nat.reduceLeDiff, Nat.reduceBEq, reduceIte, reduceCtorEq, h1, h2, h5, hx, hdl, q_ref09_Right, rwhen_res, q_ref13_cost, rcost_res, hg, hox'.1, hox'.2] | (with_reducible first | apply c1 | (first | apply c2 | apply c3) <;> (intro hc; simp only [hc]) | (first | apply c4 | apply c5) <;> (intro hc; rw [hc])))
      refine X_for 6 i (fun k s => (∀ y ∈ l.take k, y.when ≠ x.when) ∧ s.h.get 0 = some (.cells (DV.cells (.p g.P)) false)) 0 (by omega) ?_ (Nat.zero_le _) ⟨by simp, by simp only [go_sem, Int.reduceLT, Int.reduceLE, Int.reduceNeg, Int.reduceEq, Nat.reduceAdd, Nat.reduceEqDiff, Nat.reduceLeDiff, Nat.reduceBEq, reduceIte, reduceCtorEq, hg]⟩ ?_
      · simp only [go_sem, Int.reduceLT, Int.reduceLE, Int.reduceNeg, Int.reduceEq, Nat.reduceAdd, Nat.reduceEqDiff, Nat.reduceLeDiff, Nat.reduceBEq, reduceIte, reduceCtorEq]; rfl
      intro k t' h' nx' hf hk0 hk h6 hj
      obtain ⟨hj, hg⟩ := hj
      dsimp only at hg
      have f1 := hf 1 rfl; have f2 := hf 2 rfl; have f5 := hf 5 rfl
      simp only [PT.get_set, Nat.reduceEqDiff, if_false, h1, h2, h5] at f1 f2 f5
      clear hf
      rcases Nat.lt_or_ge k i with hki | hki
      · obtain ⟨y, hy, _, hty⟩ := get_dec (l := l) (i := k) (by simp; omega)
        have hdk : decide ((k : Int) < (i : Int)) = true := by simp; omega
        by_cases hxy : y.when = x.when
        · have bad : PDV.s (.bool false) = B (timesB g l) := by
            have := each_twice (ok := timeB g) (key := VTime.when) hx (by
              rw [← hxy]
              exact List.mem_map.2 ⟨y, List.mem_of_getElem? (i := k) (by rw [List.getElem?_take]; simp [hki, hy]), rfl⟩)
            simp [timesB, this]
          repeat' (first | simp only [go_sem, Int.reduceLT, Int.reduceLE, Int.reduceNeg, Int.reduceEq, Nat.reduceAdd, Nat.reduceEqDiff, Nat.reduceLeDiff, Nat.reduceBEq, reduceIte, reduceCtorEq, f1, f2, f5, hg, h6, hdk, hx, hy, aop_when, show decide (y.when = x.when) = true by simp [hxy]] | (with_reducible first | apply c1 | (first | apply c2 | apply c3) <;> (intro hc; simp only [hc]) | (first | apply c4 | apply c5) <;> (intro hc; rw [hc])))
          all_goals exact bad
        · repeat' (first | simp only [go_sem, Int.reduceLT, Int.reduceLE, Int.reduceNeg, Int.reduceEq, Nat.reduceAdd, Nat.reduceEqDiff, Nat.reduceLeDiff, Nat.reduceBEq, reduceIte, reduceCtorEq, f1, f2, f5, hg, h6, hdk, hx, hy, aop_when, show decide (y.when = x.when) = false by simp [hxy]] | (with_reducible first | apply c1 | (first | apply c2 | apply c3) <;> (intro hc; simp only [hc]) | (first | apply c4 | apply c5) <;> (intro hc; rw [hc])))
          refine ⟨hki, fun z hz => ?_⟩
          rw [hty, List.mem_append, List.mem_singleton] at hz
          rcases hz with hz | rfl
          · exact hj z hz
          · exact hxy
      · have hki' : k = i := by omega
        rw [hki'] at hj
        repeat' (first | simp only [go_sem, Int.reduceLT, Int.reduceLE, Int.reduceNeg, Int.reduceEq, Nat.reduceAdd, Nat.reduceEqDiff, Nat.reduceLeDiff, Nat.reduceBEq, reduceIte, reduceCtorEq, f1, f2, f5, hg, h6, show decide ((k : Int) < (i : Int)) = false by (simp; omega)] | (with_reducible first | apply c1 | (first | apply c2 | apply c3) <;> (intro hc; simp only [hc]) | (first | apply c4 | apply c5) <;> (intro hc; rw [hc])))
        refine ⟨hlt, ?_, ?_⟩
        · rw [htk, List.map_append, List.map_singleton]
          refine nodup_snoc.2 ⟨hnd, fun hm => ?_⟩
          obtain ⟨y, hy1, hy2⟩ := List.mem_map.1 hm
          exact hj y hy1 hy2
        · intro b hb
          rw [htk, List.mem_append, List.mem_singleton] at hb
          rcases hb with hb | rfl
          · exact hok b hb
          · exact hox
  · have he : l.take i = l := List.take_of_length_le hge
    rw [he] at hnd hok
    have hE := each_ok hok hnd
    repeat' (first | simp only [go_sem, Int.reduceLT, Int.reduceLE, Int.reduceNeg, Int.reduceEq, Nat.reduceAdd, Nat.reduceEqDiff, Nat.reduceLeDiff, Nat.reduceBEq, reduceIte, reduceCtorEq, h1, h2, h5, show decide ((i : Int) < (l.length : Int)) = false by simpa using hge] | (with_reducible first | apply c1 | (first | apply c2 | apply c3) <;> (intro hc; simp only [hc]) | (first | apply c4 | apply c5) <;> (intro hc; rw [hc])))
    all_goals (simp only [timesB, hE, s_bool]; simp_all; try omega)
theorem rplaces_res (n : Int) (l : List VPlace) (hl : l.length ≤ 1048576) : res Tryz.prog G0 261 [I n, .lst (l.map VPlace.P)] = some (B (placesB n l)) := by
  refine res_body c_ref13_places (Nat.le_of_ble_eq_true rfl) ?_
  simp only [m_ref13_places, Oo, Ou, Og, Ci, Om, Of, Ol, Ok]
  repeat' (first | simp only [go_sem, Int.reduceLT, Int.reduceLE, Int.reduceNeg, Int.reduceEq, Nat.reduceAdd, Nat.reduceEqDiff, Nat.reduceLeDiff, Nat.reduceBEq, reduceIte, reduceCtorEq] | (with_reducible first | apply c1 | (first | apply c2 | apply c3) <;> (intro hc; simp only [hc]) | (first | apply c4 | apply c5) <;> (intro hc; rw [hc])))
  refine X_for 5 l.length (fun i s => ((l.take i).map VPlace.room).Nodup ∧ (∀ x ∈ l.take i, placeB n x = true)) 0 (by omega) ?_ (Nat.zero_le _) ⟨by simp, by simp⟩ ?_
  · simp only [go_sem, Int.reduceLT, Int.reduceLE, Int.reduceNeg, Int.reduceEq, Nat.reduceAdd, Nat.reduceEqDiff, Nat.reduceLeDiff, Nat.reduceBEq, reduceIte, reduceCtorEq]; rfl
  intro i t h nx hf hi0 hi h5 hj
  obtain ⟨hnd, hok⟩ := hj
  skip
  have h0 := hf 0 rfl; simp only [PT.get_set, Nat.reduceEqDiff, if_true, if_false, reduceIte, PT.get_leaf] at h0; have h1 := hf 1 rfl; simp only [PT.get_set, Nat.reduceEqDiff, if_true, if_false, reduceIte, PT.get_leaf] at h1
  clear hf
  rcases Nat.lt_or_ge i l.length with hlt | hge
  · obtain ⟨x, hx, _, htk⟩ := get_dec (l := l) (i := i) (by simpa using hlt)
    have hm : x ∈ l := List.mem_of_getElem? hx
    have hdl : decide ((i : Int) < (l.length : Int)) = true := by simpa using hlt
    cases hox : placeB n x with
    | false =>
      have bad : PDV.s (.bool false) = B (placesB n l) := by simp [placesB, each_bad hm hox]
      repeat' (first | simp only [go_sem, Int.reduceLT, Int.reduceLE, Int.reduceNeg, Int.reduceEq, Nat.reduceAdd, Nat.reduceEqDiff, Nat.reduceLeDiff, Nat.reduceBEq, reduceIte, reduceCtorEq, h0, h1, h5, hx, hdl, q_ref13_cost, rcost_res] | (with_reducible first | apply c1 | (first | apply c2 | apply c3) <;> (intro hc; simp only [hc]) | (first | apply c4 | apply c5) <;> (intro hc; rw [hc])))
      all_goals first
        | exact bad
        | (exfalso; simp_all [placeB]; done)
        | (exfalso; simp_all [placeB]; omega)
    | true =>
      have hox' := hox
      simp only [placeB, Bool.and_eq_true, decide_eq_true_eq] at hox'
      repeat' (first | simp only [go_sem, Int.reduceLT, Int.reduceLE, Int.reduceNeg, Int.reduceEq, Nat.reduceAdd, Nat.reduceEqDiff, Nat.reduceLeDiff, Nat.reduceBEq, reduceIte, reduceCtorEq, h0, h1, h5, hx, hdl, q_ref13_cost, rcost_res, hox'.2, show decide (x.room < 0) = false by (simp; omega), show decide (n ≤ x.room) = false by (simp; omega)] | (with_reducible first | apply c1 | (first | apply c2 | apply c3) <;> (intro hc; simp only [hc]) | (first | apply c4 | apply c5) <;> (intro hc; rw [hc])))
      refine X_for 6 i (fun k s => (∀ y ∈ l.take k, y.room ≠ x.room)) 0 (by omega) ?_ (Nat.zero_le _) (by simp) ?_
      · simp only [go_sem, Int.reduceLT, Int.reduceLE, Int.reduceNeg, Int.reduceEq, Nat.reduceAdd, Nat.reduceEqDiff, Nat.reduceLeDiff, Nat.reduceBEq, reduceIte, reduceCtorEq]; rfl
      intro k t' h' nx' hf hk0 hk h6 hj
      skip
      have f0 := hf 0 rfl; have f1 := hf 1 rfl; have f5 := hf 5 rfl
      simp only [PT.get_set, Nat.reduceEqDiff, if_false, h0, h1, h5] at f0 f1 f5
      clear hf
      rcases Nat.lt_or_ge k i with hki | hki
      · obtain ⟨y, hy, _, hty⟩ := get_dec (l := l) (i := k) (by simp; omega)
        have hdk : decide ((k : Int) < (i : Int)) = true := by simp; omega
        by_cases hxy : y.room = x.room
        · have bad : PDV.s (.bool false) = B (placesB n l) := by
            have := each_twice (ok := placeB n) (key := VPlace.room) hx (by
              rw [← hxy]
              exact List.mem_map.2 ⟨y, List.mem_of_getElem? (i := k) (by rw [List.getElem?_take]; simp [hki, hy]), rfl⟩)
            simp [placesB, this]
          repeat' (first | simp only [go_sem, Int.reduceLT, Int.reduceLE, Int.reduceNeg, Int.reduceEq, Nat.reduceAdd, Nat.reduceEqDiff, Nat.reduceLeDiff, Nat.reduceBEq, reduceIte, reduceCtorEq, f0, f1, f5, h6, hdk, hx, hy, aop_when, show decide (y.room = x.room) = true by simp [hxy]] | (with_reducible first | apply c1 | (first | apply c2 | apply c3) <;> (intro hc; simp only [hc]) | (first | apply c4 | apply c5) <;> (intro hc; rw [hc])))
          all_goals exact bad
        · repeat' (first | simp only [go_sem, Int.reduceLT, Int.reduceLE, Int.reduceNeg, Int.reduceEq, Nat.reduceAdd, Nat.reduceEqDiff, Nat.reduceLeDiff, Nat.reduceBEq, reduceIte, reduceCtorEq, f0, f1, f5, h6, hdk, hx, hy, aop_when, show decide (y.room = x.room) = false by simp [hxy]] | (with_reducible first | apply c1 | (first | apply c2 | apply c3) <;> (intro hc; simp only [hc]) | (first | apply c4 | apply c5) <;> (intro hc; rw [hc])))
          refine ⟨hki, fun z hz => ?_⟩
          rw [hty, List.mem_append, List.mem_singleton] at hz
          rcases hz with hz | rfl
          · exact hj z hz
          · exact hxy
      · have hki' : k = i := by omega
        rw [hki'] at hj
        repeat' (first | simp only [go_sem, Int.reduceLT, Int.reduceLE, Int.reduceNeg, Int.reduceEq, Nat.reduceAdd, Nat.reduceEqDiff, Nat.reduceLeDiff, Nat.reduceBEq, reduceIte, reduceCtorEq, f0, f1, f5, h6, show decide ((k : Int) < (i : Int)) = false by (simp; omega)] | (with_reducible first | apply c1 | (first | apply c2 | apply c3) <;> (intro hc; simp only [hc]) | (first | apply c4 | apply c5) <;> (intro hc; rw [hc])))
        refine ⟨hlt, ?_, ?_⟩
        · rw [htk, List.map_append, List.map_singleton]
          refine nodup_snoc.2 ⟨hnd, fun hm => ?_⟩
          obtain ⟨y, hy1, hy2⟩ := List.mem_map.1 hm
          exact hj y hy1 hy2
        · intro b hb
          rw [htk, List.mem_append, List.mem_singleton] at hb
          rcases hb with hb | rfl
          · exact hok b hb
          · exact hox
  · have he : l.take i = l := List.take_of_length_le hge
    rw [he] at hnd hok
    have hE := each_ok hok hnd
    repeat' (first | simp only [go_sem, Int.reduceLT, Int.reduceLE, Int.reduceNeg, Int.reduceEq, Nat.reduceAdd, Nat.reduceEqDiff, Nat.reduceLeDiff, Nat.reduceBEq, reduceIte, reduceCtorEq, h0, h1, h5, show decide ((i : Int) < (l.length : Int)) = false by simpa using hge] | (with_reducible first | apply c1 | (first | apply c2 | apply c3) <;> (intro hc; simp only [hc]) | (first | apply c4 | apply c5) <;> (intro hc; rw [hc])))
    all_goals (simp only [placesB, hE, s_bool]; simp_all; try omega)
def m_class_Right : MF := ⟨57, (.seq (.reg none [Oo 5 (.box (.t 0)), Oo 9 (.box (.t 4)), Oo 10 (.mov (.d (.p (.s (.bool false)))))]) (.seq (.seq (.reg none [Oo 11 (.load true 3 (.t 5)), Oo 12 (.call 120 [.t 11]), Oo 13 (.un .not (.t 12)), Om 14 13, Og 15 14 false (.fadr 0 (.t 9)), Og 16 14 false (.load false 1 (.t 15)), Og 17 14 false (.call 119 [.t 16]), Og 18 14 false (.un .not (.t 17)), Oo 19 (.pick (.t 14) (.d (.p (.s (.bool true)))) (.t 18)), Om 20 19, Og 21 20 false (.fadr 1 (.t 9)), Og 22 20 false (.load false 1 (.t 21)), Og 23 20 false (.iop .lss (.t 22) (.d (Ci 0))), Oo 24 (.pick (.t 20) (.d (.p (.s (.bool true)))) (.t 23)), Om 25 24, Og 26 25 false (.fadr 1 (.t 9)), Og 27 25 false (.load false 1 (.t 26)), Og 28 25 false (.iop .gtr (.t 27) (.d (Ci 10000))), Oo 29 (.pick (.t 25) (.d (.p (.s (.bool true)))) (.t 28)), Om 30 29, Og 31 30 false (.fadr 6 (.t 9)), Og 32 30 false (.load false 1 (.t 31)), Og 33 30 false (.iop .lss (.t 32) (.d (Ci (-1)))), Oo 34 (.pick (.t 30) (.d (.p (.s (.bool true)))) (.t 33)), Om 35 34, Og 36 35 false (.fadr 6 (.t 9)), Og 37 35 false (.load false 1 (.t 36)), Og 38 35 false (.mov (.t 3)), Og 39 35 false (.iop .geq (.t 37) (.t 38)), Oo 40 (.pick (.t 35) (.d (.p (.s (.bool true)))) (.t 39))]) (.cond (.t 40) (.seq (.reg none [Oo 10 (.mov (.d (.p (.s (.bool false)))))]) .ret) .skip)) (.seq (.reg none [Of 41 3 9, Ol 42 41, Om 43 2, Oo 44 (.call 203 [.t 42, .t 43]), Om 45 44, Og 46 45 true (.load true 3 (.t 5)), Og 47 45 true (.fadr 4 (.t 9)), Og 48 45 true (.load false 1 (.t 47)), Og 49 45 true (.call 204 [.t 46, .t 48]), Oo 50 (.pick (.t 45) (.t 49) (.d (.p (.s (.bool false))))), Om 51 50, Og 52 51 true (.mov (.t 1)), Og 53 51 true (.fadr 5 (.t 9)), Og 54 51 true (.load false 1 (.t 53)), Og 55 51 true (.call 205 [.t 52, .t 54]), Oo 56 (.pick (.t 51) (.t 55) (.d (.p (.s (.bool false))))), Om 10 56]) .ret))), [.tmp 10]⟩
theorem c_class_Right : comp Tryz.prog G0 133 = some m_class_Right := by kernel_rfl
theorem q_class_Right : Q0 133 := mCall_pure rfl
def classB (g : VGrid) (nr np nc : Int) (c : VClass) : Bool := gridB g && nameB c.name && decide (0 ≤ c.seats) && decide (c.seats ≤ 10000) && decide (-1 ≤ c.over) && decide (c.over < nc) && (risB np c.persons && decide ((c.persons.length : Int) ≤ 4)) && timesB g c.times && placesB nr c.places
def smC (c : VClass) : Prop := c.persons.length ≤ 1048576 ∧ c.times.length ≤ 1048576 ∧ c.places.length ≤ 1048576
theorem class_res (g : VGrid) (nr np nc : Int) (c : VClass) (hc : smC c) : res Tryz.prog G0 133 [g.P, I nr, I np, I nc, c.P] = some (B (classB g nr np nc c)) := by
  obtain ⟨s1, s2, s3⟩ := hc
  refine res_body c_class_Right (Nat.le_of_ble_eq_true rfl) ?_
  simp only [m_class_Right, Oo, Ou, Og, Ci, Om, Of, Ol, Ok]
  repeat' (first | simp only [go_sem, Int.reduceLT, Int.reduceLE, Int.reduceNeg, Int.reduceEq, Nat.reduceAdd, Nat.reduceEqDiff, Nat.reduceLeDiff, Nat.reduceBEq, reduceIte, reduceCtorEq, q_when_RightGrid, grid_res, q_room_Name, name_res, q_class_folk, folk_res c.persons s1 np, q_class_times, times_res g c.times s2, q_class_places, places_res nr c.places s3] | (with_reducible first | apply c1 | (first | apply c2 | apply c3) <;> (intro hc; simp only [hc]) | (first | apply c4 | apply c5) <;> (intro hc; rw [hc])))
  all_goals (simp only [classB, s_bool]; simp_all)
  all_goals (try (intros; exfalso; omega))
  all_goals (intro a b; exfalso; have := hc a; omega)
theorem rclass_res (g : VGrid) (nr np nc : Int) (c : VClass) (hc : smC c) : res Tryz.prog G0 238 [g.P, I nr, I np, I nc, c.P] = some (B (classB g nr np nc c)) := by
  obtain ⟨s1, s2, s3⟩ := hc
  refine res_body c_ref13_Right (Nat.le_of_ble_eq_true rfl) ?_
  simp only [m_ref13_Right, Oo, Ou, Og, Ci, Om, Of, Ol, Ok]
  repeat' (first | simp only [go_sem, Int.reduceLT, Int.reduceLE, Int.reduceNeg, Int.reduceEq, Nat.reduceAdd, Nat.reduceEqDiff, Nat.reduceLeDiff, Nat.reduceBEq, reduceIte, reduceCtorEq, q_ref09_RightGrid, rgrid_res, q_ref11_Name, rname_res, q_ref13_Rising, rising_res c.persons s1 np, q_ref13_times, rtimes_res g c.times s2, q_ref13_places, rplaces_res nr c.places s3] | (with_reducible first | apply c1 | (first | apply c2 | apply c3) <;> (intro hc; simp only [hc]) | (first | apply c4 | apply c5) <;> (intro hc; rw [hc])))
  all_goals (simp only [classB, s_bool]; simp_all)
  all_goals (try (intros; exfalso; omega))
  all_goals (intro a b; exfalso; have := hc a; omega)
end Go.Proofs.YtddmnddocbmjnaaGreat.Dv
