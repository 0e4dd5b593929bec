/- Part 15 of the proof: CrowdWeeks: whatever plain data comes in, the call returns true and leaves its arguments as they were. No condition. -/
import Derived.Test.YtddmnddocbmjnaaGreatPb14
import Derived.KernelRfl
set_option linter.all false
set_option linter.unusedVariables false
set_option linter.unusedSectionVars false
set_option linter.unusedSimpArgs false
namespace Go.Proofs.YtddmnddocbmjnaaGreat.Dv
def m_ref14_Has : MF := ⟨18, (.seq (.reg none [Oo 4 (.mov (.d (.p (.s (.bool false)))))]) (.seq (.seq (.reg none [Oo 5 (.mov (.d (Ci 0)))]) (.block 0 (.loop (.seq (.seq (.reg none [Om 6 5, Om 7 0, Ok 8 7, Oo 9 (.iop .lss (.t 6) (.t 8))]) (.cond (.t 9) .skip (.exit 0))) (.seq (.block 1 (.seq (.reg none [Om 12 0, Om 13 5, Oo 14 (.iadrS 1 (.t 12) (.t 13)), Ol 15 14, Om 16 1, Oo 17 (.iop .eql (.t 15) (.t 16))]) (.cond (.t 17) (.seq (.reg none [Oo 4 (.mov (.d (.p (.s (.bool true)))))]) .ret) .skip))) (.reg none [Om 10 5, Oo 11 (.iop .add (.t 10) (.d (Ci 1))), Om 5 11])))))) (.seq (.reg none [Oo 4 (.mov (.d (.p (.s (.bool false)))))]) .ret))), [.tmp 4]⟩
theorem c_ref14_Has : comp Tryz.prog G0 41 = some m_ref14_Has := by kernel_rfl
theorem q_ref14_Has : Q0 41 := mCall_pure rfl
theorem has_res (l : List Int) (n : Int) (hl : l.length < 4611686018427387904) : res Tryz.prog G0 41 [L l, I n] = some (B (memB n l)) := by
  refine res_body c_ref14_Has (Nat.le_of_ble_eq_true rfl) ?_
  simp only [m_ref14_Has, Oo, Ou, Og, Ci, Om, Of, Ol, Ok]
  repeat' (first | simp only [go_sem, Int.reduceLT, Int.reduceLE, Int.reduceNeg, Int.reduceEq, Nat.reduceAdd, Nat.reduceEqDiff, Nat.reduceLeDiff, Nat.reduceBEq, reduceIte, reduceCtorEq] | (with_reducible first | apply c1 | (first | apply c2 | apply c3) <;> (intro hc; simp only [hc]) | (first | apply c4 | apply c5) <;> (intro hc; rw [hc])))
  refine X_for 5 l.length (fun i s => ¬ n ∈ l.take i) 0 hl ?_ (Nat.zero_le _) (by simp) ?_
  · simp only [go_sem, Int.reduceLT, Int.reduceLE, Int.reduceNeg, Int.reduceEq, Nat.reduceAdd, Nat.reduceEqDiff, Nat.reduceLeDiff, Nat.reduceBEq, reduceIte, reduceCtorEq]; rfl
  intro i t h nx hf hi0 hi h5 hj
  have h0 := hf 0 rfl; simp only [PT.get_set, Nat.reduceEqDiff, if_true, if_false, reduceIte, PT.get_leaf] at h0; have h1 := hf 1 rfl; simp only [PT.get_set, Nat.reduceEqDiff, if_true, if_false, reduceIte, PT.get_leaf] at h1
  clear hf
  rcases Nat.lt_or_ge i l.length with hlt | hge
  · obtain ⟨x, hx, _, htk⟩ := get_dec (l := l) (i := i) (by simpa using hlt)
    have hdl : decide ((i : Int) < (l.length : Int)) = true := by simpa using hlt
    by_cases hxn : x = n
    · repeat' (first | simp only [go_sem, Int.reduceLT, Int.reduceLE, Int.reduceNeg, Int.reduceEq, Nat.reduceAdd, Nat.reduceEqDiff, Nat.reduceLeDiff, Nat.reduceBEq, reduceIte, reduceCtorEq, h0, h1, h5, hx, hdl, show decide (x = n) = true by simpa using hxn] | (with_reducible first | apply c1 | (first | apply c2 | apply c3) <;> (intro hc; simp only [hc]) | (first | apply c4 | apply c5) <;> (intro hc; rw [hc])))
      rw [s_bool]
      symm
      rw [memB_iff, ← hxn]
      exact List.mem_of_getElem? hx
    · repeat' (first | simp only [go_sem, Int.reduceLT, Int.reduceLE, Int.reduceNeg, Int.reduceEq, Nat.reduceAdd, Nat.reduceEqDiff, Nat.reduceLeDiff, Nat.reduceBEq, reduceIte, reduceCtorEq, h0, h1, h5, hx, hdl, show decide (x = n) = false by simpa using hxn] | (with_reducible first | apply c1 | (first | apply c2 | apply c3) <;> (intro hc; simp only [hc]) | (first | apply c4 | apply c5) <;> (intro hc; rw [hc])))
      refine ⟨hlt, ?_⟩
      rw [htk]
      simp [hj, Ne.symm hxn]
  · rw [List.take_of_length_le hge] at hj
    repeat' (first | simp only [go_sem, Int.reduceLT, Int.reduceLE, Int.reduceNeg, Int.reduceEq, Nat.reduceAdd, Nat.reduceEqDiff, Nat.reduceLeDiff, Nat.reduceBEq, reduceIte, reduceCtorEq, h0, h1, h5, show decide ((i : Int) < (l.length : Int)) = false by simpa using hge] | (with_reducible first | apply c1 | (first | apply c2 | apply c3) <;> (intro hc; simp only [hc]) | (first | apply c4 | apply c5) <;> (intro hc; rw [hc])))
    rw [s_bool]
    symm
    rw [memB_not]
    exact hj
def rowB (n : Int) (seen p : List Int) : Bool := risB n p && p.all (fun x => !memB x seen) && (decide ((1 : Int) ≤ p.length) && decide ((p.length : Int) ≤ 8))
def partsB (n : Int) : List Int → List (List Int) → Bool
  | _, [] => true
  | s, p :: ps => rowB n s p && partsB n (s ++ p) ps
def wayB (n : Int) (w : VWay) : Bool := decide ((1 : Int) ≤ w.parts.length) && decide ((w.parts.length : Int) ≤ 4) && partsB n [] w.parts
def courseB (n : Int) (c : VCourse) : Bool := nameB c.name && (decide ((1 : Int) ≤ c.ways.length) && decide ((c.ways.length : Int) ≤ 4)) && c.ways.all (wayB n)
def smW (w : VWay) : Prop := w.parts.length ≤ 1048576 ∧ ∀ p ∈ w.parts, p.length ≤ 1048576
def smCo (c : VCourse) : Prop := c.ways.length ≤ 1048576 ∧ ∀ w ∈ c.ways, smW w
theorem parts_append {n : Int} : ∀ {a : List (List Int)} {s : List Int} {b : List (List Int)}, partsB n s (a ++ b) = (partsB n s a && partsB n (s ++ a.flatten) b)
  | [], s, b => by simp [partsB]
  | p :: a, s, b => by simp [partsB, parts_append, Bool.and_assoc, List.append_assoc]
theorem parts_snoc {n : Int} {a : List (List Int)} {p : List Int} : partsB n [] (a ++ [p]) = (partsB n [] a && rowB n a.flatten p) := by
  rw [parts_append]; simp [partsB]
theorem parts_not {n : Int} {l : List (List Int)} {i : Nat} {p : List Int} (ht : l.take (i + 1) = l.take i ++ [p]) (h : rowB n (l.take i).flatten p = false) : partsB n [] l = false := by
  rw [← List.take_append_drop (i + 1) l, parts_append, ht, parts_snoc, h]
  simp
theorem row_nodup {n : Int} {s p : List Int} (hs : s.Nodup) (h : rowB n s p = true) : (s ++ p).Nodup := by
  simp only [rowB, Bool.and_eq_true, List.all_eq_true, Bool.not_eq_true'] at h
  rw [List.nodup_append]
  refine ⟨hs, (risB_iff.1 h.1.1).1.imp (fun h => by omega), fun a ha b hb e => ?_⟩
  subst e
  exact memB_not.1 (h.1.2 a hb) ha
theorem parts_len {n : Int} : ∀ {l : List (List Int)} {s : List Int}, partsB n s l = true → l.flatten.length ≤ 8 * l.length
  | [], s, _ => by simp
  | p :: l, s, h => by
    simp only [partsB, rowB, Bool.and_eq_true, decide_eq_true_eq] at h
    have := parts_len h.2
    simp only [List.flatten_cons, List.length_append, List.length_cons]
    omega
def m_course_row : MF := ⟨50, (.seq (.reg none [Oo 6 (.mov (.d (.p (.s (.bool false)))))]) (.seq (.reg none [Oo 7 (.mov (.d (Ci (-1))))]) (.seq (.seq (.reg none [Om 12 0, Ok 13 12, Oo 14 (.mov (.d (Ci 0)))]) (.block 0 (.loop (.seq (.reg none [Oo 15 (.iop .lss (.t 14) (.t 13))]) (.seq (.cond (.t 15) .skip (.exit 0)) (.seq (.block 1 (.seq (.reg none [Oo 16 (.iadrS 1 (.t 12) (.t 14)), Ol 17 16, Om 9 17]) (.seq (.seq (.reg none [Om 18 9, Om 19 7, Oo 20 (.iop .leq (.t 18) (.t 19)), Om 21 20, Og 22 21 false (.mov (.t 9)), Og 23 21 false (.mov (.t 1)), Og 24 21 false (.iop .geq (.t 22) (.t 23)), Oo 25 (.pick (.t 21) (.d (.p (.s (.bool true)))) (.t 24)), Om 26 25, Og 27 26 false (.mov (.t 2)), Og 28 26 false (.mov (.t 9)), Og 29 26 false (.lkp false [0] (.p (.s (.bool false))) false (.t 27) (.t 28)), Oo 30 (.pick (.t 26) (.d (.p (.s (.bool true)))) (.t 29))]) (.cond (.t 30) (.seq (.reg none [Oo 6 (.mov (.d (.p (.s (.bool false)))))]) .ret) .skip)) (.reg none [Om 31 9, Om 7 31])))) (.reg none [Oo 32 (.iop .add (.t 14) (.d (Ci 1))), Om 14 32]))))))) (.seq (.seq (.reg none [Om 33 0, Ok 34 33, Oo 35 (.mov (.d (Ci 0)))]) (.block 2 (.loop (.seq (.reg none [Oo 36 (.iop .lss (.t 35) (.t 34))]) (.seq (.cond (.t 36) .skip (.exit 2)) (.seq (.block 3 (.seq (.reg none [Oo 37 (.iadrS 1 (.t 33) (.t 35)), Ol 38 37, Om 11 38]) (.reg none [Om 39 2, Om 40 11, Ou (.mup false [0] (.t 39) (.t 40) (.d (.p (.s (.bool true)))))]))) (.reg none [Oo 41 (.iop .add (.t 35) (.d (Ci 1))), Om 35 41]))))))) (.seq (.reg none [Om 42 0, Ok 43 42, Oo 44 (.iop .gtr (.t 43) (.d (Ci 0))), Om 45 44, Og 46 45 true (.mov (.t 0)), Og 47 45 true (.lenL (.t 46)), Og 48 45 true (.iop .leq (.t 47) (.d (Ci 8))), Oo 49 (.pick (.t 45) (.t 48) (.d (.p (.s (.bool false))))), Om 6 49]) .ret))))), [.tmp 6]⟩
theorem c_course_row : comp Tryz.prog G0 206 = some m_course_row := by kernel_rfl
theorem row_call (p : List Int) (hp : p.length ≤ 1048576) (n : Int) (seen : List Int) (hs : seen.Nodup) (h0 : PT AObj) (nx0 id : Nat) (hg : h0.get id = some (.map (mapS intP seen))) :
    ∃ r h' n', callR Tryz.prog G0 206 [.p (L p), .p (I n), .mm id] h0 nx0 = some (r, h', n') ∧ r = .p (B (rowB n seen p)) ∧ (rowB n seen p = true → h'.get id = some (.map (mapS intP (seen ++ p))) ∧ ∀ j, j ≠ id → h'.get j = h0.get j) ∧ nx0 ≤ n' := by
  refine callR_body c_course_row (Nat.le_of_ble_eq_true rfl) ?_
  simp only [m_course_row, Oo, Ou, Og, Ci, Om, Of, Ol, Ok]
  repeat' (first | simp only [go_sem, Int.reduceLT, Int.reduceLE, Int.reduceNeg, Int.reduceEq, Nat.reduceAdd, Nat.reduceEqDiff, Nat.reduceLeDiff, Nat.reduceBEq, reduceIte, reduceCtorEq] | (with_reducible first | apply c1 | (first | apply c2 | apply c3) <;> (intro hc; simp only [hc]) | (first | apply c4 | apply c5) <;> (intro hc; rw [hc])))
  refine X_for 14 p.length (fun i s => risP n (p.take i) ∧ (∀ x ∈ p.take i, x ∉ seen) ∧ s.t.get 7 = some (.p (.s (.int .i64 (lastI (p.take i))))) ∧ s.h = h0 ∧ nx0 ≤ s.nx) 0 (by omega) ?_ (Nat.zero_le _) ⟨by simp [risP], by simp, by simp only [go_sem, Int.reduceLT, Int.reduceLE, Int.reduceNeg, Int.reduceEq, Nat.reduceAdd, Nat.reduceEqDiff, Nat.reduceLeDiff, Nat.reduceBEq, reduceIte, reduceCtorEq]; simp [lastI], by simp only [go_sem, Int.reduceLT, Int.reduceLE, Int.reduceNeg, Int.reduceEq, Nat.reduceAdd, Nat.reduceEqDiff, Nat.reduceLeDiff, Nat.reduceBEq, reduceIte, reduceCtorEq], by simp only [go_sem, Int.reduceLT, Int.reduceLE, Int.reduceNeg, Int.reduceEq, Nat.reduceAdd, Nat.reduceEqDiff, Nat.reduceLeDiff, Nat.reduceBEq, reduceIte, reduceCtorEq]; omega⟩ ?_
  · simp only [go_sem, Int.reduceLT, Int.reduceLE, Int.reduceNeg, Int.reduceEq, Nat.reduceAdd, Nat.reduceEqDiff, Nat.reduceLeDiff, Nat.reduceBEq, reduceIte, reduceCtorEq]; rfl
  intro i t h nx hf hi0 hi h14 hj
  obtain ⟨hr, hns, h7, hh, hnx⟩ := hj
  dsimp only at h7 hh hnx
  subst hh
  have hf0 := hf
  have h0 := hf 0 rfl; have h1 := hf 1 rfl; have h2 := hf 2 rfl; have h12 := hf 12 rfl; have h13 := hf 13 rfl
  simp only [PT.get_set, Nat.reduceEqDiff, if_true, if_false, reduceIte] at h0 h1 h2 h12 h13
  clear hf hf0
  rcases Nat.lt_or_ge i p.length with hlt | hge
  · obtain ⟨x, hx, _, htk⟩ := get_dec (l := p) (i := i) (by simpa using hlt)
    have hdl : decide ((i : Int) < (p.length : Int)) = true := by simpa using hlt
    have hm : x ∈ p := List.mem_of_getElem? hx
    by_cases hb : lastI (p.take i) < x ∧ x < n
    · cases hmem : memB x seen with
      | true =>
        have hz : rowB n seen p = false := by
          have : p.all (fun x => !memB x seen) = false := by rw [List.all_eq_false]; exact ⟨x, hm, by simp [hmem]⟩
          simp [rowB, this]
        repeat' (first | simp only [go_sem, Int.reduceLT, Int.reduceLE, Int.reduceNeg, Int.reduceEq, Nat.reduceAdd, Nat.reduceEqDiff, Nat.reduceLeDiff, Nat.reduceBEq, reduceIte, reduceCtorEq, h0, h1, h2, h7, h12, h13, h14, hx, hdl, lkp_int hs hg, hmem, show decide (x ≤ lastI (p.take i)) = false by (simp; omega), show decide (n ≤ x) = false by (simp; omega)] | (with_reducible first | apply c1 | (first | apply c2 | apply c3) <;> (intro hc; simp only [hc]) | (first | apply c4 | apply c5) <;> (intro hc; rw [hc])))
        refine ⟨by rw [hz], fun h => ?_, by omega⟩
        rw [hz] at h; cases h
      | false =>
        repeat' (first | simp only [go_sem, Int.reduceLT, Int.reduceLE, Int.reduceNeg, Int.reduceEq, Nat.reduceAdd, Nat.reduceEqDiff, Nat.reduceLeDiff, Nat.reduceBEq, reduceIte, reduceCtorEq, h0, h1, h2, h7, h12, h13, h14, hx, hdl, lkp_int hs hg, hmem, show decide (x ≤ lastI (p.take i)) = false by (simp; omega), show decide (n ≤ x) = false by (simp; omega)] | (with_reducible first | apply c1 | (first | apply c2 | apply c3) <;> (intro hc; simp only [hc]) | (first | apply c4 | apply c5) <;> (intro hc; rw [hc])))
        refine ⟨hlt, by rw [htk]; exact ris_snoc.2 ⟨hr, hb⟩, fun y hy => ?_, by rw [htk, lastI_snoc], by omega⟩
        rw [htk, List.mem_append, List.mem_singleton] at hy
        rcases hy with hy | rfl
        · exact hns y hy
        · exact memB_not.1 hmem
    · have hz : rowB n seen p = false := by simp [rowB, ris_not htk hb]
      by_cases hb1 : x ≤ lastI (p.take i)
      · repeat' (first | simp only [go_sem, Int.reduceLT, Int.reduceLE, Int.reduceNeg, Int.reduceEq, Nat.reduceAdd, Nat.reduceEqDiff, Nat.reduceLeDiff, Nat.reduceBEq, reduceIte, reduceCtorEq, h0, h1, h2, h7, h12, h13, h14, hx, hdl, show decide (x ≤ lastI (p.take i)) = true by simpa using hb1] | (with_reducible first | apply c1 | (first | apply c2 | apply c3) <;> (intro hc; simp only [hc]) | (first | apply c4 | apply c5) <;> (intro hc; rw [hc])))
        refine ⟨by rw [hz], fun h => ?_, by omega⟩
        rw [hz] at h; cases h
      · repeat' (first | simp only [go_sem, Int.reduceLT, Int.reduceLE, Int.reduceNeg, Int.reduceEq, Nat.reduceAdd, Nat.reduceEqDiff, Nat.reduceLeDiff, Nat.reduceBEq, reduceIte, reduceCtorEq, h0, h1, h2, h7, h12, h13, h14, hx, hdl, show decide (x ≤ lastI (p.take i)) = false by simpa using hb1, show decide (n ≤ x) = true by (simp; omega)] | (with_reducible first | apply c1 | (first | apply c2 | apply c3) <;> (intro hc; simp only [hc]) | (first | apply c4 | apply c5) <;> (intro hc; rw [hc])))
        refine ⟨by rw [hz], fun h => ?_, by omega⟩
        rw [hz] at h; cases h
  · rw [List.take_of_length_le hge] at hr hns
    have hnd : ∀ i, (seen ++ p.take i).Nodup := fun i => by
      rw [List.nodup_append]
      refine ⟨hs, ((hr.1.imp (fun h => by omega)).sublist (List.take_sublist i p) : (p.take i).Nodup), fun a ha b hb e => ?_⟩
      subst e
      exact hns a (List.mem_of_mem_take hb) ha
    repeat' (first | simp only [go_sem, Int.reduceLT, Int.reduceLE, Int.reduceNeg, Int.reduceEq, Nat.reduceAdd, Nat.reduceEqDiff, Nat.reduceLeDiff, Nat.reduceBEq, reduceIte, reduceCtorEq, h0, h1, h2, h7, h12, h13, h14, show decide ((i : Int) < (p.length : Int)) = false by simpa using hge] | (with_reducible first | apply c1 | (first | apply c2 | apply c3) <;> (intro hc; simp only [hc]) | (first | apply c4 | apply c5) <;> (intro hc; rw [hc])))
    refine X_for 35 p.length (fun i s => s.h.get id = some (.map (mapS intP (seen ++ p.take i))) ∧ (∀ j, j ≠ id → s.h.get j = h.get j) ∧ nx0 ≤ s.nx) 0 (by omega) ?_ (Nat.zero_le _) ⟨by simp only [go_sem, Int.reduceLT, Int.reduceLE, Int.reduceNeg, Int.reduceEq, Nat.reduceAdd, Nat.reduceEqDiff, Nat.reduceLeDiff, Nat.reduceBEq, reduceIte, reduceCtorEq]; simpa using hg, by intros; rfl, by simp only [go_sem, Int.reduceLT, Int.reduceLE, Int.reduceNeg, Int.reduceEq, Nat.reduceAdd, Nat.reduceEqDiff, Nat.reduceLeDiff, Nat.reduceBEq, reduceIte, reduceCtorEq]; omega⟩ ?_
    · simp only [go_sem, Int.reduceLT, Int.reduceLE, Int.reduceNeg, Int.reduceEq, Nat.reduceAdd, Nat.reduceEqDiff, Nat.reduceLeDiff, Nat.reduceBEq, reduceIte, reduceCtorEq]; rfl
    intro k t' h' nx' hf hk0 hk h35 hj
    obtain ⟨hg', hfr, hnx'⟩ := hj
    dsimp only at hg' hfr hnx'
    have f0 := hf 0 rfl; have f2 := hf 2 rfl; have f33 := hf 33 rfl; have f34 := hf 34 rfl
    simp only [PT.get_set, Nat.reduceEqDiff, if_true, if_false, reduceIte, h0, h2] at f0 f2 f33 f34
    clear hf
    rcases Nat.lt_or_ge k p.length with hlt2 | hge2
    · obtain ⟨x, hx, _, htk⟩ := get_dec (l := p) (i := k) (by simpa using hlt2)
      have hdl : decide ((k : Int) < (p.length : Int)) = true := by simpa using hlt2
      have hnx1 := hnd (k + 1)
      rw [htk, ← List.append_assoc, nodup_snoc] at hnx1
      repeat' (first | simp only [go_sem, Int.reduceLT, Int.reduceLE, Int.reduceNeg, Int.reduceEq, Nat.reduceAdd, Nat.reduceEqDiff, Nat.reduceLeDiff, Nat.reduceBEq, reduceIte, reduceCtorEq, f0, f2, f33, f34, h35, hx, hdl, mup_int hnx1.1 hnx1.2, hg'] | (with_reducible first | apply c1 | (first | apply c2 | apply c3) <;> (intro hc; simp only [hc]) | (first | apply c4 | apply c5) <;> (intro hc; rw [hc])))
      refine ⟨hlt2, ?_, ?_, by omega⟩
      · rw [htk, List.append_assoc]
      · intro j hj
        rw [if_neg (Ne.symm hj)]
        exact hfr j hj
    · rw [List.take_of_length_le hge2] at hg'
      repeat' (first | simp only [go_sem, Int.reduceLT, Int.reduceLE, Int.reduceNeg, Int.reduceEq, Nat.reduceAdd, Nat.reduceEqDiff, Nat.reduceLeDiff, Nat.reduceBEq, reduceIte, reduceCtorEq, f0, f2, f33, f34, h35, show decide ((k : Int) < (p.length : Int)) = false by simpa using hge2] | (with_reducible first | apply c1 | (first | apply c2 | apply c3) <;> (intro hc; simp only [hc]) | (first | apply c4 | apply c5) <;> (intro hc; rw [hc])))
      all_goals
        have hz : rowB n seen p = (decide ((1 : Int) ≤ p.length) && decide ((p.length : Int) ≤ 8)) := by
          have : p.all (fun x => !memB x seen) = true := by
            rw [List.all_eq_true]
            intro x hx
            simpa using memB_not.2 (hns x hx)
          simp [rowB, risB_iff.2 hr, this]
      · have : decide ((1 : Int) ≤ p.length) = true := by simp only [decide_eq_true_eq] at hc ⊢; omega
        exact ⟨by rw [hz, this]; rfl, fun _ => ⟨hg', hfr⟩, by omega⟩
      · have : decide ((1 : Int) ≤ p.length) = false := by simp only [decide_eq_false_iff_not] at hc ⊢; omega
        refine ⟨by rw [hz, this]; rfl, fun h => ?_, by omega⟩
        rw [hz, this] at h
        cases h
def refRes (dst : Option Nat) (s : St) : Option (DV × PT AObj × Nat) → Option (St × Log)
  | some (r, h', n') => some (⟨putD s.t dst r, h', n'⟩, ⟨true, true, [], []⟩)
  | none => none
theorem refRes_some {dst : Option Nat} {s : St} {r : DV} {h' : PT AObj} {n' : Nat} : refRes dst s (some (r, h', n')) = some (⟨putD s.t dst r, h', n'⟩, ⟨true, true, [], []⟩) := rfl
theorem q_course_row {fn : FuncId} {xs : List DV} {dst : Option Nat} {id : Nat} {s : St} : mCall G0 fn (callR Tryz.prog G0) 206 xs dst id s = refRes dst s (callR Tryz.prog G0 206 xs s.h s.nx) := by
  have hm : G0.mode fn 206 = .ref := rfl
  unfold mCall
  simp only [hm]
  cases callR Tryz.prog G0 206 xs s.h s.nx with
  | none => rfl
  | some r => obtain ⟨r, h', n'⟩ := r; rfl
def m_course_Right : MF := ⟨58, (.seq (.reg none [Oo 3 (.box (.t 1)), Oo 4 (.mov (.d (.p (.s (.bool false)))))]) (.seq (.seq (.reg none [Of 10 0 3, Ol 11 10, Oo 12 (.call 119 [.t 11]), Oo 13 (.un .not (.t 12)), Om 14 13, Og 15 14 false (.fadr 1 (.t 3)), Og 16 14 false (.load false 1 (.t 15)), Og 17 14 false (.lenL (.t 16)), Og 18 14 false (.iop .eql (.t 17) (.d (Ci 0))), Oo 19 (.pick (.t 14) (.d (.p (.s (.bool true)))) (.t 18)), Om 20 19, Og 21 20 false (.fadr 1 (.t 3)), Og 22 20 false (.load false 1 (.t 21)), Og 23 20 false (.lenL (.t 22)), Og 24 20 false (.iop .gtr (.t 23) (.d (Ci 4))), Oo 25 (.pick (.t 20) (.d (.p (.s (.bool true)))) (.t 24))]) (.cond (.t 25) (.seq (.reg none [Oo 4 (.mov (.d (.p (.s (.bool false)))))]) .ret) .skip)) (.seq (.seq (.reg none [Of 26 1 3, Ol 27 26, Ok 28 27, Oo 29 (.mov (.d (Ci 0)))]) (.block 0 (.loop (.seq (.reg none [Oo 30 (.iop .lss (.t 29) (.t 28))]) (.seq (.cond (.t 30) .skip (.exit 0)) (.seq (.block 1 (.seq (.reg none [Oo 31 (.iadrS 1 (.t 27) (.t 29)), Oo 32 (.load true 1 (.t 31)), Oo 6 (.alloc [.nil]), Ou (.store 1 (.t 6) (.t 32))]) (.seq (.seq (.reg none [Of 33 0 6, Ol 34 33, Ok 35 34, Oo 36 (.iop .eql (.t 35) (.d (Ci 0))), Om 37 36, Og 38 37 false (.fadr 0 (.t 6)), Og 39 37 false (.load false 1 (.t 38)), Og 40 37 false (.lenL (.t 39)), Og 41 37 false (.iop .gtr (.t 40) (.d (Ci 4))), Oo 42 (.pick (.t 37) (.d (.p (.s (.bool true)))) (.t 41))]) (.cond (.t 42) (.seq (.reg none [Oo 4 (.mov (.d (.p (.s (.bool false)))))]) .ret) .skip)) (.seq (.reg none [Oo 43 .mkm, Om 7 43]) (.seq (.reg none [Of 44 0 6, Ol 45 44, Ok 46 45, Oo 47 (.mov (.d (Ci 0)))]) (.block 2 (.loop (.seq (.reg none [Oo 48 (.iop .lss (.t 47) (.t 46))]) (.seq (.cond (.t 48) .skip (.exit 2)) (.seq (.block 3 (.seq (.reg none [Oo 49 (.iadrS 1 (.t 45) (.t 47)), Ol 50 49, Om 9 50]) (.seq (.reg none [Om 51 9, Om 52 0, Om 53 7, Oo 54 (.call 206 [.t 51, .t 52, .t 53]), Oo 55 (.un .not (.t 54))]) (.cond (.t 55) (.seq (.reg none [Oo 4 (.mov (.d (.p (.s (.bool false)))))]) .ret) .skip)))) (.reg none [Oo 56 (.iop .add (.t 47) (.d (Ci 1))), Om 47 56]))))))))))) (.reg none [Oo 57 (.iop .add (.t 29) (.d (Ci 1))), Om 29 57]))))))) (.seq (.reg none [Oo 4 (.mov (.d (.p (.s (.bool true)))))]) .ret)))), [.tmp 4]⟩
theorem c_course_Right : comp Tryz.prog G0 137 = some m_course_Right := by kernel_rfl
theorem q_course_Right : Q0 137 := mCall_pure rfl
theorem course_res (n : Int) (c : VCourse) (hc : smCo c) : res Tryz.prog G0 137 [I n, c.P] = some (B (courseB n c)) := by
  obtain ⟨s1, s2⟩ := hc
  refine res_body c_course_Right (Nat.le_of_ble_eq_true rfl) ?_
  simp only [m_course_Right, Oo, Ou, Og, Ci, Om, Of, Ol, Ok]
  cases hn : nameB c.name with
  | false =>
    repeat' (first | simp only [go_sem, Int.reduceLT, Int.reduceLE, Int.reduceNeg, Int.reduceEq, Nat.reduceAdd, Nat.reduceEqDiff, Nat.reduceLeDiff, Nat.reduceBEq, reduceIte, reduceCtorEq, q_room_Name, name_res, hn] | (with_reducible first | apply c1 | (first | apply c2 | apply c3) <;> (intro hc; simp only [hc]) | (first | apply c4 | apply c5) <;> (intro hc; rw [hc])))
    rw [s_bool]; simp [courseB, hn]
  | true =>
    by_cases hl : 1 ≤ c.ways.length ∧ c.ways.length ≤ 4
    · repeat' (first | simp only [go_sem, Int.reduceLT, Int.reduceLE, Int.reduceNeg, Int.reduceEq, Nat.reduceAdd, Nat.reduceEqDiff, Nat.reduceLeDiff, Nat.reduceBEq, reduceIte, reduceCtorEq, q_room_Name, name_res, hn, show decide ((c.ways.length : Int) = 0) = false by (simp only [decide_eq_false_iff_not]; omega), show decide ((4 : Int) < (c.ways.length : Int)) = false by (simp only [decide_eq_false_iff_not]; omega)] | (with_reducible first | apply c1 | (first | apply c2 | apply c3) <;> (intro hc; simp only [hc]) | (first | apply c4 | apply c5) <;> (intro hc; rw [hc])))
      refine X_for 29 c.ways.length (fun i s => ∀ w ∈ c.ways.take i, wayB n w = true) 0 (by omega) ?_ (Nat.zero_le _) (by simp) ?_
      · simp only [go_sem, Int.reduceLT, Int.reduceLE, Int.reduceNeg, Int.reduceEq, Nat.reduceAdd, Nat.reduceEqDiff, Nat.reduceLeDiff, Nat.reduceBEq, reduceIte, reduceCtorEq]; rfl
      intro i t h nx hf hi0 hi h29 hj
      have h0 := hf 0 rfl; simp only [PT.get_set, Nat.reduceEqDiff, if_true, if_false, reduceIte, PT.get_leaf] at h0; have h27 := hf 27 rfl; simp only [PT.get_set, Nat.reduceEqDiff, if_true, if_false, reduceIte, PT.get_leaf] at h27; have h28 := hf 28 rfl; simp only [PT.get_set, Nat.reduceEqDiff, if_true, if_false, reduceIte, PT.get_leaf] at h28
      clear hf
      rcases Nat.lt_or_ge i c.ways.length with hlt | hge
      · obtain ⟨w, hw, _, htk⟩ := get_dec (l := c.ways) (i := i) (by simpa using hlt)
        have hm : w ∈ c.ways := List.mem_of_getElem? hw
        have hdl : decide ((i : Int) < (c.ways.length : Int)) = true := by simpa using hlt
        obtain ⟨w1, w2⟩ := s2 w hm
        have bad : wayB n w = false → PDV.s (.bool false) = B (courseB n c) := fun hb => by
          have : c.ways.all (wayB n) = false := by rw [List.all_eq_false]; exact ⟨w, hm, by simp [hb]⟩
          simp [courseB, this]
        by_cases hp0 : w.parts.length = 0
        · repeat' (first | simp only [go_sem, Int.reduceLT, Int.reduceLE, Int.reduceNeg, Int.reduceEq, Nat.reduceAdd, Nat.reduceEqDiff, Nat.reduceLeDiff, Nat.reduceBEq, reduceIte, reduceCtorEq, h0, h27, h28, h29, hw, hdl, show decide ((w.parts.length : Int) = 0) = true by (simp only [decide_eq_true_eq]; omega)] | (with_reducible first | apply c1 | (first | apply c2 | apply c3) <;> (intro hc; simp only [hc]) | (first | apply c4 | apply c5) <;> (intro hc; rw [hc])))
          exact bad (by simp [wayB, hp0])
        by_cases hp4 : 4 < w.parts.length
        · repeat' (first | simp only [go_sem, Int.reduceLT, Int.reduceLE, Int.reduceNeg, Int.reduceEq, Nat.reduceAdd, Nat.reduceEqDiff, Nat.reduceLeDiff, Nat.reduceBEq, reduceIte, reduceCtorEq, h0, h27, h28, h29, hw, hdl, show decide ((w.parts.length : Int) = 0) = false by (simp only [decide_eq_false_iff_not]; omega), show decide ((4 : Int) < (w.parts.length : Int)) = true by (simp only [decide_eq_true_eq]; omega)] | (with_reducible first | apply c1 | (first | apply c2 | apply c3) <;> (intro hc; simp only [hc]) | (first | apply c4 | apply c5) <;> (intro hc; rw [hc])))
          exact bad (by simp [wayB]; omega)
        repeat' (first | simp only [go_sem, Int.reduceLT, Int.reduceLE, Int.reduceNeg, Int.reduceEq, Nat.reduceAdd, Nat.reduceEqDiff, Nat.reduceLeDiff, Nat.reduceBEq, reduceIte, reduceCtorEq, h0, h27, h28, h29, hw, hdl, show decide ((w.parts.length : Int) = 0) = false by (simp only [decide_eq_false_iff_not]; omega), show decide ((4 : Int) < (w.parts.length : Int)) = false by (simp only [decide_eq_false_iff_not]; omega)] | (with_reducible first | apply c1 | (first | apply c2 | apply c3) <;> (intro hc; simp only [hc]) | (first | apply c4 | apply c5) <;> (intro hc; rw [hc])))
        refine X_for 47 w.parts.length (fun k s => s.h.get (nx + 15) = some (.map (mapS intP (w.parts.take k).flatten)) ∧ partsB n [] (w.parts.take k) = true ∧ (w.parts.take k).flatten.Nodup) 0 (by omega) ?_ (Nat.zero_le _) ?_ ?_
        · simp only [go_sem, Int.reduceLT, Int.reduceLE, Int.reduceNeg, Int.reduceEq, Nat.reduceAdd, Nat.reduceEqDiff, Nat.reduceLeDiff, Nat.reduceBEq, reduceIte, reduceCtorEq]; rfl
        · exact ⟨by simp only [go_sem, Int.reduceLT, Int.reduceLE, Int.reduceNeg, Int.reduceEq, Nat.reduceAdd, Nat.reduceEqDiff, Nat.reduceLeDiff, Nat.reduceBEq, reduceIte, reduceCtorEq]; rfl, by simp [partsB], by simp⟩
        intro k t' h' nx' hf hk0 hk h47 hj2
        obtain ⟨hg, hpt, hnd⟩ := hj2
        dsimp only at hg
        have f0 := hf 0 rfl; have f7 := hf 7 rfl; have f45 := hf 45 rfl; have f46 := hf 46 rfl; have f29 := hf 29 rfl
        simp only [PT.get_set, Nat.reduceEqDiff, if_true, if_false, reduceIte, h0, h29] at f0 f7 f45 f46 f29
        clear hf
        rcases Nat.lt_or_ge k w.parts.length with hlt2 | hge2
        · obtain ⟨p, hp, _, htp⟩ := get_dec (l := w.parts) (i := k) (by simpa using hlt2)
          have hmp : p ∈ w.parts := List.mem_of_getElem? hp
          have hdl2 : decide ((k : Int) < (w.parts.length : Int)) = true := by simpa using hlt2
          obtain ⟨r, h2, n2, hcall, rfl, hgood, hle⟩ := row_call p (w2 p hmp) n _ hnd h' (nx' + 9) (nx + 15) hg
          cases hrow : rowB n (w.parts.take k).flatten p with
          | false =>
            rw [hrow] at hcall
            repeat' (first | simp only [go_sem, Int.reduceLT, Int.reduceLE, Int.reduceNeg, Int.reduceEq, Nat.reduceAdd, Nat.reduceEqDiff, Nat.reduceLeDiff, Nat.reduceBEq, reduceIte, reduceCtorEq, f0, f7, f45, f46, f29, h47, hp, hdl2, q_course_row, hcall, refRes_some] | (with_reducible first | apply c1 | (first | apply c2 | apply c3) <;> (intro hc; simp only [hc]) | (first | apply c4 | apply c5) <;> (intro hc; rw [hc])))
            exact bad (by simp [wayB, parts_not htp hrow])
          | true =>
            rw [hrow] at hcall
            obtain ⟨hg2, hfr⟩ := hgood hrow
            repeat' (first | simp only [go_sem, Int.reduceLT, Int.reduceLE, Int.reduceNeg, Int.reduceEq, Nat.reduceAdd, Nat.reduceEqDiff, Nat.reduceLeDiff, Nat.reduceBEq, reduceIte, reduceCtorEq, f0, f7, f45, f46, f29, h47, hp, hdl2, q_course_row, hcall, refRes_some] | (with_reducible first | apply c1 | (first | apply c2 | apply c3) <;> (intro hc; simp only [hc]) | (first | apply c4 | apply c5) <;> (intro hc; rw [hc])))
            refine ⟨hlt2, ?_, ?_, ?_⟩
            · rw [htp, List.flatten_append]; simpa using hg2
            · rw [htp, parts_snoc, hpt, hrow]; rfl
            · rw [htp, List.flatten_append]
              simpa using row_nodup hnd hrow
        · rw [List.take_of_length_le hge2] at hpt
          repeat' (first | simp only [go_sem, Int.reduceLT, Int.reduceLE, Int.reduceNeg, Int.reduceEq, Nat.reduceAdd, Nat.reduceEqDiff, Nat.reduceLeDiff, Nat.reduceBEq, reduceIte, reduceCtorEq, f0, f7, f45, f46, f29, h47, show decide ((k : Int) < (w.parts.length : Int)) = false by simpa using hge2] | (with_reducible first | apply c1 | (first | apply c2 | apply c3) <;> (intro hc; simp only [hc]) | (first | apply c4 | apply c5) <;> (intro hc; rw [hc])))
          refine ⟨hlt, fun y hy => ?_⟩
          rw [htk, List.mem_append, List.mem_singleton] at hy
          rcases hy with hy | rfl
          · exact hj y hy
          · simp [wayB, hpt]; omega
      · rw [List.take_of_length_le hge] at hj
        repeat' (first | simp only [go_sem, Int.reduceLT, Int.reduceLE, Int.reduceNeg, Int.reduceEq, Nat.reduceAdd, Nat.reduceEqDiff, Nat.reduceLeDiff, Nat.reduceBEq, reduceIte, reduceCtorEq, h0, h27, h28, h29, show decide ((i : Int) < (c.ways.length : Int)) = false by simpa using hge] | (with_reducible first | apply c1 | (first | apply c2 | apply c3) <;> (intro hc; simp only [hc]) | (first | apply c4 | apply c5) <;> (intro hc; rw [hc])))
        rw [s_bool]
        symm
        simp only [courseB, hn, List.all_eq_true.2 hj, Bool.and_true, Bool.true_and, Bool.and_eq_true, decide_eq_true_eq]
        omega
    · have hz : courseB n c = false := by
        simp only [courseB, Bool.and_eq_false_iff, decide_eq_false_iff_not]
        left; right; omega
      by_cases h0 : c.ways.length = 0
      · repeat' (first | simp only [go_sem, Int.reduceLT, Int.reduceLE, Int.reduceNeg, Int.reduceEq, Nat.reduceAdd, Nat.reduceEqDiff, Nat.reduceLeDiff, Nat.reduceBEq, reduceIte, reduceCtorEq, q_room_Name, name_res, hn, show decide ((c.ways.length : Int) = 0) = true by (simp only [decide_eq_true_eq]; omega)] | (with_reducible first | apply c1 | (first | apply c2 | apply c3) <;> (intro hc; simp only [hc]) | (first | apply c4 | apply c5) <;> (intro hc; rw [hc])))
        rw [hz]
      · repeat' (first | simp only [go_sem, Int.reduceLT, Int.reduceLE, Int.reduceNeg, Int.reduceEq, Nat.reduceAdd, Nat.reduceEqDiff, Nat.reduceLeDiff, Nat.reduceBEq, reduceIte, reduceCtorEq, q_room_Name, name_res, hn, show decide ((c.ways.length : Int) = 0) = false by (simp only [decide_eq_false_iff_not]; omega), show decide ((4 : Int) < (c.ways.length : Int)) = true by (simp only [decide_eq_true_eq]; omega)] | (with_reducible first | apply c1 | (first | apply c2 | apply c3) <;> (intro hc; simp only [hc]) | (first | apply c4 | apply c5) <;> (intro hc; rw [hc])))
        rw [hz]
end Go.Proofs.YtddmnddocbmjnaaGreat.Dv
namespace Go.Proofs.YtddmnddocbmjnaaGreat.Dv
theorem flat_I : ∀ {l : List Int}, (l.map I).flatMap PDV.cells = l.map I
  | [] => rfl
  | x :: l => by rw [List.map_cons, List.flatMap_cons, flat_I]; rfl
theorem app_nil_L {l : List Int} {id : Nat} {h : PT AObj} (hl : l ≠ []) (hb : l.length ≤ 1048576) : appX false none 8 .nil (.p (L l)) h id = some { dv := .ow id (l.map I), rd := [], up := [(id, some (.tip 1))] } := by
  have e1 : szOk 1 (l.map I) = true := by simp [szOk]; intros; rfl
  have e2 : flatC (l.map I) = (l.map I).map .p := by rw [flatC, flat_I]
  have e3 : ∀ k : List PDV, plainL (k.map .p) = some k := by
    intro k
    induction k with
    | nil => rfl
    | cons x k ih => simp [plainL, ih]
  have e4 : ¬ (l.map I).length = 0 := by simpa using hl
  simp only [appX, src, esK, Option.getD_none, e1, if_true, if_neg e4, e2, fresh, e3, elems]
  rw [if_pos (by simp; omega)]
theorem app_ow_L {l : List Int} {k : List PDV} {i id : Nat} {h : PT AObj} (hg : h.get i = some (.tip 1)) (hl : l ≠ []) (hb : (k.length + l.length) * 8 ≤ 70368744177664) : appX false none 8 (.ow i k) (.p (L l)) h id = some { dv := .ow id (k ++ l.map I), rd := [i], up := [(i, none), (id, some (.tip 1))] } := by
  have e1 : szOk 1 (l.map I) = true := by simp [szOk]; intros; rfl
  have e2 : flatC (l.map I) = (l.map I).map .p := by rw [flatC, flat_I]
  have e3 : ∀ k : List PDV, plainL (k.map .p) = some k := by
    intro k
    induction k with
    | nil => rfl
    | cons x k ih => simp [plainL, ih]
  have e4 : ¬ (l.map I).length = 0 := by simpa using hl
  simp only [appX, src, esK, Option.getD_none, e1, if_true, if_neg e4, e2, e3, elems, hg]
  rw [if_pos (by simp; omega)]
theorem rcourse_res (n : Int) (c : VCourse) (hc : smCo c) : res Tryz.prog G0 181 [I n, c.P] = some (B (courseB n c)) := by
  obtain ⟨s1, s2⟩ := hc
  refine res_body c_ref14_Right (Nat.le_of_ble_eq_true rfl) ?_
  simp only [m_ref14_Right, Oo, Ou, Og, Ci, Om, Of, Ol, Ok]
  cases hn : nameB c.name with
  | false =>
    repeat' (first | simp only [go_sem, Int.reduceLT, Int.reduceLE, Int.reduceNeg, Int.reduceEq, Nat.reduceAdd, Nat.reduceEqDiff, Nat.reduceLeDiff, Nat.reduceBEq, reduceIte, reduceCtorEq, q_ref11_Name, rname_res, hn] | (with_reducible first | apply c1 | (first | apply c2 | apply c3) <;> (intro hc; simp only [hc]) | (first | apply c4 | apply c5) <;> (intro hc; rw [hc])))
    rw [s_bool]; simp [courseB, hn]
  | true =>
    by_cases hl : 1 ≤ c.ways.length ∧ c.ways.length ≤ 4
    · repeat' (first | simp only [go_sem, Int.reduceLT, Int.reduceLE, Int.reduceNeg, Int.reduceEq, Nat.reduceAdd, Nat.reduceEqDiff, Nat.reduceLeDiff, Nat.reduceBEq, reduceIte, reduceCtorEq, q_ref11_Name, rname_res, hn, show decide ((c.ways.length : Int) < 1) = false by (simp only [decide_eq_false_iff_not]; omega), show decide ((4 : Int) < (c.ways.length : Int)) = false by (simp only [decide_eq_false_iff_not]; omega)] | (with_reducible first | apply c1 | (first | apply c2 | apply c3) <;> (intro hc; simp only [hc]) | (first | apply c4 | apply c5) <;> (intro hc; rw [hc])))
      refine X_for 5 c.ways.length (fun i s => s.h.get 0 = some (.cells (DV.cells (.p c.P)) false) ∧ 1 ≤ s.nx ∧ ∀ w ∈ c.ways.take i, wayB n w = true) 0 (by omega) ?_ (Nat.zero_le _) ?_ ?_
      · simp only [go_sem, Int.reduceLT, Int.reduceLE, Int.reduceNeg, Int.reduceEq, Nat.reduceAdd, Nat.reduceEqDiff, Nat.reduceLeDiff, Nat.reduceBEq, reduceIte, reduceCtorEq]; rfl
      · exact ⟨by simp only [go_sem, Int.reduceLT, Int.reduceLE, Int.reduceNeg, Int.reduceEq, Nat.reduceAdd, Nat.reduceEqDiff, Nat.reduceLeDiff, Nat.reduceBEq, reduceIte, reduceCtorEq], by simp, by simp⟩
      intro i t h nx hf hi0 hi h5 hj
      obtain ⟨hh0, hnx, hj⟩ := hj
      dsimp only at hh0 hnx
      have h0 := hf 0 rfl; simp only [PT.get_set, Nat.reduceEqDiff, if_true, if_false, reduceIte, PT.get_leaf] at h0; have h3 := hf 3 rfl; simp only [PT.get_set, Nat.reduceEqDiff, if_true, if_false, reduceIte, PT.get_leaf] at h3
      clear hf
      rcases Nat.lt_or_ge i c.ways.length with hlt | hge
      · obtain ⟨w, hw, _, htk⟩ := get_dec (l := c.ways) (i := i) (by simpa using hlt)
        have hm : w ∈ c.ways := List.mem_of_getElem? hw
        have hdl : decide ((i : Int) < (c.ways.length : Int)) = true := by simpa using hlt
        obtain ⟨w1, w2⟩ := s2 w hm
        have bad : wayB n w = false → PDV.s (.bool false) = B (courseB n c) := fun hb => by
          have : c.ways.all (wayB n) = false := by rw [List.all_eq_false]; exact ⟨w, hm, by simp [hb]⟩
          simp [courseB, this]
        have n0 : ¬ nx + 10 = 0 := by omega
        by_cases hp0 : w.parts.length < 1
        · repeat' (first | simp only [go_sem, Int.reduceLT, Int.reduceLE, Int.reduceNeg, Int.reduceEq, Nat.reduceAdd, Nat.reduceEqDiff, Nat.reduceLeDiff, Nat.reduceBEq, reduceIte, reduceCtorEq, h0, h3, h5, hh0, hw, hdl, n0, show decide ((w.parts.length : Int) < 1) = true by (simp only [decide_eq_true_eq]; omega)] | (with_reducible first | apply c1 | (first | apply c2 | apply c3) <;> (intro hc; simp only [hc]) | (first | apply c4 | apply c5) <;> (intro hc; rw [hc])))
          exact bad (by simp [wayB]; omega)
        by_cases hp4 : 4 < w.parts.length
        · repeat' (first | simp only [go_sem, Int.reduceLT, Int.reduceLE, Int.reduceNeg, Int.reduceEq, Nat.reduceAdd, Nat.reduceEqDiff, Nat.reduceLeDiff, Nat.reduceBEq, reduceIte, reduceCtorEq, h0, h3, h5, hh0, hw, hdl, n0, show decide ((w.parts.length : Int) < 1) = false by (simp only [decide_eq_false_iff_not]; omega), show decide ((4 : Int) < (w.parts.length : Int)) = true by (simp only [decide_eq_true_eq]; omega)] | (with_reducible first | apply c1 | (first | apply c2 | apply c3) <;> (intro hc; simp only [hc]) | (first | apply c4 | apply c5) <;> (intro hc; rw [hc])))
          exact bad (by simp [wayB]; omega)
        repeat' (first | simp only [go_sem, Int.reduceLT, Int.reduceLE, Int.reduceNeg, Int.reduceEq, Nat.reduceAdd, Nat.reduceEqDiff, Nat.reduceLeDiff, Nat.reduceBEq, reduceIte, reduceCtorEq, h0, h3, h5, hh0, hw, hdl, n0, show decide ((w.parts.length : Int) < 1) = false by (simp only [decide_eq_false_iff_not]; omega), show decide ((4 : Int) < (w.parts.length : Int)) = false by (simp only [decide_eq_false_iff_not]; omega)] | (with_reducible first | apply c1 | (first | apply c2 | apply c3) <;> (intro hc; simp only [hc]) | (first | apply c4 | apply c5) <;> (intro hc; rw [hc])))
        refine X_for 8 w.parts.length (fun k s => s.h.get 0 = some (.cells (DV.cells (.p c.P)) false) ∧ s.h.get (nx + 10) = some (.cells (DV.cells (.p w.P)) false) ∧ nx + 11 ≤ s.nx ∧ partsB n [] (w.parts.take k) = true ∧ (((w.parts.take k).flatten = [] ∧ s.t.get 7 = some .nil) ∨ ∃ j, s.t.get 7 = some (.ow j ((w.parts.take k).flatten.map I)) ∧ s.h.get j = some (.tip 1) ∧ j ≠ 0 ∧ j ≠ nx + 10 ∧ j < s.nx)) 0 (by omega) ?_ (Nat.zero_le _) ?_ ?_
        · simp only [go_sem, Int.reduceLT, Int.reduceLE, Int.reduceNeg, Int.reduceEq, Nat.reduceAdd, Nat.reduceEqDiff, Nat.reduceLeDiff, Nat.reduceBEq, reduceIte, reduceCtorEq]; rfl
        · exact ⟨by simp only [go_sem, Int.reduceLT, Int.reduceLE, Int.reduceNeg, Int.reduceEq, Nat.reduceAdd, Nat.reduceEqDiff, Nat.reduceLeDiff, Nat.reduceBEq, reduceIte, reduceCtorEq, n0, hh0], by simp only [go_sem, Int.reduceLT, Int.reduceLE, Int.reduceNeg, Int.reduceEq, Nat.reduceAdd, Nat.reduceEqDiff, Nat.reduceLeDiff, Nat.reduceBEq, reduceIte, reduceCtorEq], by simp only [go_sem, Int.reduceLT, Int.reduceLE, Int.reduceNeg, Int.reduceEq, Nat.reduceAdd, Nat.reduceEqDiff, Nat.reduceLeDiff, Nat.reduceBEq, reduceIte, reduceCtorEq]; omega, by simp [partsB], .inl ⟨by simp, by simp only [go_sem, Int.reduceLT, Int.reduceLE, Int.reduceNeg, Int.reduceEq, Nat.reduceAdd, Nat.reduceEqDiff, Nat.reduceLeDiff, Nat.reduceBEq, reduceIte, reduceCtorEq]⟩⟩
        intro k t' h' nx' hf hk0 hk h8 hj2
        obtain ⟨hg0, hgw, hnx', hpt, hmet⟩ := hj2
        dsimp only at hg0 hgw hnx' hmet
        have f0 := hf 0 rfl; have f3 := hf 3 rfl; have f5 := hf 5 rfl; have f6 := hf 6 rfl
        simp only [PT.get_set, Nat.reduceEqDiff, if_true, if_false, reduceIte, h0, h3, h5] at f0 f3 f5 f6
        clear hf
        have hfl := parts_len hpt
        have hfl2 : (w.parts.take k).flatten.length ≤ 32 := by
          have : (w.parts.take k).length ≤ 4 := by simp; omega
          omega
        have hsn : ∃ d, t'.get 7 = some d ∧ snap h' d = some (L (w.parts.take k).flatten, []) := by
          rcases hmet with ⟨e, h7⟩ | ⟨j, h7, _⟩
          · exact ⟨_, h7, by rw [e]; rfl⟩
          · exact ⟨_, h7, rfl⟩
        rcases Nat.lt_or_ge k w.parts.length with hlt2 | hge2
        · obtain ⟨p, hp, _, htp⟩ := get_dec (l := w.parts) (i := k) (by simpa using hlt2)
          have hmp : p ∈ w.parts := List.mem_of_getElem? hp
          have hdl2 : decide ((k : Int) < (w.parts.length : Int)) = true := by simpa using hlt2
          have badr : rowB n (w.parts.take k).flatten p = false → PDV.s (.bool false) = B (courseB n c) := fun hb => bad (by simp [wayB, parts_not htp hb])
          by_cases hq0 : p.length < 1
          · repeat' (first | simp only [go_sem, Int.reduceLT, Int.reduceLE, Int.reduceNeg, Int.reduceEq, Nat.reduceAdd, Nat.reduceEqDiff, Nat.reduceLeDiff, Nat.reduceBEq, reduceIte, reduceCtorEq, f0, f3, f5, f6, h8, hgw, hp, hdl2, show decide ((p.length : Int) < 1) = true by (simp only [decide_eq_true_eq]; omega)] | (with_reducible first | apply c1 | (first | apply c2 | apply c3) <;> (intro hc; simp only [hc]) | (first | apply c4 | apply c5) <;> (intro hc; rw [hc])))
            exact badr (by simp [rowB]; omega)
          by_cases hq8 : 8 < p.length
          · repeat' (first | simp only [go_sem, Int.reduceLT, Int.reduceLE, Int.reduceNeg, Int.reduceEq, Nat.reduceAdd, Nat.reduceEqDiff, Nat.reduceLeDiff, Nat.reduceBEq, reduceIte, reduceCtorEq, f0, f3, f5, f6, h8, hgw, hp, hdl2, show decide ((p.length : Int) < 1) = false by (simp only [decide_eq_false_iff_not]; omega), show decide ((8 : Int) < (p.length : Int)) = true by (simp only [decide_eq_true_eq]; omega)] | (with_reducible first | apply c1 | (first | apply c2 | apply c3) <;> (intro hc; simp only [hc]) | (first | apply c4 | apply c5) <;> (intro hc; rw [hc])))
            exact badr (by simp [rowB]; omega)
          cases hris : risB n p with
          | false =>
            repeat' (first | simp only [go_sem, Int.reduceLT, Int.reduceLE, Int.reduceNeg, Int.reduceEq, Nat.reduceAdd, Nat.reduceEqDiff, Nat.reduceLeDiff, Nat.reduceBEq, reduceIte, reduceCtorEq, f0, f3, f5, f6, h8, hgw, hp, hdl2, show decide ((p.length : Int) < 1) = false by (simp only [decide_eq_false_iff_not]; omega), show decide ((8 : Int) < (p.length : Int)) = false by (simp only [decide_eq_false_iff_not]; omega), q_ref13_Rising, rising_res p (w2 p hmp) n, hris] | (with_reducible first | apply c1 | (first | apply c2 | apply c3) <;> (intro hc; simp only [hc]) | (first | apply c4 | apply c5) <;> (intro hc; rw [hc])))
            exact badr (by simp [rowB, hris])
          | true =>
            repeat' (first | simp only [go_sem, Int.reduceLT, Int.reduceLE, Int.reduceNeg, Int.reduceEq, Nat.reduceAdd, Nat.reduceEqDiff, Nat.reduceLeDiff, Nat.reduceBEq, reduceIte, reduceCtorEq, f0, f3, f5, f6, h8, hgw, hp, hdl2, show decide ((p.length : Int) < 1) = false by (simp only [decide_eq_false_iff_not]; omega), show decide ((8 : Int) < (p.length : Int)) = false by (simp only [decide_eq_false_iff_not]; omega), q_ref13_Rising, rising_res p (w2 p hmp) n, hris] | (with_reducible first | apply c1 | (first | apply c2 | apply c3) <;> (intro hc; simp only [hc]) | (first | apply c4 | apply c5) <;> (intro hc; rw [hc])))
            refine X_for 10 p.length (fun m s => s.h = h' ∧ nx' ≤ s.nx ∧ ∀ y ∈ p.take m, y ∉ (w.parts.take k).flatten) 0 (by omega) ?_ (Nat.zero_le _) ?_ ?_
            · simp only [go_sem, Int.reduceLT, Int.reduceLE, Int.reduceNeg, Int.reduceEq, Nat.reduceAdd, Nat.reduceEqDiff, Nat.reduceLeDiff, Nat.reduceBEq, reduceIte, reduceCtorEq]; rfl
            · exact ⟨by simp only [go_sem, Int.reduceLT, Int.reduceLE, Int.reduceNeg, Int.reduceEq, Nat.reduceAdd, Nat.reduceEqDiff, Nat.reduceLeDiff, Nat.reduceBEq, reduceIte, reduceCtorEq], by simp only [go_sem, Int.reduceLT, Int.reduceLE, Int.reduceNeg, Int.reduceEq, Nat.reduceAdd, Nat.reduceEqDiff, Nat.reduceLeDiff, Nat.reduceBEq, reduceIte, reduceCtorEq]; omega, by simp⟩
            intro m u g my hf hm0 hmm h10 hj3
            obtain ⟨rfl, hmy, hno⟩ := hj3
            dsimp only at hmy
            obtain ⟨d7, e7, hsnap⟩ := hsn
            have u0 := hf 0 rfl; have u3 := hf 3 rfl; have u5 := hf 5 rfl; have u6 := hf 6 rfl; have u7 := hf 7 rfl; have u8 := hf 8 rfl; have u9 := hf 9 rfl
            simp only [PT.get_set, Nat.reduceEqDiff, if_true, if_false, reduceIte, f0, f3, f5, f6, h8, e7] at u0 u3 u5 u6 u7 u8 u9
            clear hf
            rcases Nat.lt_or_ge m p.length with hlt3 | hge3
            · obtain ⟨x, hx, _, htx⟩ := get_dec (l := p) (i := m) (by simpa using hlt3)
              have hdl3 : decide ((m : Int) < (p.length : Int)) = true := by simpa using hlt3
              cases hmem : memB x (w.parts.take k).flatten with
              | true =>
                repeat' (first | simp only [go_sem, Int.reduceLT, Int.reduceLE, Int.reduceNeg, Int.reduceEq, Nat.reduceAdd, Nat.reduceEqDiff, Nat.reduceLeDiff, Nat.reduceBEq, reduceIte, reduceCtorEq, u0, u3, u5, u6, u7, u8, u9, h10, hx, hdl3, hsnap, q_ref14_Has, has_res (w.parts.take k).flatten x (by omega), hmem] | (with_reducible first | apply c1 | (first | apply c2 | apply c3) <;> (intro hc; simp only [hc]) | (first | apply c4 | apply c5) <;> (intro hc; rw [hc])))
                refine badr ?_
                have : p.all (fun x => !memB x (w.parts.take k).flatten) = false := by rw [List.all_eq_false]; exact ⟨x, List.mem_of_getElem? hx, by simp [hmem]⟩
                simp [rowB, this]
              | false =>
                repeat' (first | simp only [go_sem, Int.reduceLT, Int.reduceLE, Int.reduceNeg, Int.reduceEq, Nat.reduceAdd, Nat.reduceEqDiff, Nat.reduceLeDiff, Nat.reduceBEq, reduceIte, reduceCtorEq, u0, u3, u5, u6, u7, u8, u9, h10, hx, hdl3, hsnap, q_ref14_Has, has_res (w.parts.take k).flatten x (by omega), hmem] | (with_reducible first | apply c1 | (first | apply c2 | apply c3) <;> (intro hc; simp only [hc]) | (first | apply c4 | apply c5) <;> (intro hc; rw [hc])))
                refine ⟨hlt3, by omega, fun y hy => ?_⟩
                rw [htx, List.mem_append, List.mem_singleton] at hy
                rcases hy with hy | rfl
                · exact hno y hy
                · exact memB_not.1 hmem
            · rw [List.take_of_length_le hge3] at hno
              have hdl3 : decide ((m : Int) < (p.length : Int)) = false := by simpa using hge3
              have hrow : rowB n (w.parts.take k).flatten p = true := by
                have : p.all (fun x => !memB x (w.parts.take k).flatten) = true := by
                  rw [List.all_eq_true]; intro x hx; simpa using memB_not.2 (hno x hx)
                simp only [rowB, hris, this, Bool.and_eq_true, decide_eq_true_eq, true_and]
                omega
              have hpt2 : partsB n [] (w.parts.take (k + 1)) = true := by rw [htp, parts_snoc, hpt, hrow]; rfl
              have hpne : p ≠ [] := fun e => by simp [e] at hq0
              rcases hmet with ⟨e, h7⟩ | ⟨j, h7, gj, j0, jw, jl⟩
              · rw [h7] at e7
                cases e7
                repeat' (first | simp only [go_sem, Int.reduceLT, Int.reduceLE, Int.reduceNeg, Int.reduceEq, Nat.reduceAdd, Nat.reduceEqDiff, Nat.reduceLeDiff, Nat.reduceBEq, reduceIte, reduceCtorEq, u0, u3, u5, u6, u7, u8, u9, h10, hdl3, app_nil_L hpne (w2 p hmp)] | (with_reducible first | apply c1 | (first | apply c2 | apply c3) <;> (intro hc; simp only [hc]) | (first | apply c4 | apply c5) <;> (intro hc; rw [hc])))
                refine ⟨hlt2, hg0, by rw [if_neg (by omega)]; exact hgw, by omega, hpt2, .inr ⟨my + 6, ?_, by simp, by omega, by omega, by omega⟩⟩
                rw [htp, List.flatten_append, e]; simp
              · rw [h7] at e7
                cases e7
                have hbb : (((w.parts.take k).flatten.map I).length + p.length) * 8 ≤ 70368744177664 := by
                  rw [List.length_map]
                  have := w2 p hmp
                  omega
                repeat' (first | simp only [go_sem, Int.reduceLT, Int.reduceLE, Int.reduceNeg, Int.reduceEq, Nat.reduceAdd, Nat.reduceEqDiff, Nat.reduceLeDiff, Nat.reduceBEq, reduceIte, reduceCtorEq, u0, u3, u5, u6, u7, u8, u9, h10, hdl3, app_ow_L gj hpne hbb, show ¬ j = 0 from j0, show ¬ j = nx + 10 from jw] | (with_reducible first | apply c1 | (first | apply c2 | apply c3) <;> (intro hc; simp only [hc]) | (first | apply c4 | apply c5) <;> (intro hc; rw [hc])))
                refine ⟨hlt2, hg0, by rw [if_neg (by omega)]; exact hgw, by omega, hpt2, .inr ⟨my + 6, ?_, by simp, by omega, by omega, by omega⟩⟩
                rw [htp, List.flatten_append]; simp
        · rw [List.take_of_length_le hge2] at hpt
          repeat' (first | simp only [go_sem, Int.reduceLT, Int.reduceLE, Int.reduceNeg, Int.reduceEq, Nat.reduceAdd, Nat.reduceEqDiff, Nat.reduceLeDiff, Nat.reduceBEq, reduceIte, reduceCtorEq, f0, f3, f5, f6, h8, hgw, show decide ((k : Int) < (w.parts.length : Int)) = false by simpa using hge2] | (with_reducible first | apply c1 | (first | apply c2 | apply c3) <;> (intro hc; simp only [hc]) | (first | apply c4 | apply c5) <;> (intro hc; rw [hc])))
          refine ⟨hlt, hg0, fun y hy => ?_⟩
          rw [htk, List.mem_append, List.mem_singleton] at hy
          rcases hy with hy | rfl
          · exact hj y hy
          · simp only [wayB, hpt, Bool.and_true, Bool.and_eq_true, decide_eq_true_eq]; omega
      · rw [List.take_of_length_le hge] at hj
        repeat' (first | simp only [go_sem, Int.reduceLT, Int.reduceLE, Int.reduceNeg, Int.reduceEq, Nat.reduceAdd, Nat.reduceEqDiff, Nat.reduceLeDiff, Nat.reduceBEq, reduceIte, reduceCtorEq, h0, h3, h5, hh0, show decide ((i : Int) < (c.ways.length : Int)) = false by simpa using hge] | (with_reducible first | apply c1 | (first | apply c2 | apply c3) <;> (intro hc; simp only [hc]) | (first | apply c4 | apply c5) <;> (intro hc; rw [hc])))
        rw [s_bool]
        symm
        simp only [courseB, hn, List.all_eq_true.2 hj, Bool.and_true, Bool.true_and, Bool.and_eq_true, decide_eq_true_eq]
        omega
    · have hz : courseB n c = false := by
        simp only [courseB, Bool.and_eq_false_iff, decide_eq_false_iff_not]
        left; right; omega
      by_cases h0 : c.ways.length < 1
      · repeat' (first | simp only [go_sem, Int.reduceLT, Int.reduceLE, Int.reduceNeg, Int.reduceEq, Nat.reduceAdd, Nat.reduceEqDiff, Nat.reduceLeDiff, Nat.reduceBEq, reduceIte, reduceCtorEq, q_ref11_Name, rname_res, hn, show decide ((c.ways.length : Int) < 1) = true by (simp only [decide_eq_true_eq]; omega)] | (with_reducible first | apply c1 | (first | apply c2 | apply c3) <;> (intro hc; simp only [hc]) | (first | apply c4 | apply c5) <;> (intro hc; rw [hc])))
        rw [hz]
      · repeat' (first | simp only [go_sem, Int.reduceLT, Int.reduceLE, Int.reduceNeg, Int.reduceEq, Nat.reduceAdd, Nat.reduceEqDiff, Nat.reduceLeDiff, Nat.reduceBEq, reduceIte, reduceCtorEq, q_ref11_Name, rname_res, hn, show decide ((c.ways.length : Int) < 1) = false by (simp only [decide_eq_false_iff_not]; omega), show decide ((4 : Int) < (c.ways.length : Int)) = true by (simp only [decide_eq_true_eq]; omega)] | (with_reducible first | apply c1 | (first | apply c2 | apply c3) <;> (intro hc; simp only [hc]) | (first | apply c4 | apply c5) <;> (intro hc; rw [hc])))
        rw [hz]
end Go.Proofs.YtddmnddocbmjnaaGreat.Dv
