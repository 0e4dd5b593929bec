/- CrowdWeeks: whatever plain data comes in, the call returns true and leaves its arguments as they were. No condition. -/
import Derived.Test.YtddmnddocbmjnaaGreatPb21
import Derived.KernelRfl
import Derived.Test.YtddmnddocbmjnaaGreatRows
set_option linter.all false
set_option linter.unusedVariables false
set_option linter.unusedSectionVars false
set_option linter.unusedSimpArgs false
namespace Go.Proofs.YtddmnddocbmjnaaGreat.Dv
def m_law43_CrowdWeeks : MF := ⟨34, (.seq (.reg none [Oo 4 (.box (.t 0)), Oo 6 (.box (.t 2)), Oo 8 (.mov (.d (.p (.s (.bool false)))))]) (.seq (.seq (.reg none [Oo 9 (.load true 15 (.t 4)), Om 10 1, Oo 11 (.call 8 [.t 9, .t 10]), Oo 12 (.un .not (.t 11)), Om 13 12, Og 14 13 false (.load true 1 (.t 6)), Og 15 13 false (.bldS false (some 1) 1 [.t 14]), Og 16 13 false (.call 9 [.t 15]), Og 17 13 false (.un .not (.t 16)), Oo 18 (.pick (.t 13) (.d (.p (.s (.bool true)))) (.t 17))]) (.cond (.t 18) (.seq (.reg none [Oo 19 (.call 10 []), Om 8 19]) .ret) .skip)) (.seq (.reg (some #[0, 0, 0, 0, 15, 0, 0, 0, 0, 511, 1023, 2047, 4095, 8191, 16383]) [Oo 20 (.load true 15 (.t 4)), Om 21 1, Oo 22 (.load true 1 (.t 6)), Om 23 3, Oo 24 (.call 24 [.t 20, .t 21, .t 22, .t 23]), Oo 25 (.load true 15 (.t 4)), Om 26 1, Oo 27 (.load true 1 (.t 6)), Om 28 3, Oo 29 (.call 25 [.t 25, .t 26, .t 27, .t 28]), Oo 30 (.call 23 [.t 24, .t 29]), Om 31 30, Og 32 31 true (.call 10 []), Oo 33 (.pick (.t 31) (.t 32) (.d (.p (.s (.bool false))))), Om 8 33]) .ret))), [.tmp 8]⟩
theorem c_law43_CrowdWeeks : comp Tryz.prog G0 5 = some m_law43_CrowdWeeks := by kernel_rfl
def weekB (p : VProblem) (l : List VSeat) (wk : Int) : Bool := planB p l && decide (0 ≤ wk) && decide (wk < p.grid.weeks)
theorem week_bad (p : VProblem) (hp : smP p) (l : List VSeat) (hl : l.length ≤ 1048576) (x : VLoad) (wk : Int) (hb : weekB p l wk = false) :
    res Tryz.prog G0 24 [p.P, .lst (l.map VSeat.P), x.P, I wk] = some (.lst []) := by
  refine res_body c_crowd_Week (Nat.le_of_ble_eq_true rfl) ?_
  simp only [m_crowd_Week, Oo, Ou, Og, Ci, Om, Of, Ol, Ok]
  cases hpl : planB p l with
  | false => repeat' (first | simp only [go_sem, Int.reduceLT, Int.reduceLE, Int.reduceNeg, Int.reduceEq, Nat.reduceAdd, Nat.reduceEqDiff, Nat.reduceLeDiff, Nat.reduceBEq, reduceIte, reduceCtorEq, q_plan_Right, plan_res p hp l hl, hpl] | (with_reducible first | apply c1 | (first | apply c2 | apply c3) <;> (intro hc; simp only [hc]) | (first | apply c4 | apply c5) <;> (intro hc; rw [hc])))
  | true =>
    by_cases h0 : wk < 0
    · repeat' (first | simp only [go_sem, Int.reduceLT, Int.reduceLE, Int.reduceNeg, Int.reduceEq, Nat.reduceAdd, Nat.reduceEqDiff, Nat.reduceLeDiff, Nat.reduceBEq, reduceIte, reduceCtorEq, q_plan_Right, plan_res p hp l hl, hpl, show decide (wk < 0) = true by simpa using h0] | (with_reducible first | apply c1 | (first | apply c2 | apply c3) <;> (intro hc; simp only [hc]) | (first | apply c4 | apply c5) <;> (intro hc; rw [hc])))
    · have h1 : p.grid.weeks ≤ wk := by
        simp only [weekB, hpl, Bool.true_and, Bool.and_eq_false_iff, decide_eq_false_iff_not] at hb
        omega
      repeat' (first | simp only [go_sem, Int.reduceLT, Int.reduceLE, Int.reduceNeg, Int.reduceEq, Nat.reduceAdd, Nat.reduceEqDiff, Nat.reduceLeDiff, Nat.reduceBEq, reduceIte, reduceCtorEq, q_plan_Right, plan_res p hp l hl, hpl, show decide (wk < 0) = false by simpa using h0, show decide (p.grid.weeks ≤ wk) = true by simpa using h1] | (with_reducible first | apply c1 | (first | apply c2 | apply c3) <;> (intro hc; simp only [hc]) | (first | apply c4 | apply c5) <;> (intro hc; rw [hc])))
theorem rweek_bad (p : VProblem) (hp : smP p) (l : List VSeat) (hl : l.length ≤ 1048576) (x : VLoad) (wk : Int) (hb : weekB p l wk = false) :
    res Tryz.prog G0 25 [p.P, .lst (l.map VSeat.P), x.P, I wk] = some (.lst []) := by
  refine res_body c_ref43_Week (Nat.le_of_ble_eq_true rfl) ?_
  simp only [m_ref43_Week, Oo, Ou, Og, Ci, Om, Of, Ol, Ok]
  cases hpl : planB p l with
  | false => repeat' (first | simp only [go_sem, Int.reduceLT, Int.reduceLE, Int.reduceNeg, Int.reduceEq, Nat.reduceAdd, Nat.reduceEqDiff, Nat.reduceLeDiff, Nat.reduceBEq, reduceIte, reduceCtorEq, bldS_nil, esK, q_ref19_Right, rplan_res p hp l hl, hpl] | (with_reducible first | apply c1 | (first | apply c2 | apply c3) <;> (intro hc; simp only [hc]) | (first | apply c4 | apply c5) <;> (intro hc; rw [hc])))
  | true =>
    by_cases h0 : wk < 0
    · repeat' (first | simp only [go_sem, Int.reduceLT, Int.reduceLE, Int.reduceNeg, Int.reduceEq, Nat.reduceAdd, Nat.reduceEqDiff, Nat.reduceLeDiff, Nat.reduceBEq, reduceIte, reduceCtorEq, bldS_nil, esK, q_ref19_Right, rplan_res p hp l hl, hpl, show decide (wk < 0) = true by simpa using h0] | (with_reducible first | apply c1 | (first | apply c2 | apply c3) <;> (intro hc; simp only [hc]) | (first | apply c4 | apply c5) <;> (intro hc; rw [hc])))
    · have h1 : p.grid.weeks ≤ wk := by
        simp only [weekB, hpl, Bool.true_and, Bool.and_eq_false_iff, decide_eq_false_iff_not] at hb
        omega
      repeat' (first | simp only [go_sem, Int.reduceLT, Int.reduceLE, Int.reduceNeg, Int.reduceEq, Nat.reduceAdd, Nat.reduceEqDiff, Nat.reduceLeDiff, Nat.reduceBEq, reduceIte, reduceCtorEq, bldS_nil, esK, q_ref19_Right, rplan_res p hp l hl, hpl, show decide (wk < 0) = false by simpa using h0, show decide (p.grid.weeks ≤ wk) = true by simpa using h1] | (with_reducible first | apply c1 | (first | apply c2 | apply c3) <;> (intro hc; simp only [hc]) | (first | apply c4 | apply c5) <;> (intro hc; rw [hc])))
theorem bldS_load {x : VLoad} {id : Nat} : bldSX false (some 1) 1 [.p x.P] id = some { dv := .ow id [x.P], rd := [], up := [(id, some (.tip 1))] } := rfl
theorem weeks_true (p : VProblem) (hb : p.bg) (l : List VSeat) (x : VLoad) (wk : Int) : res Tryz.prog G0 5 [p.P, .lst (l.map VSeat.P), x.P, I wk] = some (B true) := by
  have hfew := few_res p (bg_courses hb) l
  have hsh : res Tryz.prog G0 9 [.lst [x.P]] = some (B (shortB [x])) := short_res [x]
  refine res_body c_law43_CrowdWeeks (Nat.le_of_ble_eq_true rfl) ?_
  simp only [m_law43_CrowdWeeks, Oo, Ou, Og, Ci, Om, Of, Ol, Ok]
  cases hF : fewB p l
  · rw [hF] at hfew
    repeat' (first | simp only [go_sem, Int.reduceLT, Int.reduceLE, Int.reduceNeg, Int.reduceEq, Nat.reduceAdd, Nat.reduceEqDiff, Nat.reduceLeDiff, Nat.reduceBEq, reduceIte, reduceCtorEq, q_law43_few, hfew, q_law43_heads, heads_res] | (with_reducible first | apply c1 | (first | apply c2 | apply c3) <;> (intro hc; simp only [hc]) | (first | apply c4 | apply c5) <;> (intro hc; rw [hc])))
  rw [hF] at hfew
  cases hS : shortB [x]
  · rw [hS] at hsh
    repeat' (first | simp only [go_sem, Int.reduceLT, Int.reduceLE, Int.reduceNeg, Int.reduceEq, Nat.reduceAdd, Nat.reduceEqDiff, Nat.reduceLeDiff, Nat.reduceBEq, reduceIte, reduceCtorEq, q_law43_few, hfew, bldS_load, q_law43_short, hsh, q_law43_heads, heads_res] | (with_reducible first | apply c1 | (first | apply c2 | apply c3) <;> (intro hc; simp only [hc]) | (first | apply c4 | apply c5) <;> (intro hc; rw [hc])))
  rw [hS] at hsh
  obtain ⟨hp, hl⟩ := few_sm hb hF
  obtain ⟨hw, _⟩ := short_S hS
  have hx := hw x (by simp)
  have hL : l.length ≤ 1048576 := by omega
  have hboth : ∃ ls : List T3, ls.length ≤ 1048576 ∧ res Tryz.prog G0 24 [p.P, .lst (l.map VSeat.P), x.P, I wk] = some (.lst (ls.map P3)) ∧ res Tryz.prog G0 25 [p.P, .lst (l.map VSeat.P), x.P, I wk] = some (.lst (ls.map P3)) := by
    cases hW : weekB p l wk
    · exact ⟨[], by simp, week_bad p hp l hL x wk hW, rweek_bad p hp l hL x wk hW⟩
    · simp only [weekB, Bool.and_eq_true, decide_eq_true_eq] at hW
      obtain ⟨⟨hpl, w0⟩, w1⟩ := hW
      have hg : gridB p.grid = true := by
        simp only [planB, probB, Bool.and_eq_true] at hpl
        obtain ⟨⟨_, hpl⟩, _⟩ := hpl
        exact hpl.1.1.1.1.1.1.1.1.2
      simp only [gridB, Bool.and_eq_true, decide_eq_true_eq] at hg
      obtain ⟨week, rfl⟩ := Int.eq_ofNat_of_zero_le w0
      obtain ⟨n, hn⟩ := Int.eq_ofNat_of_zero_le (show 0 ≤ p.grid.days by omega)
      refine ⟨isort3 (wkL p l week n (allL x)), ?_, week_res p hp l hL x hx week n (by omega) w1 hn (by omega) hpl, ?_⟩
      · rw [(isort3_perm _).length_eq]
        have e1 := wkL_len (p := p) (l := l) (week := week) (n := n) (k := allL x)
        have e2 : (allL x).length * n ≤ 64 * 8 := Nat.mul_le_mul (rallL x hx).2.2 (by omega)
        omega
      · rw [isort3_foldR]
        exact rweek_res p hp l hL x hx week n (by omega) w1 hn (by omega) hpl
  obtain ⟨ls, h0, h1, h2⟩ := hboth
  have h3 := threes_res ls ls h0
  rw [decide_eq_true rfl] at h3
  repeat' (first | simp only [go_sem, Int.reduceLT, Int.reduceLE, Int.reduceNeg, Int.reduceEq, Nat.reduceAdd, Nat.reduceEqDiff, Nat.reduceLeDiff, Nat.reduceBEq, reduceIte, reduceCtorEq, q_law43_few, hfew, bldS_load, q_law43_short, hsh, q_crowd_Week, h1, q_ref43_Week, h2, q_ref43_Threes, h3, q_law43_heads, heads_res] | (with_reducible first | apply c1 | (first | apply c2 | apply c3) <;> (intro hc; simp only [hc]) | (first | apply c4 | apply c5) <;> (intro hc; rw [hc])))
theorem wtA_4 {P : Program} {a b c d : TypeId} {xs : List PDV} (h : wtA P [a, b, c, d] xs) : ∃ x y z u, xs = [x, y, z, u] ∧ wtV P a x ∧ wtV P b y ∧ wtV P c z ∧ wtV P d u := by
  match xs, h with
  | [x, y, z, u], h => exact ⟨x, y, z, u, rfl, h.1, h.2.1, h.2.2.1, h.2.2.2.1⟩
set_option maxRecDepth 100000 in
theorem weeks_law (xs : List PDV) (h : wtA Tryz.prog Tryz.f5.params.toList xs) : ∃ k, callP Tryz.prog G0 k 5 xs = some (.s (.bool true)) := by
  have e0 : Tryz.f5.params.toList = [34, 35, 44, 3] := by kernel_rfl
  rw [e0] at h
  have a0 : aggT Tryz.prog 34 = some true := by kernel_rfl
  have b0 : aggT Tryz.prog 35 = some false := by kernel_rfl
  have c0 : aggT Tryz.prog 44 = some true := by kernel_rfl
  have d0 : aggT Tryz.prog 3 = some false := by kernel_rfl
  obtain ⟨a, b, c, d, hx, ha, hb, hc, hd⟩ := wtA_4 h
  obtain ⟨x, ha1, ha2⟩ := wtV_t ha a0
  have q1 : wt Tryz.prog 12 34 x := ha2
  have q2 : ∃ x1 : VProblem, x = x1.P.cells ∧ x1.bg := w_Problem q1
  obtain ⟨p, hp, hp2⟩ := q2
  obtain ⟨l, hl, _⟩ := w_seats (n := 12) (ds := [b]) (wtV_f hb b0)
  obtain ⟨y, hc1, hc2⟩ := wtV_t hc c0
  have r1 : wt Tryz.prog 12 44 y := hc2
  have r2 : ∃ x1 : VLoad, y = x1.P.cells ∧ x1.bg := w_Load r1
  obtain ⟨w, hw, _⟩ := r2
  have s1 : wt Tryz.prog 12 3 [d] := wtV_f hd d0
  have s2 : ∃ m, [d] = [I m] ∧ iR m := w_i64 (n := 11) Tryz.underlying3 s1
  obtain ⟨m, hm, _⟩ := s2
  rw [hx, ha1, hp, List.singleton_inj.1 hl, hc1, hw, List.singleton_inj.1 hm]
  exact callP_res (weeks_true p hp2 l w m)
end Go.Proofs.YtddmnddocbmjnaaGreat.Dv
namespace Go.Proofs.YtddmnddocbmjnaaGreat
open Go.RowKit Go.WideShapes Go.ChangeShapes
set_option maxRecDepth 100000 in
theorem crowdWeeks_lifted (os : Os) (started : os.Started) (H : Type) (enc : TypeId × Value → H) :
    ReturnsInHanded {} Tryz.checked os 5 .any (Rows.crowdWeeksSpec.pre6 enc Tryz.prog Tryz.f5 Rows.crowdWeeksRow.domain false) (Rows.crowdWeeksSpec.post enc Tryz.prog Tryz.f5 false true false false) := by
  refine Dv.law_lift (C := Tryz.checked) Dv.extOK Dv.extLoc Dv.codeOK Dv.mixed Tryz.laidOut Tryz.own started (by kernel_rfl) Tryz.func5
    (ChangeSpec.witness6 (enc := enc) (C := Tryz.checked) false ⟨#[], #[Dv.zvP Tryz.prog 34, Dv.zvP Tryz.prog 35, Dv.zvP Tryz.prog 44, Dv.zvP Tryz.prog 3], []⟩ 12 (by kernel_rfl) (by kernel_rfl) (by kernel_rfl) (by kernel_rfl))
    rfl rfl rfl Tryz.underlying4 (by decide +kernel) (fun ds hds => by
    match ds, hds with
    | [a, b, c, d], _ => exact ⟨rfl, rfl, rfl⟩) Dv.weeks_law
set_option maxHeartbeats 4000000 in
theorem crowdWeeks_facts : joinedFacts Tryz.prog 5 Tryz.f5 Rows.crowdWeeksSpec Rows.crowdWeeksRow = true := by
  unfold joinedFacts
  simp only [Bool.and_eq_true]
  repeat' apply And.intro
  all_goals (as_aux_lemma => kernel_rfl)
theorem crowdWeeks_holds : Rows.CrowdWeeksSaid :=
  OpenClaim.holds_of_wide 5 Tryz.f5 rfl rfl rfl rfl rfl rfl rfl ⟨rfl, rfl, rfl, rfl, rfl⟩ rfl rfl rfl rfl rfl (by kernel_rfl) Tryz.func5 crowdWeeks_facts
    (of_decide_eq_true (by kernel_rfl)) (by unfold Func.isWrapper; first | (rw [if_pos (by decide +kernel)]; kernel_rfl) | (rw [if_neg (by decide +kernel)]; exact ⟨rfl, rfl⟩))
    (fun os started H enc _ => crowdWeeks_lifted os started H enc)
end Go.Proofs.YtddmnddocbmjnaaGreat
