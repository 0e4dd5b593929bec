/- Part 12 of the proof: CrowdWeeks: whatever plain data comes in, the call returns true and leaves its arguments as they were. No condition. -/
import Derived.Test.YtddmnddocbmjnaaGreatPb11
import Derived.KernelRfl
set_option linter.all false
set_option linter.unusedVariables false
set_option linter.unusedSectionVars false
set_option linter.unusedSimpArgs false
namespace Go.Proofs.YtddmnddocbmjnaaGreat.Dv
def m_slices_IndexFunc_Lapi_When_api_When_ : MF := ⟨19, (.seq (.reg none [Oo 4 (.mov (.d (Ci 0)))]) (.seq (.seq (.reg none [Om 6 0, Ok 7 6, Oo 8 (.mov (.d (Ci 0)))]) (.block 0 (.loop (.seq (.reg none [Oo 9 (.iop .lss (.t 8) (.t 7))]) (.seq (.cond (.t 9) .skip (.exit 0)) (.seq (.block 1 (.seq (.reg none [Om 10 8, Om 5 10]) (.seq (.reg none [Om 11 1, Om 12 0, Om 13 5, Oo 14 (.iadrS 4 (.t 12) (.t 13)), Oo 15 (.load true 4 (.t 14)), Oo 16 (.callv (.t 11) [.t 15])]) (.cond (.t 16) (.seq (.reg none [Om 17 5, Om 4 17]) .ret) .skip)))) (.reg none [Oo 18 (.iop .add (.t 8) (.d (Ci 1))), Om 8 18]))))))) (.seq (.reg none [Oo 4 (.mov (.d (Ci (-1))))]) .ret))), [.tmp 4]⟩
theorem c_slices_IndexFunc_Lapi_When_api_When_ : comp Tryz.prog G0 241 = some m_slices_IndexFunc_Lapi_When_api_When_ := by kernel_rfl
theorem q_slices_IndexFunc_Lapi_When_api_When_ : Q0 241 := mCall_pure rfl
def m_slices_ContainsFunc_Lapi_When_api_When_ : MF := ⟨9, (.seq (.reg none [Oo 4 (.mov (.d (.p (.s (.bool false)))))]) (.seq (.reg none [Om 5 0, Om 6 1, Oo 7 (.call 241 [.t 5, .t 6]), Oo 8 (.iop .geq (.t 7) (.d (Ci 0))), Om 4 8]) .ret)), [.tmp 4]⟩
theorem c_slices_ContainsFunc_Lapi_When_api_When_ : comp Tryz.prog G0 201 = some m_slices_ContainsFunc_Lapi_When_api_When_ := by kernel_rfl
theorem q_slices_ContainsFunc_Lapi_When_api_When_ : Q0 201 := mCall_pure rfl
theorem idxFW_res (l : List VWhen) (hl : l.length < 4611686018427387904) (c : PDV) (p : VWhen → Bool) (hc : ∀ x ∈ l, App Tryz.prog G0 c [VWhen.P x] (B (p x))) : ∃ q, res Tryz.prog G0 241 [.lst (l.map VWhen.P), c] = some q ∧ ∃ k : Int, q = I k ∧ decide (0 ≤ k) = l.any p := by
  refine res_ex c_slices_IndexFunc_Lapi_When_api_When_ (Nat.le_of_ble_eq_true rfl) ?_
  simp only [m_slices_IndexFunc_Lapi_When_api_When_, Oo, Ou, Og, Ci, Om, Of, Ol, Ok]
  repeat' (first | simp only [go_sem, Int.reduceLT, Int.reduceLE, Int.reduceNeg, Int.reduceEq, Nat.reduceAdd, Nat.reduceEqDiff, Nat.reduceLeDiff, Nat.reduceBEq, reduceIte, reduceCtorEq] | (with_reducible first | apply c1 | (first | apply c2 | apply c3) <;> (intro hc; simp only [hc]) | (first | apply c4 | apply c5) <;> (intro hc; rw [hc])))
  refine X_for 8 l.length (fun i s => ∀ x ∈ l.take i, p x = false) 0 hl ?_ (Nat.zero_le _) (by simp) ?_
  · simp only [go_sem, Int.reduceLT, Int.reduceLE, Int.reduceNeg, Int.reduceEq, Nat.reduceAdd, Nat.reduceEqDiff, Nat.reduceLeDiff, Nat.reduceBEq, reduceIte, reduceCtorEq]; rfl
  intro i t h nx hf hi0 hi h8 hj
  have h0 := hf 0 rfl; simp only [PT.get_set, Nat.reduceEqDiff, if_true, if_false, reduceIte, PT.get_leaf] at h0; have h1 := hf 1 rfl; simp only [PT.get_set, Nat.reduceEqDiff, if_true, if_false, reduceIte, PT.get_leaf] at h1; have h7 := hf 7 rfl; simp only [PT.get_set, Nat.reduceEqDiff, if_true, if_false, reduceIte, PT.get_leaf] at h7
  clear hf
  rcases Nat.lt_or_ge i l.length with hlt | hge
  · obtain ⟨x, hx, _, htk⟩ := get_dec (l := l) (i := i) (by simpa using hlt)
    have hm : x ∈ l := List.mem_of_getElem? hx
    have hcv := callv_1 (hc x hm)
    repeat' (first | simp only [go_sem, Int.reduceLT, Int.reduceLE, Int.reduceNeg, Int.reduceEq, Nat.reduceAdd, Nat.reduceEqDiff, Nat.reduceLeDiff, Nat.reduceBEq, reduceIte, reduceCtorEq, h0, h1, h7, h8, hx, hcv, show decide ((i : Int) < (l.length : Int)) = true by simpa using hlt] | (with_reducible first | apply c1 | (first | apply c2 | apply c3) <;> (intro hc; simp only [hc]) | (first | apply c4 | apply c5) <;> (intro hc; rw [hc])))
    · refine ⟨_, rfl, ?_⟩
      rename_i hpx
      rw [List.any_eq_true.2 ⟨x, hm, by assumption⟩]
      simp
    · refine ⟨hlt, fun y hy => ?_⟩
      rw [htk, List.mem_append, List.mem_singleton] at hy
      rcases hy with hy | rfl
      · exact hj y hy
      · assumption
  · have he : l.take i = l := List.take_of_length_le hge
    repeat' (first | simp only [go_sem, Int.reduceLT, Int.reduceLE, Int.reduceNeg, Int.reduceEq, Nat.reduceAdd, Nat.reduceEqDiff, Nat.reduceLeDiff, Nat.reduceBEq, reduceIte, reduceCtorEq, h0, h1, h7, h8, show decide ((i : Int) < (l.length : Int)) = false by simpa using hge] | (with_reducible first | apply c1 | (first | apply c2 | apply c3) <;> (intro hc; simp only [hc]) | (first | apply c4 | apply c5) <;> (intro hc; rw [hc])))
    refine ⟨_, rfl, ?_⟩
    rw [he] at hj
    symm
    simpa using hj
theorem hasFW_res (l : List VWhen) (hl : l.length < 4611686018427387904) (c : PDV) (p : VWhen → Bool) (hc : ∀ x ∈ l, App Tryz.prog G0 c [VWhen.P x] (B (p x))) : res Tryz.prog G0 201 [.lst (l.map VWhen.P), c] = some (B (l.any p)) := by
  obtain ⟨q, hq, k, rfl, hk⟩ := idxFW_res l hl c p hc
  refine res_body c_slices_ContainsFunc_Lapi_When_api_When_ (Nat.le_of_ble_eq_true rfl) ?_
  simp only [m_slices_ContainsFunc_Lapi_When_api_When_, Oo, Ou, Og, Ci, Om, Of, Ol, Ok]
  repeat' (first | simp only [go_sem, Int.reduceLT, Int.reduceLE, Int.reduceNeg, Int.reduceEq, Nat.reduceAdd, Nat.reduceEqDiff, Nat.reduceLeDiff, Nat.reduceBEq, reduceIte, reduceCtorEq, q_slices_IndexFunc_Lapi_When_api_When_, hq, hk] | (with_reducible first | apply c1 | (first | apply c2 | apply c3) <;> (intro hc; simp only [hc]) | (first | apply c4 | apply c5) <;> (intro hc; rw [hc])))
def m_ref11_Whens : MF := ⟨25, (.seq (.reg none [Oo 3 (.box (.t 0)), Oo 6 (.mov (.d (.p (.s (.bool false)))))]) (.seq (.seq (.reg none [Oo 7 (.mov (.d (Ci 0)))]) (.block 0 (.loop (.seq (.seq (.reg none [Om 8 7, Om 9 1, Ok 10 9, Oo 11 (.iop .lss (.t 8) (.t 10))]) (.cond (.t 11) .skip (.exit 0))) (.seq (.block 1 (.seq (.reg (some #[0, 0, 0, 6, 14, 31, 63]) [Oo 14 (.load true 3 (.t 3)), Om 15 1, Om 16 7, Oo 17 (.iadrS 4 (.t 15) (.t 16)), Oo 18 (.load true 4 (.t 17)), Oo 19 (.call 220 [.t 14, .t 18]), Oo 20 (.un .not (.t 19))]) (.cond (.t 20) (.seq (.reg none [Oo 6 (.mov (.d (.p (.s (.bool false)))))]) .ret) .skip))) (.reg none [Om 12 7, Oo 13 (.iop .add (.t 12) (.d (Ci 1))), Om 7 13])))))) (.seq (.reg none [Om 21 1, Ok 22 21, Om 23 2, Oo 24 (.iop .leq (.t 22) (.t 23)), Om 6 24]) .ret))), [.tmp 6]⟩
theorem c_ref11_Whens : comp Tryz.prog G0 259 = some m_ref11_Whens := by kernel_rfl
theorem q_ref11_Whens : Q0 259 := mCall_pure rfl
def m_room_Right_1 : MF := ⟨8, (.seq (.reg none [Oo 2 (.box (.t 0)), Oo 3 (.mov (.d (.p (.s (.bool false)))))]) (.seq (.reg none [Oo 4 (.load true 3 (.t 1)), Oo 5 (.load true 4 (.t 2)), Oo 6 (.call 161 [.t 4, .t 5]), Oo 7 (.un .not (.t 6)), Om 3 7]) .ret)), [.tmp 3]⟩
theorem c_room_Right_1 : comp Tryz.prog G0 200 = some m_room_Right_1 := by kernel_rfl
theorem k_room_Right_1 : callable Tryz.prog 200 = true := by kernel_rfl
def m_room_Right : MF := ⟨37, (.seq (.reg none [Oo 2 (.box (.t 0)), Oo 3 (.box (.t 1)), Oo 4 (.mov (.d (.p (.s (.bool false)))))]) (.seq (.reg none [Oo 6 (.mkf (.func 200) [] [.t 2]), Om 5 6]) (.seq (.reg none [Oo 7 (.load true 3 (.t 2)), Oo 8 (.call 120 [.t 7]), Om 9 8, Og 10 9 true (.fadr 0 (.t 3)), Og 11 9 true (.load false 1 (.t 10)), Og 12 9 true (.call 119 [.t 11]), Oo 13 (.pick (.t 9) (.t 12) (.d (.p (.s (.bool false))))), Om 14 13, Og 15 14 true (.fadr 1 (.t 3)), Og 16 14 true (.load false 1 (.t 15)), Og 17 14 true (.iop .geq (.t 16) (.d (Ci 0))), Oo 18 (.pick (.t 14) (.t 17) (.d (.p (.s (.bool false))))), Om 19 18, Og 20 19 true (.fadr 1 (.t 3)), Og 21 19 true (.load false 1 (.t 20)), Og 22 19 true (.iop .leq (.t 21) (.d (Ci 10000))), Oo 23 (.pick (.t 19) (.t 22) (.d (.p (.s (.bool false))))), Om 24 23, Og 25 24 true (.fadr 3 (.t 3)), Og 26 24 true (.load false 1 (.t 25)), Og 27 24 true (.lenL (.t 26)), Og 28 24 true (.iop .leq (.t 27) (.d (Ci 16))), Oo 29 (.pick (.t 24) (.t 28) (.d (.p (.s (.bool false))))), Om 30 29, Og 31 30 true (.fadr 3 (.t 3)), Og 32 30 true (.load false 1 (.t 31)), Og 33 30 true (.mov (.t 5)), Og 34 30 true (.call 201 [.t 32, .t 33]), Og 35 30 true (.un .not (.t 34)), Oo 36 (.pick (.t 30) (.t 35) (.d (.p (.s (.bool false))))), Om 4 36]) .ret))), [.tmp 4]⟩
theorem c_room_Right : comp Tryz.prog G0 124 = some m_room_Right := by kernel_rfl
theorem q_room_Right : Q0 124 := mCall_pure rfl
def m_ref11_Right : MF := ⟨28, (.seq (.reg none [Oo 2 (.box (.t 0)), Oo 3 (.box (.t 1)), Oo 4 (.mov (.d (.p (.s (.bool false)))))]) (.seq (.reg none [Oo 5 (.load true 3 (.t 2)), Oo 6 (.call 190 [.t 5]), Om 7 6, Og 8 7 true (.fadr 0 (.t 3)), Og 9 7 true (.load false 1 (.t 8)), Og 10 7 true (.call 189 [.t 9]), Oo 11 (.pick (.t 7) (.t 10) (.d (.p (.s (.bool false))))), Om 12 11, Og 13 12 true (.fadr 1 (.t 3)), Og 14 12 true (.load false 1 (.t 13)), Og 15 12 true (.iop .geq (.t 14) (.d (Ci 0))), Oo 16 (.pick (.t 12) (.t 15) (.d (.p (.s (.bool false))))), Om 17 16, Og 18 17 true (.fadr 1 (.t 3)), Og 19 17 true (.load false 1 (.t 18)), Og 20 17 true (.iop .leq (.t 19) (.d (Ci 10000))), Oo 21 (.pick (.t 17) (.t 20) (.d (.p (.s (.bool false))))), Om 22 21, Og 23 22 true (.load true 3 (.t 2)), Og 24 22 true (.fadr 3 (.t 3)), Og 25 22 true (.load false 1 (.t 24)), Og 26 22 true (.call 259 [.t 23, .t 25, (.d (Ci 16))]), Oo 27 (.pick (.t 22) (.t 26) (.d (.p (.s (.bool false))))), Om 4 27]) .ret)), [.tmp 4]⟩
theorem c_ref11_Right : comp Tryz.prog G0 235 = some m_ref11_Right := by kernel_rfl
theorem q_ref11_Right : Q0 235 := mCall_pure rfl
def m_person_Right_1 : MF := ⟨8, (.seq (.reg none [Oo 2 (.box (.t 0)), Oo 3 (.mov (.d (.p (.s (.bool false)))))]) (.seq (.reg none [Oo 4 (.load true 3 (.t 1)), Oo 5 (.load true 4 (.t 2)), Oo 6 (.call 161 [.t 4, .t 5]), Oo 7 (.un .not (.t 6)), Om 3 7]) .ret)), [.tmp 3]⟩
theorem c_person_Right_1 : comp Tryz.prog G0 202 = some m_person_Right_1 := by kernel_rfl
theorem k_person_Right_1 : callable Tryz.prog 202 = true := by kernel_rfl
def m_person_Right : MF := ⟨27, (.seq (.reg none [Oo 2 (.box (.t 0)), Oo 3 (.box (.t 1)), Oo 4 (.mov (.d (.p (.s (.bool false)))))]) (.seq (.reg none [Oo 6 (.mkf (.func 202) [] [.t 2]), Om 5 6]) (.seq (.reg none [Oo 7 (.load true 3 (.t 2)), Oo 8 (.call 120 [.t 7]), Om 9 8, Og 10 9 true (.fadr 0 (.t 3)), Og 11 9 true (.load false 1 (.t 10)), Og 12 9 true (.call 119 [.t 11]), Oo 13 (.pick (.t 9) (.t 12) (.d (.p (.s (.bool false))))), Om 14 13, Og 15 14 true (.fadr 1 (.t 3)), Og 16 14 true (.load false 1 (.t 15)), Og 17 14 true (.lenL (.t 16)), Og 18 14 true (.iop .leq (.t 17) (.d (Ci 16))), Oo 19 (.pick (.t 14) (.t 18) (.d (.p (.s (.bool false))))), Om 20 19, Og 21 20 true (.fadr 1 (.t 3)), Og 22 20 true (.load false 1 (.t 21)), Og 23 20 true (.mov (.t 5)), Og 24 20 true (.call 201 [.t 22, .t 23]), Og 25 20 true (.un .not (.t 24)), Oo 26 (.pick (.t 20) (.t 25) (.d (.p (.s (.bool false))))), Om 4 26]) .ret))), [.tmp 4]⟩
theorem c_person_Right : comp Tryz.prog G0 129 = some m_person_Right := by kernel_rfl
theorem q_person_Right : Q0 129 := mCall_pure rfl
def m_ref12_Right : MF := ⟨18, (.seq (.reg none [Oo 2 (.box (.t 0)), Oo 3 (.box (.t 1)), Oo 4 (.mov (.d (.p (.s (.bool false)))))]) (.seq (.reg none [Oo 5 (.load true 3 (.t 2)), Oo 6 (.call 190 [.t 5]), Om 7 6, Og 8 7 true (.fadr 0 (.t 3)), Og 9 7 true (.load false 1 (.t 8)), Og 10 7 true (.call 189 [.t 9]), Oo 11 (.pick (.t 7) (.t 10) (.d (.p (.s (.bool false))))), Om 12 11, Og 13 12 true (.load true 3 (.t 2)), Og 14 12 true (.fadr 1 (.t 3)), Og 15 12 true (.load false 1 (.t 14)), Og 16 12 true (.call 259 [.t 13, .t 15, (.d (Ci 16))]), Oo 17 (.pick (.t 12) (.t 16) (.d (.p (.s (.bool false))))), Om 4 17]) .ret)), [.tmp 4]⟩
theorem c_ref12_Right : comp Tryz.prog G0 237 = some m_ref12_Right := by kernel_rfl
theorem q_ref12_Right : Q0 237 := mCall_pure rfl
theorem whens_res (g : VGrid) (l : List VWhen) (hl : l.length < 4611686018427387904) (m : Int) : res Tryz.prog G0 259 [g.P, .lst (l.map VWhen.P), I m] = some (B (l.all (whenB g) && decide ((l.length : Int) ≤ m))) := by
  refine res_body c_ref11_Whens (Nat.le_of_ble_eq_true rfl) ?_
  simp only [m_ref11_Whens, Oo, Ou, Og, Ci, Om, Of, Ol, Ok]
  repeat' (first | simp only [go_sem, Int.reduceLT, Int.reduceLE, Int.reduceNeg, Int.reduceEq, Nat.reduceAdd, Nat.reduceEqDiff, Nat.reduceLeDiff, Nat.reduceBEq, reduceIte, reduceCtorEq] | (with_reducible first | apply c1 | (first | apply c2 | apply c3) <;> (intro hc; simp only [hc]) | (first | apply c4 | apply c5) <;> (intro hc; rw [hc])))
  refine X_for 7 l.length (fun i s => s.h.get 0 = some (.cells (DV.cells (.p g.P)) false) ∧ ∀ x ∈ l.take i, whenB g x = true) 0 hl ?_ (Nat.zero_le _) ⟨by simp only [go_sem, Int.reduceLT, Int.reduceLE, Int.reduceNeg, Int.reduceEq, Nat.reduceAdd, Nat.reduceEqDiff, Nat.reduceLeDiff, Nat.reduceBEq, reduceIte, reduceCtorEq], by simp⟩ ?_
  · simp only [go_sem, Int.reduceLT, Int.reduceLE, Int.reduceNeg, Int.reduceEq, Nat.reduceAdd, Nat.reduceEqDiff, Nat.reduceLeDiff, Nat.reduceBEq, reduceIte, reduceCtorEq]; rfl
  intro i t h nx hf hi0 hi h7 hj
  obtain ⟨hh0, hj⟩ := hj
  dsimp only at hh0
  have h1 := hf 1 rfl; simp only [PT.get_set, Nat.reduceEqDiff, if_true, if_false, reduceIte, PT.get_leaf] at h1; have h2 := hf 2 rfl; simp only [PT.get_set, Nat.reduceEqDiff, if_true, if_false, reduceIte, PT.get_leaf] at h2; have h3 := hf 3 rfl; simp only [PT.get_set, Nat.reduceEqDiff, if_true, if_false, reduceIte, PT.get_leaf] at h3
  clear hf
  rcases Nat.lt_or_ge i l.length with hlt | hge
  · obtain ⟨x, hx, _, htk⟩ := get_dec (l := l) (i := i) (by simpa using hlt)
    have hm : x ∈ l := List.mem_of_getElem? hx
    repeat' (first | simp only [go_sem, Int.reduceLT, Int.reduceLE, Int.reduceNeg, Int.reduceEq, Nat.reduceAdd, Nat.reduceEqDiff, Nat.reduceLeDiff, Nat.reduceBEq, reduceIte, reduceCtorEq, h1, h2, h3, h7, hh0, hx, q_ref09_Right, rwhen_res, show decide ((i : Int) < (l.length : Int)) = true by simpa using hlt] | (with_reducible first | apply c1 | (first | apply c2 | apply c3) <;> (intro hc; simp only [hc]) | (first | apply c4 | apply c5) <;> (intro hc; rw [hc])))
    · refine ⟨hlt, fun y hy => ?_⟩
      rw [htk, List.mem_append, List.mem_singleton] at hy
      rcases hy with hy | rfl
      · exact hj y hy
      · assumption
    · rw [s_bool]
      have : l.all (whenB g) = false := by
        rw [List.all_eq_false]
        exact ⟨x, hm, by simpa using hc⟩
      rw [this]; rfl
  · have he : l.take i = l := List.take_of_length_le hge
    rw [he] at hj
    repeat' (first | simp only [go_sem, Int.reduceLT, Int.reduceLE, Int.reduceNeg, Int.reduceEq, Nat.reduceAdd, Nat.reduceEqDiff, Nat.reduceLeDiff, Nat.reduceBEq, reduceIte, reduceCtorEq, h1, h2, h3, h7, show decide ((i : Int) < (l.length : Int)) = false by simpa using hge] | (with_reducible first | apply c1 | (first | apply c2 | apply c3) <;> (intro hc; simp only [hc]) | (first | apply c4 | apply c5) <;> (intro hc; rw [hc])))
    rw [s_bool, List.all_eq_true.2 hj]; rfl
theorem room1_res (g : VGrid) (w : VWhen) : res Tryz.prog G0 200 [w.P, .rp g.P.cells] = some (B (!whenB g w)) := by
  refine res_body c_room_Right_1 (Nat.le_of_ble_eq_true rfl) ?_
  simp only [m_room_Right_1, Oo, Ou, Og, Ci, Om, Of, Ol, Ok]
  repeat' (first | simp only [go_sem, Int.reduceLT, Int.reduceLE, Int.reduceNeg, Int.reduceEq, Nat.reduceAdd, Nat.reduceEqDiff, Nat.reduceLeDiff, Nat.reduceBEq, reduceIte, reduceCtorEq, q_when_Right, when_res] | (with_reducible first | apply c1 | (first | apply c2 | apply c3) <;> (intro hc; simp only [hc]) | (first | apply c4 | apply c5) <;> (intro hc; rw [hc])))
theorem person1_res (g : VGrid) (w : VWhen) : res Tryz.prog G0 202 [w.P, .rp g.P.cells] = some (B (!whenB g w)) := by
  refine res_body c_person_Right_1 (Nat.le_of_ble_eq_true rfl) ?_
  simp only [m_person_Right_1, Oo, Ou, Og, Ci, Om, Of, Ol, Ok]
  repeat' (first | simp only [go_sem, Int.reduceLT, Int.reduceLE, Int.reduceNeg, Int.reduceEq, Nat.reduceAdd, Nat.reduceEqDiff, Nat.reduceLeDiff, Nat.reduceBEq, reduceIte, reduceCtorEq, q_when_Right, when_res] | (with_reducible first | apply c1 | (first | apply c2 | apply c3) <;> (intro hc; simp only [hc]) | (first | apply c4 | apply c5) <;> (intro hc; rw [hc])))
end Go.Proofs.YtddmnddocbmjnaaGreat.Dv
namespace Go.Proofs.YtddmnddocbmjnaaGreat.Dv
def roomB (g : VGrid) (r : VRoom) : Bool := gridB g && nameB r.name && decide (0 ≤ r.seats) && decide (r.seats ≤ 10000) && decide ((r.shut.length : Int) ≤ 16) && r.shut.all (whenB g)
def personB (g : VGrid) (r : VPerson) : Bool := gridB g && nameB r.name && decide ((r.away.length : Int) ≤ 16) && r.away.all (whenB g)
theorem any_not_all {α : Type} {p : α → Bool} {l : List α} : (l.any fun x => !p x) = !l.all p := by
  induction l with
  | nil => rfl
  | cons x l ih => simp [ih]
theorem room_res (g : VGrid) (r : VRoom) (hl : r.shut.length ≤ 1048576) : res Tryz.prog G0 124 [g.P, r.P] = some (B (roomB g r)) := by
  have hc : ∀ x ∈ r.shut, App Tryz.prog G0 (.clo (.func 200) [] [.rp g.P.cells]) [x.P] (B (!whenB g x)) := fun x _ => App_clo k_room_Right_1 (fun _ => rfl) (room1_res g x)
  have hF := hasFW_res r.shut (by omega) _ _ hc
  rw [any_not_all] at hF
  refine res_body c_room_Right (Nat.le_of_ble_eq_true rfl) ?_
  simp only [m_room_Right, Oo, Ou, Og, Ci, Om, Of, Ol, Ok]
  repeat' (first | simp only [go_sem, Int.reduceLT, Int.reduceLE, Int.reduceNeg, Int.reduceEq, Nat.reduceAdd, Nat.reduceEqDiff, Nat.reduceLeDiff, Nat.reduceBEq, reduceIte, reduceCtorEq, q_when_RightGrid, grid_res, q_room_Name, name_res, q_slices_ContainsFunc_Lapi_When_api_When_, hF] | (with_reducible first | apply c1 | (first | apply c2 | apply c3) <;> (intro hc; simp only [hc]) | (first | apply c4 | apply c5) <;> (intro hc; rw [hc])))
  all_goals (simp_all [roomB])
  all_goals (intros; exfalso; omega)
theorem rroom_res (g : VGrid) (r : VRoom) (hl : r.shut.length ≤ 1048576) : res Tryz.prog G0 235 [g.P, r.P] = some (B (roomB g r)) := by
  refine res_body c_ref11_Right (Nat.le_of_ble_eq_true rfl) ?_
  simp only [m_ref11_Right, Oo, Ou, Og, Ci, Om, Of, Ol, Ok]
  repeat' (first | simp only [go_sem, Int.reduceLT, Int.reduceLE, Int.reduceNeg, Int.reduceEq, Nat.reduceAdd, Nat.reduceEqDiff, Nat.reduceLeDiff, Nat.reduceBEq, reduceIte, reduceCtorEq, q_ref09_RightGrid, rgrid_res, q_ref11_Name, rname_res, q_ref11_Whens, whens_res g r.shut (by omega) 16] | (with_reducible first | apply c1 | (first | apply c2 | apply c3) <;> (intro hc; simp only [hc]) | (first | apply c4 | apply c5) <;> (intro hc; rw [hc])))
  all_goals (simp_all [roomB, Bool.and_comm])
  all_goals (intros; exfalso; omega)
theorem person_res (g : VGrid) (r : VPerson) (hl : r.away.length ≤ 1048576) : res Tryz.prog G0 129 [g.P, r.P] = some (B (personB g r)) := by
  have hc : ∀ x ∈ r.away, App Tryz.prog G0 (.clo (.func 202) [] [.rp g.P.cells]) [x.P] (B (!whenB g x)) := fun x _ => App_clo k_person_Right_1 (fun _ => rfl) (person1_res g x)
  have hF := hasFW_res r.away (by omega) _ _ hc
  rw [any_not_all] at hF
  refine res_body c_person_Right (Nat.le_of_ble_eq_true rfl) ?_
  simp only [m_person_Right, Oo, Ou, Og, Ci, Om, Of, Ol, Ok]
  repeat' (first | simp only [go_sem, Int.reduceLT, Int.reduceLE, Int.reduceNeg, Int.reduceEq, Nat.reduceAdd, Nat.reduceEqDiff, Nat.reduceLeDiff, Nat.reduceBEq, reduceIte, reduceCtorEq, q_when_RightGrid, grid_res, q_room_Name, name_res, q_slices_ContainsFunc_Lapi_When_api_When_, hF] | (with_reducible first | apply c1 | (first | apply c2 | apply c3) <;> (intro hc; simp only [hc]) | (first | apply c4 | apply c5) <;> (intro hc; rw [hc])))
  all_goals (simp_all [personB])
  all_goals (intros; exfalso; omega)
theorem rperson_res (g : VGrid) (r : VPerson) (hl : r.away.length ≤ 1048576) : res Tryz.prog G0 237 [g.P, r.P] = some (B (personB g r)) := by
  refine res_body c_ref12_Right (Nat.le_of_ble_eq_true rfl) ?_
  simp only [m_ref12_Right, Oo, Ou, Og, Ci, Om, Of, Ol, Ok]
  repeat' (first | simp only [go_sem, Int.reduceLT, Int.reduceLE, Int.reduceNeg, Int.reduceEq, Nat.reduceAdd, Nat.reduceEqDiff, Nat.reduceLeDiff, Nat.reduceBEq, reduceIte, reduceCtorEq, q_ref09_RightGrid, rgrid_res, q_ref11_Name, rname_res, q_ref11_Whens, whens_res g r.away (by omega) 16] | (with_reducible first | apply c1 | (first | apply c2 | apply c3) <;> (intro hc; simp only [hc]) | (first | apply c4 | apply c5) <;> (intro hc; rw [hc])))
  all_goals (simp_all [personB, Bool.and_comm])
end Go.Proofs.YtddmnddocbmjnaaGreat.Dv
namespace Go.Proofs.YtddmnddocbmjnaaGreat.Dv
def goodB {α : Type} (m : Nat) (ok : α → Bool) (nm : α → ByteArray) (l : List α) : Bool := decide (l.length ≤ m) && l.all ok && nodupB (l.map nm)
theorem goodB_long {α : Type} {m : Nat} {ok : α → Bool} {nm : α → ByteArray} {l : List α} (h : m < l.length) : goodB m ok nm l = false := by
  simp [goodB, Nat.not_le.2 h]
theorem goodB_bad {α : Type} {m : Nat} {ok : α → Bool} {nm : α → ByteArray} {l : List α} {x : α} (hx : x ∈ l) (h : ok x = false) : goodB m ok nm l = false := by
  have : l.all ok = false := by rw [List.all_eq_false]; exact ⟨x, hx, by simp [h]⟩
  simp [goodB, this]
theorem goodB_twice {α : Type} {m : Nat} {ok : α → Bool} {nm : α → ByteArray} {l : List α} {i : Nat} {x : α} (hx : l[i]? = some x) (h : nm x ∈ (l.take i).map nm) : goodB m ok nm l = false := by
  have : ¬ (l.map nm).Nodup := by
    intro hn
    have e : l.map nm = (l.take i).map nm ++ (l.drop i).map nm := by rw [← List.map_append, List.take_append_drop]
    rw [e, List.nodup_append] at hn
    have hd : nm x ∈ (l.drop i).map nm := by
      refine List.mem_map.2 ⟨x, ?_, rfl⟩
      refine List.mem_of_getElem? (i := 0) ?_
      rw [List.getElem?_drop]
      simpa using hx
    exact hn.2.2 _ h _ hd rfl
  have : nodupB (l.map nm) = false := by
    cases hh : nodupB (l.map nm) with
    | false => rfl
    | true => exact absurd (nodupB_iff.1 hh) this
  simp [goodB, this]
theorem goodB_ok {α : Type} {m : Nat} {ok : α → Bool} {nm : α → ByteArray} {l : List α} (h1 : l.length ≤ m) (h2 : ∀ x ∈ l, ok x = true) (h3 : (l.map nm).Nodup) : goodB m ok nm l = true := by
  simp only [goodB, Bool.and_eq_true, decide_eq_true_eq]
  exact ⟨⟨h1, List.all_eq_true.2 h2⟩, nodupB_iff.2 h3⟩
def m_problem_bad_api_Room_ : MF := ⟨48, (.seq (.reg none [Oo 8 (.mov (.d (Ci 0))), Oo 9 (.mov (.d (.p (.s (.bool false)))))]) (.seq (.reg none [Oo 13 .mkm, Om 10 13]) (.seq (.seq (.reg none [Om 14 0, Ok 15 14, Oo 16 (.mov (.d (Ci 0)))]) (.block 0 (.loop (.seq (.reg none [Oo 17 (.iop .lss (.t 16) (.t 15))]) (.seq (.cond (.t 17) .skip (.exit 0)) (.seq (.block 1 (.seq (.reg none [Om 18 16, Oo 19 (.iadrS 4 (.t 14) (.t 16)), Oo 20 (.load true 4 (.t 19)), Oo 12 (.alloc [(.p (.s (.string ⟨#[]⟩))), (Ci 0), (.p (.s (.int .u16 0))), .nil]), Om 11 18, Ou (.store 4 (.t 12) (.t 20))]) (.seq (.seq (.reg none [Om 21 11, Om 22 1, Oo 23 (.iop .eql (.t 21) (.t 22))]) (.cond (.t 23) (.seq (.reg none [Om 24 11, Om 8 24, Oo 9 (.mov (.d (.p (.s (.bool true)))))]) .ret) .skip)) (.seq (.seq (.reg none [Om 25 3, Oo 26 (.load true 4 (.t 12)), Oo 27 (.callv (.t 25) [.t 26]), Oo 28 (.un .not (.t 27)), Om 29 28, Og 30 29 false (.mov (.t 2)), Og 31 29 false (.nop .fn true (.t 30) (.d (.p (.s .nilFunc)))), Og 32 29 false (.mov (.t 31)), Og 33 32 true (.mov (.t 10)), Og 34 32 true (.mov (.t 2)), Og 35 32 true (.load true 4 (.t 12)), Og 36 32 true (.callv (.t 34) [.t 35]), Og 37 32 true (.lkp false [2] (.p (.s (.bool false))) false (.t 33) (.t 36)), Og 38 29 false (.pick (.t 32) (.t 37) (.d (.p (.s (.bool false))))), Oo 39 (.pick (.t 29) (.d (.p (.s (.bool true)))) (.t 38))]) (.cond (.t 39) (.seq (.reg none [Om 40 11, Om 8 40, Oo 9 (.mov (.d (.p (.s (.bool true)))))]) .ret) .skip)) (.seq (.reg none [Om 41 2, Oo 42 (.nop .fn true (.t 41) (.d (.p (.s .nilFunc))))]) (.cond (.t 42) (.reg none [Om 43 10, Om 44 2, Oo 45 (.load true 4 (.t 12)), Oo 46 (.callv (.t 44) [.t 45]), Ou (.mup false [2] (.t 43) (.t 46) (.d (.p (.s (.bool true)))))]) .skip)))))) (.reg none [Oo 47 (.iop .add (.t 16) (.d (Ci 1))), Om 16 47]))))))) (.seq (.reg none [Oo 8 (.mov (.d (Ci 0))), Oo 9 (.mov (.d (.p (.s (.bool false)))))]) .ret)))), [.tmp 8, .tmp 9]⟩
theorem c_problem_bad_api_Room_ : comp Tryz.prog G0 121 = some m_problem_bad_api_Room_ := by kernel_rfl
theorem q_problem_bad_api_Room_ : Q0 121 := mCall_pure rfl
theorem badRoom_res (l : List VRoom) (hl : l.length ≤ 1048576) (m : Nat) (nmc rc : PDV) (nm : VRoom → ByteArray) (ok : VRoom → Bool) (hn : ∀ x ∈ l, App Tryz.prog G0 nmc [x.P] (.s (.string (nm x)))) (hr : ∀ x ∈ l, App Tryz.prog G0 rc [x.P] (B (ok x))) (hnf : nopX .fn true (.p nmc) (.p (.s .nilFunc)) = some (.p (.s (.bool true)))) :
    ∃ q, res Tryz.prog G0 121 [.lst (l.map VRoom.P), I (m : Int), nmc, rc] = some q ∧ ∃ k : Int, q = .tup [I k, B (!goodB m ok nm l)] := by
  refine res_ex c_problem_bad_api_Room_ (Nat.le_of_ble_eq_true rfl) ?_
  simp only [m_problem_bad_api_Room_, Oo, Ou, Og, Ci, Om, Of, Ol, Ok]
  repeat' (first | simp only [go_sem, Int.reduceLT, Int.reduceLE, Int.reduceNeg, Int.reduceEq, Nat.reduceAdd, Nat.reduceEqDiff, Nat.reduceLeDiff, Nat.reduceBEq, reduceIte, reduceCtorEq] | (with_reducible first | apply c1 | (first | apply c2 | apply c3) <;> (intro hc; simp only [hc]) | (first | apply c4 | apply c5) <;> (intro hc; rw [hc])))
  refine X_for 16 l.length (fun i s => s.h.get 2 = some (.map (mapS strP ((l.take i).map nm))) ∧ s.t.get 10 = some (.mm 2) ∧ ((l.take i).map nm).Nodup ∧ (∀ x ∈ l.take i, ok x = true) ∧ i ≤ m) 0 (by omega) ?_ (Nat.zero_le _) ⟨by simp only [go_sem, Int.reduceLT, Int.reduceLE, Int.reduceNeg, Int.reduceEq, Nat.reduceAdd, Nat.reduceEqDiff, Nat.reduceLeDiff, Nat.reduceBEq, reduceIte, reduceCtorEq]; rfl, by simp only [go_sem, Int.reduceLT, Int.reduceLE, Int.reduceNeg, Int.reduceEq, Nat.reduceAdd, Nat.reduceEqDiff, Nat.reduceLeDiff, Nat.reduceBEq, reduceIte, reduceCtorEq], by simp, by simp, Nat.zero_le _⟩ ?_
  · simp only [go_sem, Int.reduceLT, Int.reduceLE, Int.reduceNeg, Int.reduceEq, Nat.reduceAdd, Nat.reduceEqDiff, Nat.reduceLeDiff, Nat.reduceBEq, reduceIte, reduceCtorEq]; rfl
  intro i t h nx hf hi0 hi h16 hj
  obtain ⟨hh, h10, hnd, hok, him⟩ := hj
  dsimp only at hh h10
  have h0 := hf 0 rfl; simp only [PT.get_set, Nat.reduceEqDiff, if_true, if_false, reduceIte, PT.get_leaf] at h0; have h1 := hf 1 rfl; simp only [PT.get_set, Nat.reduceEqDiff, if_true, if_false, reduceIte, PT.get_leaf] at h1; have h2 := hf 2 rfl; simp only [PT.get_set, Nat.reduceEqDiff, if_true, if_false, reduceIte, PT.get_leaf] at h2; have h3 := hf 3 rfl; simp only [PT.get_set, Nat.reduceEqDiff, if_true, if_false, reduceIte, PT.get_leaf] at h3; have h14 := hf 14 rfl; simp only [PT.get_set, Nat.reduceEqDiff, if_true, if_false, reduceIte, PT.get_leaf] at h14; have h15 := hf 15 rfl; simp only [PT.get_set, Nat.reduceEqDiff, if_true, if_false, reduceIte, PT.get_leaf] at h15
  have h1' := h1
  clear hf h1
  rcases Nat.lt_or_ge i l.length with hlt | hge
  · obtain ⟨x, hx, _, htk⟩ := get_dec (l := l) (i := i) (by simpa using hlt)
    have hm : x ∈ l := List.mem_of_getElem? hx
    have hdl : decide ((i : Int) < (l.length : Int)) = true := by simpa using hlt
    by_cases h1 : i = m
    · repeat' (first | simp only [go_sem, Int.reduceLT, Int.reduceLE, Int.reduceNeg, Int.reduceEq, Nat.reduceAdd, Nat.reduceEqDiff, Nat.reduceLeDiff, Nat.reduceBEq, reduceIte, reduceCtorEq, h0, h1', h2, h3, h10, h14, h15, h16, hh, hx, hdl, show decide ((i : Int) = (m : Int)) = true by (simp; omega)] | (with_reducible first | apply c1 | (first | apply c2 | apply c3) <;> (intro hc; simp only [hc]) | (first | apply c4 | apply c5) <;> (intro hc; rw [hc])))
      refine ⟨(i : Int), ?_⟩
      rw [goodB_long (by omega)]
      rfl
    have hdm : decide ((i : Int) = (m : Int)) = false := by simp; omega
    cases hox : ok x with
    | false =>
      repeat' (first | simp only [go_sem, Int.reduceLT, Int.reduceLE, Int.reduceNeg, Int.reduceEq, Nat.reduceAdd, Nat.reduceEqDiff, Nat.reduceLeDiff, Nat.reduceBEq, reduceIte, reduceCtorEq, h0, h1', h2, h3, h10, h14, h15, h16, hh, hx, hdl, hdm, callv_1 (hr x hm), hox] | (with_reducible first | apply c1 | (first | apply c2 | apply c3) <;> (intro hc; simp only [hc]) | (first | apply c4 | apply c5) <;> (intro hc; rw [hc])))
      refine ⟨(i : Int), ?_⟩
      rw [goodB_bad hm hox]
      rfl
    | true =>
      cases hmem : memB (nm x) ((l.take i).map nm) with
      | true =>
        repeat' (first | simp only [go_sem, Int.reduceLT, Int.reduceLE, Int.reduceNeg, Int.reduceEq, Nat.reduceAdd, Nat.reduceEqDiff, Nat.reduceLeDiff, Nat.reduceBEq, reduceIte, reduceCtorEq, h0, h1', h2, h3, h10, h14, h15, h16, hh, hx, hdl, hdm, callv_1 (hr x hm), hox, callv_1 (hn x hm), hnf, lkp_str hnd, hmem] | (with_reducible first | apply c1 | (first | apply c2 | apply c3) <;> (intro hc; simp only [hc]) | (first | apply c4 | apply c5) <;> (intro hc; rw [hc])))
        refine ⟨(i : Int), ?_⟩
        rw [goodB_twice hx (memB_iff.1 hmem)]
        rfl
      | false =>
        repeat' (first | simp only [go_sem, Int.reduceLT, Int.reduceLE, Int.reduceNeg, Int.reduceEq, Nat.reduceAdd, Nat.reduceEqDiff, Nat.reduceLeDiff, Nat.reduceBEq, reduceIte, reduceCtorEq, h0, h1', h2, h3, h10, h14, h15, h16, hh, hx, hdl, hdm, callv_1 (hr x hm), hox, callv_1 (hn x hm), hnf, lkp_str hnd, mup_str hnd (memB_not.1 hmem), hmem] | (with_reducible first | apply c1 | (first | apply c2 | apply c3) <;> (intro hc; simp only [hc]) | (first | apply c4 | apply c5) <;> (intro hc; rw [hc])))
        refine ⟨hlt, ?_, ?_, ?_, by omega⟩
        · rw [htk]; simp [mapS]
        · rw [htk, List.map_append, List.map_singleton]
          exact nodup_snoc.2 ⟨hnd, memB_not.1 hmem⟩
        · intro y hy
          rw [htk, List.mem_append, List.mem_singleton] at hy
          rcases hy with hy | rfl
          · exact hok y hy
          · exact hox
  · have he : l.take i = l := List.take_of_length_le hge
    rw [he] at hnd hok
    repeat' (first | simp only [go_sem, Int.reduceLT, Int.reduceLE, Int.reduceNeg, Int.reduceEq, Nat.reduceAdd, Nat.reduceEqDiff, Nat.reduceLeDiff, Nat.reduceBEq, reduceIte, reduceCtorEq, h0, h1', h2, h3, h14, h15, h16, show decide ((i : Int) < (l.length : Int)) = false by simpa using hge] | (with_reducible first | apply c1 | (first | apply c2 | apply c3) <;> (intro hc; simp only [hc]) | (first | apply c4 | apply c5) <;> (intro hc; rw [hc])))
    refine ⟨0, ?_⟩
    rw [goodB_ok (by omega) hok hnd]
    rfl
def m_problem_bad_api_Person_ : MF := ⟨48, (.seq (.reg none [Oo 8 (.mov (.d (Ci 0))), Oo 9 (.mov (.d (.p (.s (.bool false)))))]) (.seq (.reg none [Oo 13 .mkm, Om 10 13]) (.seq (.seq (.reg none [Om 14 0, Ok 15 14, Oo 16 (.mov (.d (Ci 0)))]) (.block 0 (.loop (.seq (.reg none [Oo 17 (.iop .lss (.t 16) (.t 15))]) (.seq (.cond (.t 17) .skip (.exit 0)) (.seq (.block 1 (.seq (.reg none [Om 18 16, Oo 19 (.iadrS 2 (.t 14) (.t 16)), Oo 20 (.load true 2 (.t 19)), Oo 12 (.alloc [(.p (.s (.string ⟨#[]⟩))), .nil]), Om 11 18, Ou (.store 2 (.t 12) (.t 20))]) (.seq (.seq (.reg none [Om 21 11, Om 22 1, Oo 23 (.iop .eql (.t 21) (.t 22))]) (.cond (.t 23) (.seq (.reg none [Om 24 11, Om 8 24, Oo 9 (.mov (.d (.p (.s (.bool true)))))]) .ret) .skip)) (.seq (.seq (.reg none [Om 25 3, Oo 26 (.load true 2 (.t 12)), Oo 27 (.callv (.t 25) [.t 26]), Oo 28 (.un .not (.t 27)), Om 29 28, Og 30 29 false (.mov (.t 2)), Og 31 29 false (.nop .fn true (.t 30) (.d (.p (.s .nilFunc)))), Og 32 29 false (.mov (.t 31)), Og 33 32 true (.mov (.t 10)), Og 34 32 true (.mov (.t 2)), Og 35 32 true (.load true 2 (.t 12)), Og 36 32 true (.callv (.t 34) [.t 35]), Og 37 32 true (.lkp false [2] (.p (.s (.bool false))) false (.t 33) (.t 36)), Og 38 29 false (.pick (.t 32) (.t 37) (.d (.p (.s (.bool false))))), Oo 39 (.pick (.t 29) (.d (.p (.s (.bool true)))) (.t 38))]) (.cond (.t 39) (.seq (.reg none [Om 40 11, Om 8 40, Oo 9 (.mov (.d (.p (.s (.bool true)))))]) .ret) .skip)) (.seq (.reg none [Om 41 2, Oo 42 (.nop .fn true (.t 41) (.d (.p (.s .nilFunc))))]) (.cond (.t 42) (.reg none [Om 43 10, Om 44 2, Oo 45 (.load true 2 (.t 12)), Oo 46 (.callv (.t 44) [.t 45]), Ou (.mup false [2] (.t 43) (.t 46) (.d (.p (.s (.bool true)))))]) .skip)))))) (.reg none [Oo 47 (.iop .add (.t 16) (.d (Ci 1))), Om 16 47]))))))) (.seq (.reg none [Oo 8 (.mov (.d (Ci 0))), Oo 9 (.mov (.d (.p (.s (.bool false)))))]) .ret)))), [.tmp 8, .tmp 9]⟩
theorem c_problem_bad_api_Person_ : comp Tryz.prog G0 126 = some m_problem_bad_api_Person_ := by kernel_rfl
theorem q_problem_bad_api_Person_ : Q0 126 := mCall_pure rfl
theorem badPerson_res (l : List VPerson) (hl : l.length ≤ 1048576) (m : Nat) (nmc rc : PDV) (nm : VPerson → ByteArray) (ok : VPerson → Bool) (hn : ∀ x ∈ l, App Tryz.prog G0 nmc [x.P] (.s (.string (nm x)))) (hr : ∀ x ∈ l, App Tryz.prog G0 rc [x.P] (B (ok x))) (hnf : nopX .fn true (.p nmc) (.p (.s .nilFunc)) = some (.p (.s (.bool true)))) :
    ∃ q, res Tryz.prog G0 126 [.lst (l.map VPerson.P), I (m : Int), nmc, rc] = some q ∧ ∃ k : Int, q = .tup [I k, B (!goodB m ok nm l)] := by
  refine res_ex c_problem_bad_api_Person_ (Nat.le_of_ble_eq_true rfl) ?_
  simp only [m_problem_bad_api_Person_, Oo, Ou, Og, Ci, Om, Of, Ol, Ok]
  repeat' (first | simp only [go_sem, Int.reduceLT, Int.reduceLE, Int.reduceNeg, Int.reduceEq, Nat.reduceAdd, Nat.reduceEqDiff, Nat.reduceLeDiff, Nat.reduceBEq, reduceIte, reduceCtorEq] | (with_reducible first | apply c1 | (first | apply c2 | apply c3) <;> (intro hc; simp only [hc]) | (first | apply c4 | apply c5) <;> (intro hc; rw [hc])))
  refine X_for 16 l.length (fun i s => s.h.get 2 = some (.map (mapS strP ((l.take i).map nm))) ∧ s.t.get 10 = some (.mm 2) ∧ ((l.take i).map nm).Nodup ∧ (∀ x ∈ l.take i, ok x = true) ∧ i ≤ m) 0 (by omega) ?_ (Nat.zero_le _) ⟨by simp only [go_sem, Int.reduceLT, Int.reduceLE, Int.reduceNeg, Int.reduceEq, Nat.reduceAdd, Nat.reduceEqDiff, Nat.reduceLeDiff, Nat.reduceBEq, reduceIte, reduceCtorEq]; rfl, by simp only [go_sem, Int.reduceLT, Int.reduceLE, Int.reduceNeg, Int.reduceEq, Nat.reduceAdd, Nat.reduceEqDiff, Nat.reduceLeDiff, Nat.reduceBEq, reduceIte, reduceCtorEq], by simp, by simp, Nat.zero_le _⟩ ?_
  · simp only [go_sem, Int.reduceLT, Int.reduceLE, Int.reduceNeg, Int.reduceEq, Nat.reduceAdd, Nat.reduceEqDiff, Nat.reduceLeDiff, Nat.reduceBEq, reduceIte, reduceCtorEq]; rfl
  intro i t h nx hf hi0 hi h16 hj
  obtain ⟨hh, h10, hnd, hok, him⟩ := hj
  dsimp only at hh h10
  have h0 := hf 0 rfl; simp only [PT.get_set, Nat.reduceEqDiff, if_true, if_false, reduceIte, PT.get_leaf] at h0; have h1 := hf 1 rfl; simp only [PT.get_set, Nat.reduceEqDiff, if_true, if_false, reduceIte, PT.get_leaf] at h1; have h2 := hf 2 rfl; simp only [PT.get_set, Nat.reduceEqDiff, if_true, if_false, reduceIte, PT.get_leaf] at h2; have h3 := hf 3 rfl; simp only [PT.get_set, Nat.reduceEqDiff, if_true, if_false, reduceIte, PT.get_leaf] at h3; have h14 := hf 14 rfl; simp only [PT.get_set, Nat.reduceEqDiff, if_true, if_false, reduceIte, PT.get_leaf] at h14; have h15 := hf 15 rfl; simp only [PT.get_set, Nat.reduceEqDiff, if_true, if_false, reduceIte, PT.get_leaf] at h15
  have h1' := h1
  clear hf h1
  rcases Nat.lt_or_ge i l.length with hlt | hge
  · obtain ⟨x, hx, _, htk⟩ := get_dec (l := l) (i := i) (by simpa using hlt)
    have hm : x ∈ l := List.mem_of_getElem? hx
    have hdl : decide ((i : Int) < (l.length : Int)) = true := by simpa using hlt
    by_cases h1 : i = m
    · repeat' (first | simp only [go_sem, Int.reduceLT, Int.reduceLE, Int.reduceNeg, Int.reduceEq, Nat.reduceAdd, Nat.reduceEqDiff, Nat.reduceLeDiff, Nat.reduceBEq, reduceIte, reduceCtorEq, h0, h1', h2, h3, h10, h14, h15, h16, hh, hx, hdl, show decide ((i : Int) = (m : Int)) = true by (simp; omega)] | (with_reducible first | apply c1 | (first | apply c2 | apply c3) <;> (intro hc; simp only [hc]) | (first | apply c4 | apply c5) <;> (intro hc; rw [hc])))
      refine ⟨(i : Int), ?_⟩
      rw [goodB_long (by omega)]
      rfl
    have hdm : decide ((i : Int) = (m : Int)) = false := by simp; omega
    cases hox : ok x with
    | false =>
      repeat' (first | simp only [go_sem, Int.reduceLT, Int.reduceLE, Int.reduceNeg, Int.reduceEq, Nat.reduceAdd, Nat.reduceEqDiff, Nat.reduceLeDiff, Nat.reduceBEq, reduceIte, reduceCtorEq, h0, h1', h2, h3, h10, h14, h15, h16, hh, hx, hdl, hdm, callv_1 (hr x hm), hox] | (with_reducible first | apply c1 | (first | apply c2 | apply c3) <;> (intro hc; simp only [hc]) | (first | apply c4 | apply c5) <;> (intro hc; rw [hc])))
      refine ⟨(i : Int), ?_⟩
      rw [goodB_bad hm hox]
      rfl
    | true =>
      cases hmem : memB (nm x) ((l.take i).map nm) with
      | true =>
        repeat' (first | simp only [go_sem, Int.reduceLT, Int.reduceLE, Int.reduceNeg, Int.reduceEq, Nat.reduceAdd, Nat.reduceEqDiff, Nat.reduceLeDiff, Nat.reduceBEq, reduceIte, reduceCtorEq, h0, h1', h2, h3, h10, h14, h15, h16, hh, hx, hdl, hdm, callv_1 (hr x hm), hox, callv_1 (hn x hm), hnf, lkp_str hnd, hmem] | (with_reducible first | apply c1 | (first | apply c2 | apply c3) <;> (intro hc; simp only [hc]) | (first | apply c4 | apply c5) <;> (intro hc; rw [hc])))
        refine ⟨(i : Int), ?_⟩
        rw [goodB_twice hx (memB_iff.1 hmem)]
        rfl
      | false =>
        repeat' (first | simp only [go_sem, Int.reduceLT, Int.reduceLE, Int.reduceNeg, Int.reduceEq, Nat.reduceAdd, Nat.reduceEqDiff, Nat.reduceLeDiff, Nat.reduceBEq, reduceIte, reduceCtorEq, h0, h1', h2, h3, h10, h14, h15, h16, hh, hx, hdl, hdm, callv_1 (hr x hm), hox, callv_1 (hn x hm), hnf, lkp_str hnd, mup_str hnd (memB_not.1 hmem), hmem] | (with_reducible first | apply c1 | (first | apply c2 | apply c3) <;> (intro hc; simp only [hc]) | (first | apply c4 | apply c5) <;> (intro hc; rw [hc])))
        refine ⟨hlt, ?_, ?_, ?_, by omega⟩
        · rw [htk]; simp [mapS]
        · rw [htk, List.map_append, List.map_singleton]
          exact nodup_snoc.2 ⟨hnd, memB_not.1 hmem⟩
        · intro y hy
          rw [htk, List.mem_append, List.mem_singleton] at hy
          rcases hy with hy | rfl
          · exact hok y hy
          · exact hox
  · have he : l.take i = l := List.take_of_length_le hge
    rw [he] at hnd hok
    repeat' (first | simp only [go_sem, Int.reduceLT, Int.reduceLE, Int.reduceNeg, Int.reduceEq, Nat.reduceAdd, Nat.reduceEqDiff, Nat.reduceLeDiff, Nat.reduceBEq, reduceIte, reduceCtorEq, h0, h1', h2, h3, h14, h15, h16, show decide ((i : Int) < (l.length : Int)) = false by simpa using hge] | (with_reducible first | apply c1 | (first | apply c2 | apply c3) <;> (intro hc; simp only [hc]) | (first | apply c4 | apply c5) <;> (intro hc; rw [hc])))
    refine ⟨0, ?_⟩
    rw [goodB_ok (by omega) hok hnd]
    rfl
def m_problem_bad_api_Class_ : MF := ⟨48, (.seq (.reg none [Oo 8 (.mov (.d (Ci 0))), Oo 9 (.mov (.d (.p (.s (.bool false)))))]) (.seq (.reg none [Oo 13 .mkm, Om 10 13]) (.seq (.seq (.reg none [Om 14 0, Ok 15 14, Oo 16 (.mov (.d (Ci 0)))]) (.block 0 (.loop (.seq (.reg none [Oo 17 (.iop .lss (.t 16) (.t 15))]) (.seq (.cond (.t 17) .skip (.exit 0)) (.seq (.block 1 (.seq (.reg none [Om 18 16, Oo 19 (.iadrS 7 (.t 14) (.t 16)), Oo 20 (.load true 7 (.t 19)), Oo 12 (.alloc [(.p (.s (.string ⟨#[]⟩))), (Ci 0), (.p (.s (.int .u16 0))), .nil, .nil, .nil, (Ci 0)]), Om 11 18, Ou (.store 7 (.t 12) (.t 20))]) (.seq (.seq (.reg none [Om 21 11, Om 22 1, Oo 23 (.iop .eql (.t 21) (.t 22))]) (.cond (.t 23) (.seq (.reg none [Om 24 11, Om 8 24, Oo 9 (.mov (.d (.p (.s (.bool true)))))]) .ret) .skip)) (.seq (.seq (.reg none [Om 25 3, Oo 26 (.load true 7 (.t 12)), Oo 27 (.callv (.t 25) [.t 26]), Oo 28 (.un .not (.t 27)), Om 29 28, Og 30 29 false (.mov (.t 2)), Og 31 29 false (.nop .fn true (.t 30) (.d (.p (.s .nilFunc)))), Og 32 29 false (.mov (.t 31)), Og 33 32 true (.mov (.t 10)), Og 34 32 true (.mov (.t 2)), Og 35 32 true (.load true 7 (.t 12)), Og 36 32 true (.callv (.t 34) [.t 35]), Og 37 32 true (.lkp false [2] (.p (.s (.bool false))) false (.t 33) (.t 36)), Og 38 29 false (.pick (.t 32) (.t 37) (.d (.p (.s (.bool false))))), Oo 39 (.pick (.t 29) (.d (.p (.s (.bool true)))) (.t 38))]) (.cond (.t 39) (.seq (.reg none [Om 40 11, Om 8 40, Oo 9 (.mov (.d (.p (.s (.bool true)))))]) .ret) .skip)) (.seq (.reg none [Om 41 2, Oo 42 (.nop .fn true (.t 41) (.d (.p (.s .nilFunc))))]) (.cond (.t 42) (.reg none [Om 43 10, Om 44 2, Oo 45 (.load true 7 (.t 12)), Oo 46 (.callv (.t 44) [.t 45]), Ou (.mup false [2] (.t 43) (.t 46) (.d (.p (.s (.bool true)))))]) .skip)))))) (.reg none [Oo 47 (.iop .add (.t 16) (.d (Ci 1))), Om 16 47]))))))) (.seq (.reg none [Oo 8 (.mov (.d (Ci 0))), Oo 9 (.mov (.d (.p (.s (.bool false)))))]) .ret)))), [.tmp 8, .tmp 9]⟩
theorem c_problem_bad_api_Class_ : comp Tryz.prog G0 130 = some m_problem_bad_api_Class_ := by kernel_rfl
theorem q_problem_bad_api_Class_ : Q0 130 := mCall_pure rfl
theorem badClass_res (l : List VClass) (hl : l.length ≤ 1048576) (m : Nat) (nmc rc : PDV) (nm : VClass → ByteArray) (ok : VClass → Bool) (hn : ∀ x ∈ l, App Tryz.prog G0 nmc [x.P] (.s (.string (nm x)))) (hr : ∀ x ∈ l, App Tryz.prog G0 rc [x.P] (B (ok x))) (hnf : nopX .fn true (.p nmc) (.p (.s .nilFunc)) = some (.p (.s (.bool true)))) :
    ∃ q, res Tryz.prog G0 130 [.lst (l.map VClass.P), I (m : Int), nmc, rc] = some q ∧ ∃ k : Int, q = .tup [I k, B (!goodB m ok nm l)] := by
  refine res_ex c_problem_bad_api_Class_ (Nat.le_of_ble_eq_true rfl) ?_
  simp only [m_problem_bad_api_Class_, Oo, Ou, Og, Ci, Om, Of, Ol, Ok]
  repeat' (first | simp only [go_sem, Int.reduceLT, Int.reduceLE, Int.reduceNeg, Int.reduceEq, Nat.reduceAdd, Nat.reduceEqDiff, Nat.reduceLeDiff, Nat.reduceBEq, reduceIte, reduceCtorEq] | (with_reducible first | apply c1 | (first | apply c2 | apply c3) <;> (intro hc; simp only [hc]) | (first | apply c4 | apply c5) <;> (intro hc; rw [hc])))
  refine X_for 16 l.length (fun i s => s.h.get 2 = some (.map (mapS strP ((l.take i).map nm))) ∧ s.t.get 10 = some (.mm 2) ∧ ((l.take i).map nm).Nodup ∧ (∀ x ∈ l.take i, ok x = true) ∧ i ≤ m) 0 (by omega) ?_ (Nat.zero_le _) ⟨by simp only [go_sem, Int.reduceLT, Int.reduceLE, Int.reduceNeg, Int.reduceEq, Nat.reduceAdd, Nat.reduceEqDiff, Nat.reduceLeDiff, Nat.reduceBEq, reduceIte, reduceCtorEq]; rfl, by simp only [go_sem, Int.reduceLT, Int.reduceLE, Int.reduceNeg, Int.reduceEq, Nat.reduceAdd, Nat.reduceEqDiff, Nat.reduceLeDiff, Nat.reduceBEq, reduceIte, reduceCtorEq], by simp, by simp, Nat.zero_le _⟩ ?_
  · simp only [go_sem, Int.reduceLT, Int.reduceLE, Int.reduceNeg, Int.reduceEq, Nat.reduceAdd, Nat.reduceEqDiff, Nat.reduceLeDiff, Nat.reduceBEq, reduceIte, reduceCtorEq]; rfl
  intro i t h nx hf hi0 hi h16 hj
  obtain ⟨hh, h10, hnd, hok, him⟩ := hj
  dsimp only at hh h10
  have h0 := hf 0 rfl; simp only [PT.get_set, Nat.reduceEqDiff, if_true, if_false, reduceIte, PT.get_leaf] at h0; have h1 := hf 1 rfl; simp only [PT.get_set, Nat.reduceEqDiff, if_true, if_false, reduceIte, PT.get_leaf] at h1; have h2 := hf 2 rfl; simp only [PT.get_set, Nat.reduceEqDiff, if_true, if_false, reduceIte, PT.get_leaf] at h2; have h3 := hf 3 rfl; simp only [PT.get_set, Nat.reduceEqDiff, if_true, if_false, reduceIte, PT.get_leaf] at h3; have h14 := hf 14 rfl; simp only [PT.get_set, Nat.reduceEqDiff, if_true, if_false, reduceIte, PT.get_leaf] at h14; have h15 := hf 15 rfl; simp only [PT.get_set, Nat.reduceEqDiff, if_true, if_false, reduceIte, PT.get_leaf] at h15
  have h1' := h1
  clear hf h1
  rcases Nat.lt_or_ge i l.length with hlt | hge
  · obtain ⟨x, hx, _, htk⟩ := get_dec (l := l) (i := i) (by simpa using hlt)
    have hm : x ∈ l := List.mem_of_getElem? hx
    have hdl : decide ((i : Int) < (l.length : Int)) = true := by simpa using hlt
    by_cases h1 : i = m
    · repeat' (first | simp only [go_sem, Int.reduceLT, Int.reduceLE, Int.reduceNeg, Int.reduceEq, Nat.reduceAdd, Nat.reduceEqDiff, Nat.reduceLeDiff, Nat.reduceBEq, reduceIte, reduceCtorEq, h0, h1', h2, h3, h10, h14, h15, h16, hh, hx, hdl, show decide ((i : Int) = (m : Int)) = true by (simp; omega)] | (with_reducible first | apply c1 | (first | apply c2 | apply c3) <;> (intro hc; simp only [hc]) | (first | apply c4 | apply c5) <;> (intro hc; rw [hc])))
      refine ⟨(i : Int), ?_⟩
      rw [goodB_long (by omega)]
      rfl
    have hdm : decide ((i : Int) = (m : Int)) = false := by simp; omega
    cases hox : ok x with
    | false =>
      repeat' (first | simp only [go_sem, Int.reduceLT, Int.reduceLE, Int.reduceNeg, Int.reduceEq, Nat.reduceAdd, Nat.reduceEqDiff, Nat.reduceLeDiff, Nat.reduceBEq, reduceIte, reduceCtorEq, h0, h1', h2, h3, h10, h14, h15, h16, hh, hx, hdl, hdm, callv_1 (hr x hm), hox] | (with_reducible first | apply c1 | (first | apply c2 | apply c3) <;> (intro hc; simp only [hc]) | (first | apply c4 | apply c5) <;> (intro hc; rw [hc])))
      refine ⟨(i : Int), ?_⟩
      rw [goodB_bad hm hox]
      rfl
    | true =>
      cases hmem : memB (nm x) ((l.take i).map nm) with
      | true =>
        repeat' (first | simp only [go_sem, Int.reduceLT, Int.reduceLE, Int.reduceNeg, Int.reduceEq, Nat.reduceAdd, Nat.reduceEqDiff, Nat.reduceLeDiff, Nat.reduceBEq, reduceIte, reduceCtorEq, h0, h1', h2, h3, h10, h14, h15, h16, hh, hx, hdl, hdm, callv_1 (hr x hm), hox, callv_1 (hn x hm), hnf, lkp_str hnd, hmem] | (with_reducible first | apply c1 | (first | apply c2 | apply c3) <;> (intro hc; simp only [hc]) | (first | apply c4 | apply c5) <;> (intro hc; rw [hc])))
        refine ⟨(i : Int), ?_⟩
        rw [goodB_twice hx (memB_iff.1 hmem)]
        rfl
      | false =>
        repeat' (first | simp only [go_sem, Int.reduceLT, Int.reduceLE, Int.reduceNeg, Int.reduceEq, Nat.reduceAdd, Nat.reduceEqDiff, Nat.reduceLeDiff, Nat.reduceBEq, reduceIte, reduceCtorEq, h0, h1', h2, h3, h10, h14, h15, h16, hh, hx, hdl, hdm, callv_1 (hr x hm), hox, callv_1 (hn x hm), hnf, lkp_str hnd, mup_str hnd (memB_not.1 hmem), hmem] | (with_reducible first | apply c1 | (first | apply c2 | apply c3) <;> (intro hc; simp only [hc]) | (first | apply c4 | apply c5) <;> (intro hc; rw [hc])))
        refine ⟨hlt, ?_, ?_, ?_, by omega⟩
        · rw [htk]; simp [mapS]
        · rw [htk, List.map_append, List.map_singleton]
          exact nodup_snoc.2 ⟨hnd, memB_not.1 hmem⟩
        · intro y hy
          rw [htk, List.mem_append, List.mem_singleton] at hy
          rcases hy with hy | rfl
          · exact hok y hy
          · exact hox
  · have he : l.take i = l := List.take_of_length_le hge
    rw [he] at hnd hok
    repeat' (first | simp only [go_sem, Int.reduceLT, Int.reduceLE, Int.reduceNeg, Int.reduceEq, Nat.reduceAdd, Nat.reduceEqDiff, Nat.reduceLeDiff, Nat.reduceBEq, reduceIte, reduceCtorEq, h0, h1', h2, h3, h14, h15, h16, show decide ((i : Int) < (l.length : Int)) = false by simpa using hge] | (with_reducible first | apply c1 | (first | apply c2 | apply c3) <;> (intro hc; simp only [hc]) | (first | apply c4 | apply c5) <;> (intro hc; rw [hc])))
    refine ⟨0, ?_⟩
    rw [goodB_ok (by omega) hok hnd]
    rfl
def m_problem_bad_api_Course_ : MF := ⟨48, (.seq (.reg none [Oo 8 (.mov (.d (Ci 0))), Oo 9 (.mov (.d (.p (.s (.bool false)))))]) (.seq (.reg none [Oo 13 .mkm, Om 10 13]) (.seq (.seq (.reg none [Om 14 0, Ok 15 14, Oo 16 (.mov (.d (Ci 0)))]) (.block 0 (.loop (.seq (.reg none [Oo 17 (.iop .lss (.t 16) (.t 15))]) (.seq (.cond (.t 17) .skip (.exit 0)) (.seq (.block 1 (.seq (.reg none [Om 18 16, Oo 19 (.iadrS 2 (.t 14) (.t 16)), Oo 20 (.load true 2 (.t 19)), Oo 12 (.alloc [(.p (.s (.string ⟨#[]⟩))), .nil]), Om 11 18, Ou (.store 2 (.t 12) (.t 20))]) (.seq (.seq (.reg none [Om 21 11, Om 22 1, Oo 23 (.iop .eql (.t 21) (.t 22))]) (.cond (.t 23) (.seq (.reg none [Om 24 11, Om 8 24, Oo 9 (.mov (.d (.p (.s (.bool true)))))]) .ret) .skip)) (.seq (.seq (.reg none [Om 25 3, Oo 26 (.load true 2 (.t 12)), Oo 27 (.callv (.t 25) [.t 26]), Oo 28 (.un .not (.t 27)), Om 29 28, Og 30 29 false (.mov (.t 2)), Og 31 29 false (.nop .fn true (.t 30) (.d (.p (.s .nilFunc)))), Og 32 29 false (.mov (.t 31)), Og 33 32 true (.mov (.t 10)), Og 34 32 true (.mov (.t 2)), Og 35 32 true (.load true 2 (.t 12)), Og 36 32 true (.callv (.t 34) [.t 35]), Og 37 32 true (.lkp false [2] (.p (.s (.bool false))) false (.t 33) (.t 36)), Og 38 29 false (.pick (.t 32) (.t 37) (.d (.p (.s (.bool false))))), Oo 39 (.pick (.t 29) (.d (.p (.s (.bool true)))) (.t 38))]) (.cond (.t 39) (.seq (.reg none [Om 40 11, Om 8 40, Oo 9 (.mov (.d (.p (.s (.bool true)))))]) .ret) .skip)) (.seq (.reg none [Om 41 2, Oo 42 (.nop .fn true (.t 41) (.d (.p (.s .nilFunc))))]) (.cond (.t 42) (.reg none [Om 43 10, Om 44 2, Oo 45 (.load true 2 (.t 12)), Oo 46 (.callv (.t 44) [.t 45]), Ou (.mup false [2] (.t 43) (.t 46) (.d (.p (.s (.bool true)))))]) .skip)))))) (.reg none [Oo 47 (.iop .add (.t 16) (.d (Ci 1))), Om 16 47]))))))) (.seq (.reg none [Oo 8 (.mov (.d (Ci 0))), Oo 9 (.mov (.d (.p (.s (.bool false)))))]) .ret)))), [.tmp 8, .tmp 9]⟩
theorem c_problem_bad_api_Course_ : comp Tryz.prog G0 134 = some m_problem_bad_api_Course_ := by kernel_rfl
theorem q_problem_bad_api_Course_ : Q0 134 := mCall_pure rfl
theorem badCourse_res (l : List VCourse) (hl : l.length ≤ 1048576) (m : Nat) (nmc rc : PDV) (nm : VCourse → ByteArray) (ok : VCourse → Bool) (hn : ∀ x ∈ l, App Tryz.prog G0 nmc [x.P] (.s (.string (nm x)))) (hr : ∀ x ∈ l, App Tryz.prog G0 rc [x.P] (B (ok x))) (hnf : nopX .fn true (.p nmc) (.p (.s .nilFunc)) = some (.p (.s (.bool true)))) :
    ∃ q, res Tryz.prog G0 134 [.lst (l.map VCourse.P), I (m : Int), nmc, rc] = some q ∧ ∃ k : Int, q = .tup [I k, B (!goodB m ok nm l)] := by
  refine res_ex c_problem_bad_api_Course_ (Nat.le_of_ble_eq_true rfl) ?_
  simp only [m_problem_bad_api_Course_, Oo, Ou, Og, Ci, Om, Of, Ol, Ok]
  repeat' (first | simp only [go_sem, Int.reduceLT, Int.reduceLE, Int.reduceNeg, Int.reduceEq, Nat.reduceAdd, Nat.reduceEqDiff, Nat.reduceLeDiff, Nat.reduceBEq, reduceIte, reduceCtorEq] | (with_reducible first | apply c1 | (first | apply c2 | apply c3) <;> (intro hc; simp only [hc]) | (first | apply c4 | apply c5) <;> (intro hc; rw [hc])))
  refine X_for 16 l.length (fun i s => s.h.get 2 = some (.map (mapS strP ((l.take i).map nm))) ∧ s.t.get 10 = some (.mm 2) ∧ ((l.take i).map nm).Nodup ∧ (∀ x ∈ l.take i, ok x = true) ∧ i ≤ m) 0 (by omega) ?_ (Nat.zero_le _) ⟨by simp only [go_sem, Int.reduceLT, Int.reduceLE, Int.reduceNeg, Int.reduceEq, Nat.reduceAdd, Nat.reduceEqDiff, Nat.reduceLeDiff, Nat.reduceBEq, reduceIte, reduceCtorEq]; rfl, by simp only [go_sem, Int.reduceLT, Int.reduceLE, Int.reduceNeg, Int.reduceEq, Nat.reduceAdd, Nat.reduceEqDiff, Nat.reduceLeDiff, Nat.reduceBEq, reduceIte, reduceCtorEq], by simp, by simp, Nat.zero_le _⟩ ?_
  · simp only [go_sem, Int.reduceLT, Int.reduceLE, Int.reduceNeg, Int.reduceEq, Nat.reduceAdd, Nat.reduceEqDiff, Nat.reduceLeDiff, Nat.reduceBEq, reduceIte, reduceCtorEq]; rfl
  intro i t h nx hf hi0 hi h16 hj
  obtain ⟨hh, h10, hnd, hok, him⟩ := hj
  dsimp only at hh h10
  have h0 := hf 0 rfl; simp only [PT.get_set, Nat.reduceEqDiff, if_true, if_false, reduceIte, PT.get_leaf] at h0; have h1 := hf 1 rfl; simp only [PT.get_set, Nat.reduceEqDiff, if_true, if_false, reduceIte, PT.get_leaf] at h1; have h2 := hf 2 rfl; simp only [PT.get_set, Nat.reduceEqDiff, if_true, if_false, reduceIte, PT.get_leaf] at h2; have h3 := hf 3 rfl; simp only [PT.get_set, Nat.reduceEqDiff, if_true, if_false, reduceIte, PT.get_leaf] at h3; have h14 := hf 14 rfl; simp only [PT.get_set, Nat.reduceEqDiff, if_true, if_false, reduceIte, PT.get_leaf] at h14; have h15 := hf 15 rfl; simp only [PT.get_set, Nat.reduceEqDiff, if_true, if_false, reduceIte, PT.get_leaf] at h15
  have h1' := h1
  clear hf h1
  rcases Nat.lt_or_ge i l.length with hlt | hge
  · obtain ⟨x, hx, _, htk⟩ := get_dec (l := l) (i := i) (by simpa using hlt)
    have hm : x ∈ l := List.mem_of_getElem? hx
    have hdl : decide ((i : Int) < (l.length : Int)) = true := by simpa using hlt
    by_cases h1 : i = m
    · repeat' (first | simp only [go_sem, Int.reduceLT, Int.reduceLE, Int.reduceNeg, Int.reduceEq, Nat.reduceAdd, Nat.reduceEqDiff, Nat.reduceLeDiff, Nat.reduceBEq, reduceIte, reduceCtorEq, h0, h1', h2, h3, h10, h14, h15, h16, hh, hx, hdl, show decide ((i : Int) = (m : Int)) = true by (simp; omega)] | (with_reducible first | apply c1 | (first | apply c2 | apply c3) <;> (intro hc; simp only [hc]) | (first | apply c4 | apply c5) <;> (intro hc; rw [hc])))
      refine ⟨(i : Int), ?_⟩
      rw [goodB_long (by omega)]
      rfl
    have hdm : decide ((i : Int) = (m : Int)) = false := by simp; omega
    cases hox : ok x with
    | false =>
      repeat' (first | simp only [go_sem, Int.reduceLT, Int.reduceLE, Int.reduceNeg, Int.reduceEq, Nat.reduceAdd, Nat.reduceEqDiff, Nat.reduceLeDiff, Nat.reduceBEq, reduceIte, reduceCtorEq, h0, h1', h2, h3, h10, h14, h15, h16, hh, hx, hdl, hdm, callv_1 (hr x hm), hox] | (with_reducible first | apply c1 | (first | apply c2 | apply c3) <;> (intro hc; simp only [hc]) | (first | apply c4 | apply c5) <;> (intro hc; rw [hc])))
      refine ⟨(i : Int), ?_⟩
      rw [goodB_bad hm hox]
      rfl
    | true =>
      cases hmem : memB (nm x) ((l.take i).map nm) with
      | true =>
        repeat' (first | simp only [go_sem, Int.reduceLT, Int.reduceLE, Int.reduceNeg, Int.reduceEq, Nat.reduceAdd, Nat.reduceEqDiff, Nat.reduceLeDiff, Nat.reduceBEq, reduceIte, reduceCtorEq, h0, h1', h2, h3, h10, h14, h15, h16, hh, hx, hdl, hdm, callv_1 (hr x hm), hox, callv_1 (hn x hm), hnf, lkp_str hnd, hmem] | (with_reducible first | apply c1 | (first | apply c2 | apply c3) <;> (intro hc; simp only [hc]) | (first | apply c4 | apply c5) <;> (intro hc; rw [hc])))
        refine ⟨(i : Int), ?_⟩
        rw [goodB_twice hx (memB_iff.1 hmem)]
        rfl
      | false =>
        repeat' (first | simp only [go_sem, Int.reduceLT, Int.reduceLE, Int.reduceNeg, Int.reduceEq, Nat.reduceAdd, Nat.reduceEqDiff, Nat.reduceLeDiff, Nat.reduceBEq, reduceIte, reduceCtorEq, h0, h1', h2, h3, h10, h14, h15, h16, hh, hx, hdl, hdm, callv_1 (hr x hm), hox, callv_1 (hn x hm), hnf, lkp_str hnd, mup_str hnd (memB_not.1 hmem), hmem] | (with_reducible first | apply c1 | (first | apply c2 | apply c3) <;> (intro hc; simp only [hc]) | (first | apply c4 | apply c5) <;> (intro hc; rw [hc])))
        refine ⟨hlt, ?_, ?_, ?_, by omega⟩
        · rw [htk]; simp [mapS]
        · rw [htk, List.map_append, List.map_singleton]
          exact nodup_snoc.2 ⟨hnd, memB_not.1 hmem⟩
        · intro y hy
          rw [htk, List.mem_append, List.mem_singleton] at hy
          rcases hy with hy | rfl
          · exact hok y hy
          · exact hox
  · have he : l.take i = l := List.take_of_length_le hge
    rw [he] at hnd hok
    repeat' (first | simp only [go_sem, Int.reduceLT, Int.reduceLE, Int.reduceNeg, Int.reduceEq, Nat.reduceAdd, Nat.reduceEqDiff, Nat.reduceLeDiff, Nat.reduceBEq, reduceIte, reduceCtorEq, h0, h1', h2, h3, h14, h15, h16, show decide ((i : Int) < (l.length : Int)) = false by simpa using hge] | (with_reducible first | apply c1 | (first | apply c2 | apply c3) <;> (intro hc; simp only [hc]) | (first | apply c4 | apply c5) <;> (intro hc; rw [hc])))
    refine ⟨0, ?_⟩
    rw [goodB_ok (by omega) hok hnd]
    rfl
def m_problem_bad_api_Student_ : MF := ⟨48, (.seq (.reg none [Oo 8 (.mov (.d (Ci 0))), Oo 9 (.mov (.d (.p (.s (.bool false)))))]) (.seq (.reg none [Oo 13 .mkm, Om 10 13]) (.seq (.seq (.reg none [Om 14 0, Ok 15 14, Oo 16 (.mov (.d (Ci 0)))]) (.block 0 (.loop (.seq (.reg none [Oo 17 (.iop .lss (.t 16) (.t 15))]) (.seq (.cond (.t 17) .skip (.exit 0)) (.seq (.block 1 (.seq (.reg none [Om 18 16, Oo 19 (.iadrS 2 (.t 14) (.t 16)), Oo 20 (.load true 2 (.t 19)), Oo 12 (.alloc [(.p (.s (.string ⟨#[]⟩))), .nil]), Om 11 18, Ou (.store 2 (.t 12) (.t 20))]) (.seq (.seq (.reg none [Om 21 11, Om 22 1, Oo 23 (.iop .eql (.t 21) (.t 22))]) (.cond (.t 23) (.seq (.reg none [Om 24 11, Om 8 24, Oo 9 (.mov (.d (.p (.s (.bool true)))))]) .ret) .skip)) (.seq (.seq (.reg none [Om 25 3, Oo 26 (.load true 2 (.t 12)), Oo 27 (.callv (.t 25) [.t 26]), Oo 28 (.un .not (.t 27)), Om 29 28, Og 30 29 false (.mov (.t 2)), Og 31 29 false (.nop .fn true (.t 30) (.d (.p (.s .nilFunc)))), Og 32 29 false (.mov (.t 31)), Og 33 32 true (.mov (.t 10)), Og 34 32 true (.mov (.t 2)), Og 35 32 true (.load true 2 (.t 12)), Og 36 32 true (.callv (.t 34) [.t 35]), Og 37 32 true (.lkp false [2] (.p (.s (.bool false))) false (.t 33) (.t 36)), Og 38 29 false (.pick (.t 32) (.t 37) (.d (.p (.s (.bool false))))), Oo 39 (.pick (.t 29) (.d (.p (.s (.bool true)))) (.t 38))]) (.cond (.t 39) (.seq (.reg none [Om 40 11, Om 8 40, Oo 9 (.mov (.d (.p (.s (.bool true)))))]) .ret) .skip)) (.seq (.reg none [Om 41 2, Oo 42 (.nop .fn true (.t 41) (.d (.p (.s .nilFunc))))]) (.cond (.t 42) (.reg none [Om 43 10, Om 44 2, Oo 45 (.load true 2 (.t 12)), Oo 46 (.callv (.t 44) [.t 45]), Ou (.mup false [2] (.t 43) (.t 46) (.d (.p (.s (.bool true)))))]) .skip)))))) (.reg none [Oo 47 (.iop .add (.t 16) (.d (Ci 1))), Om 16 47]))))))) (.seq (.reg none [Oo 8 (.mov (.d (Ci 0))), Oo 9 (.mov (.d (.p (.s (.bool false)))))]) .ret)))), [.tmp 8, .tmp 9]⟩
theorem c_problem_bad_api_Student_ : comp Tryz.prog G0 138 = some m_problem_bad_api_Student_ := by kernel_rfl
theorem q_problem_bad_api_Student_ : Q0 138 := mCall_pure rfl
theorem badStudent_res (l : List VStudent) (hl : l.length ≤ 1048576) (m : Nat) (nmc rc : PDV) (nm : VStudent → ByteArray) (ok : VStudent → Bool) (hn : ∀ x ∈ l, App Tryz.prog G0 nmc [x.P] (.s (.string (nm x)))) (hr : ∀ x ∈ l, App Tryz.prog G0 rc [x.P] (B (ok x))) (hnf : nopX .fn true (.p nmc) (.p (.s .nilFunc)) = some (.p (.s (.bool true)))) :
    ∃ q, res Tryz.prog G0 138 [.lst (l.map VStudent.P), I (m : Int), nmc, rc] = some q ∧ ∃ k : Int, q = .tup [I k, B (!goodB m ok nm l)] := by
  refine res_ex c_problem_bad_api_Student_ (Nat.le_of_ble_eq_true rfl) ?_
  simp only [m_problem_bad_api_Student_, Oo, Ou, Og, Ci, Om, Of, Ol, Ok]
  repeat' (first | simp only [go_sem, Int.reduceLT, Int.reduceLE, Int.reduceNeg, Int.reduceEq, Nat.reduceAdd, Nat.reduceEqDiff, Nat.reduceLeDiff, Nat.reduceBEq, reduceIte, reduceCtorEq] | (with_reducible first | apply c1 | (first | apply c2 | apply c3) <;> (intro hc; simp only [hc]) | (first | apply c4 | apply c5) <;> (intro hc; rw [hc])))
  refine X_for 16 l.length (fun i s => s.h.get 2 = some (.map (mapS strP ((l.take i).map nm))) ∧ s.t.get 10 = some (.mm 2) ∧ ((l.take i).map nm).Nodup ∧ (∀ x ∈ l.take i, ok x = true) ∧ i ≤ m) 0 (by omega) ?_ (Nat.zero_le _) ⟨by simp only [go_sem, Int.reduceLT, Int.reduceLE, Int.reduceNeg, Int.reduceEq, Nat.reduceAdd, Nat.reduceEqDiff, Nat.reduceLeDiff, Nat.reduceBEq, reduceIte, reduceCtorEq]; rfl, by simp only [go_sem, Int.reduceLT, Int.reduceLE, Int.reduceNeg, Int.reduceEq, Nat.reduceAdd, Nat.reduceEqDiff, Nat.reduceLeDiff, Nat.reduceBEq, reduceIte, reduceCtorEq], by simp, by simp, Nat.zero_le _⟩ ?_
  · simp only [go_sem, Int.reduceLT, Int.reduceLE, Int.reduceNeg, Int.reduceEq, Nat.reduceAdd, Nat.reduceEqDiff, Nat.reduceLeDiff, Nat.reduceBEq, reduceIte, reduceCtorEq]; rfl
  intro i t h nx hf hi0 hi h16 hj
  obtain ⟨hh, h10, hnd, hok, him⟩ := hj
  dsimp only at hh h10
  have h0 := hf 0 rfl; simp only [PT.get_set, Nat.reduceEqDiff, if_true, if_false, reduceIte, PT.get_leaf] at h0; have h1 := hf 1 rfl; simp only [PT.get_set, Nat.reduceEqDiff, if_true, if_false, reduceIte, PT.get_leaf] at h1; have h2 := hf 2 rfl; simp only [PT.get_set, Nat.reduceEqDiff, if_true, if_false, reduceIte, PT.get_leaf] at h2; have h3 := hf 3 rfl; simp only [PT.get_set, Nat.reduceEqDiff, if_true, if_false, reduceIte, PT.get_leaf] at h3; have h14 := hf 14 rfl; simp only [PT.get_set, Nat.reduceEqDiff, if_true, if_false, reduceIte, PT.get_leaf] at h14; have h15 := hf 15 rfl; simp only [PT.get_set, Nat.reduceEqDiff, if_true, if_false, reduceIte, PT.get_leaf] at h15
  have h1' := h1
  clear hf h1
  rcases Nat.lt_or_ge i l.length with hlt | hge
  · obtain ⟨x, hx, _, htk⟩ := get_dec (l := l) (i := i) (by simpa using hlt)
    have hm : x ∈ l := List.mem_of_getElem? hx
    have hdl : decide ((i : Int) < (l.length : Int)) = true := by simpa using hlt
    by_cases h1 : i = m
    · repeat' (first | simp only [go_sem, Int.reduceLT, Int.reduceLE, Int.reduceNeg, Int.reduceEq, Nat.reduceAdd, Nat.reduceEqDiff, Nat.reduceLeDiff, Nat.reduceBEq, reduceIte, reduceCtorEq, h0, h1', h2, h3, h10, h14, h15, h16, hh, hx, hdl, show decide ((i : Int) = (m : Int)) = true by (simp; omega)] | (with_reducible first | apply c1 | (first | apply c2 | apply c3) <;> (intro hc; simp only [hc]) | (first | apply c4 | apply c5) <;> (intro hc; rw [hc])))
      refine ⟨(i : Int), ?_⟩
      rw [goodB_long (by omega)]
      rfl
    have hdm : decide ((i : Int) = (m : Int)) = false := by simp; omega
    cases hox : ok x with
    | false =>
      repeat' (first | simp only [go_sem, Int.reduceLT, Int.reduceLE, Int.reduceNeg, Int.reduceEq, Nat.reduceAdd, Nat.reduceEqDiff, Nat.reduceLeDiff, Nat.reduceBEq, reduceIte, reduceCtorEq, h0, h1', h2, h3, h10, h14, h15, h16, hh, hx, hdl, hdm, callv_1 (hr x hm), hox] | (with_reducible first | apply c1 | (first | apply c2 | apply c3) <;> (intro hc; simp only [hc]) | (first | apply c4 | apply c5) <;> (intro hc; rw [hc])))
      refine ⟨(i : Int), ?_⟩
      rw [goodB_bad hm hox]
      rfl
    | true =>
      cases hmem : memB (nm x) ((l.take i).map nm) with
      | true =>
        repeat' (first | simp only [go_sem, Int.reduceLT, Int.reduceLE, Int.reduceNeg, Int.reduceEq, Nat.reduceAdd, Nat.reduceEqDiff, Nat.reduceLeDiff, Nat.reduceBEq, reduceIte, reduceCtorEq, h0, h1', h2, h3, h10, h14, h15, h16, hh, hx, hdl, hdm, callv_1 (hr x hm), hox, callv_1 (hn x hm), hnf, lkp_str hnd, hmem] | (with_reducible first | apply c1 | (first | apply c2 | apply c3) <;> (intro hc; simp only [hc]) | (first | apply c4 | apply c5) <;> (intro hc; rw [hc])))
        refine ⟨(i : Int), ?_⟩
        rw [goodB_twice hx (memB_iff.1 hmem)]
        rfl
      | false =>
        repeat' (first | simp only [go_sem, Int.reduceLT, Int.reduceLE, Int.reduceNeg, Int.reduceEq, Nat.reduceAdd, Nat.reduceEqDiff, Nat.reduceLeDiff, Nat.reduceBEq, reduceIte, reduceCtorEq, h0, h1', h2, h3, h10, h14, h15, h16, hh, hx, hdl, hdm, callv_1 (hr x hm), hox, callv_1 (hn x hm), hnf, lkp_str hnd, mup_str hnd (memB_not.1 hmem), hmem] | (with_reducible first | apply c1 | (first | apply c2 | apply c3) <;> (intro hc; simp only [hc]) | (first | apply c4 | apply c5) <;> (intro hc; rw [hc])))
        refine ⟨hlt, ?_, ?_, ?_, by omega⟩
        · rw [htk]; simp [mapS]
        · rw [htk, List.map_append, List.map_singleton]
          exact nodup_snoc.2 ⟨hnd, memB_not.1 hmem⟩
        · intro y hy
          rw [htk, List.mem_append, List.mem_singleton] at hy
          rcases hy with hy | rfl
          · exact hok y hy
          · exact hox
  · have he : l.take i = l := List.take_of_length_le hge
    rw [he] at hnd hok
    repeat' (first | simp only [go_sem, Int.reduceLT, Int.reduceLE, Int.reduceNeg, Int.reduceEq, Nat.reduceAdd, Nat.reduceEqDiff, Nat.reduceLeDiff, Nat.reduceBEq, reduceIte, reduceCtorEq, h0, h1', h2, h3, h14, h15, h16, show decide ((i : Int) < (l.length : Int)) = false by simpa using hge] | (with_reducible first | apply c1 | (first | apply c2 | apply c3) <;> (intro hc; simp only [hc]) | (first | apply c4 | apply c5) <;> (intro hc; rw [hc])))
    refine ⟨0, ?_⟩
    rw [goodB_ok (by omega) hok hnd]
    rfl
end Go.Proofs.YtddmnddocbmjnaaGreat.Dv
