/- Part 22 of the proof: CrowdPairs: whatever plain data comes in, the call returns true and leaves its arguments as they were. No condition. -/
import Derived.Test.YtddmnddocbmjnaaGreatPa21
import Derived.KernelRfl
set_option linter.all false
set_option linter.unusedVariables false
set_option linter.unusedSectionVars false
set_option linter.unusedSimpArgs false
namespace Go.Proofs.YtddmnddocbmjnaaGreat.Dv
def m_law43_short : MF := ⟨41, (.seq (.reg none [Oo 2 (.mov (.d (.p (.s (.bool false)))))]) (.seq (.seq (.reg none [Om 5 0, Ok 6 5, Oo 7 (.iop .gtr (.t 6) (.d (Ci 12)))]) (.cond (.t 7) (.seq (.reg none [Oo 2 (.mov (.d (.p (.s (.bool false)))))]) .ret) .skip)) (.seq (.seq (.reg none [Oo 3 (.mov (.d (Ci 0)))]) (.block 0 (.loop (.seq (.seq (.reg none [Om 8 3, Om 9 0, Ok 10 9, Oo 11 (.iop .lss (.t 8) (.t 10))]) (.cond (.t 11) .skip (.exit 0))) (.seq (.block 1 (.seq (.seq (.reg none [Om 14 0, Om 15 3, Oo 16 (.iadrS 1 (.t 14) (.t 15)), Of 17 0 16, Ol 18 17, Ok 19 18, Oo 20 (.iop .gtr (.t 19) (.d (Ci 8)))]) (.cond (.t 20) (.seq (.reg none [Oo 2 (.mov (.d (.p (.s (.bool false)))))]) .ret) .skip)) (.seq (.reg none [Oo 4 (.mov (.d (Ci 0)))]) (.block 2 (.loop (.seq (.seq (.reg none [Om 21 4, Om 22 0, Om 23 3, Oo 24 (.iadrS 1 (.t 22) (.t 23)), Of 25 0 24, Ol 26 25, Ok 27 26, Oo 28 (.iop .lss (.t 21) (.t 27))]) (.cond (.t 28) .skip (.exit 2))) (.seq (.block 3 (.seq (.reg none [Om 31 0, Om 32 3, Oo 33 (.iadrS 1 (.t 31) (.t 32)), Of 34 0 33, Ol 35 34, Om 36 4, Oo 37 (.iadrS 1 (.t 35) (.t 36)), Ol 38 37, Ok 39 38, Oo 40 (.iop .gtr (.t 39) (.d (Ci 8)))]) (.cond (.t 40) (.seq (.reg none [Oo 2 (.mov (.d (.p (.s (.bool false)))))]) .ret) .skip))) (.reg none [Om 29 4, Oo 30 (.iop .add (.t 29) (.d (Ci 1))), Om 4 30])))))))) (.reg none [Om 12 3, Oo 13 (.iop .add (.t 12) (.d (Ci 1))), Om 3 13])))))) (.seq (.reg none [Oo 2 (.mov (.d (.p (.s (.bool true)))))]) .ret)))), [.tmp 2]⟩
theorem c_law43_short : comp Tryz.prog G0 9 = some m_law43_short := by kernel_rfl
theorem q_law43_short : Q0 9 := mCall_pure rfl
def m_ref43_Lacks : MF := ⟨35, (.seq (.reg none [Oo 2 (.mov (.d (Ci 0)))]) (.seq (.reg none [Oo 3 (.mov (.d (Ci 0)))]) (.seq (.seq (.reg none [Oo 4 (.mov (.d (Ci 0)))]) (.block 0 (.loop (.seq (.seq (.reg none [Om 6 4, Om 7 0, Ok 8 7, Oo 9 (.iop .lss (.t 6) (.t 8))]) (.cond (.t 9) .skip (.exit 0))) (.seq (.block 1 (.seq (.reg none [Oo 5 (.mov (.d (Ci 0)))]) (.block 2 (.loop (.seq (.seq (.reg none [Om 12 5, Om 13 0, Om 14 4, Oo 15 (.iadrS 1 (.t 13) (.t 14)), Of 16 0 15, Ol 17 16, Ok 18 17, Oo 19 (.iop .lss (.t 12) (.t 18))]) (.cond (.t 19) .skip (.exit 2))) (.seq (.block 3 (.seq (.reg none [Om 22 0, Om 23 4, Oo 24 (.iadrS 1 (.t 22) (.t 23)), Of 25 0 24, Ol 26 25, Om 27 5, Oo 28 (.iadrS 1 (.t 26) (.t 27)), Ol 29 28, Ok 30 29, Oo 31 (.iop .eql (.t 30) (.d (Ci 0)))]) (.cond (.t 31) (.reg none [Om 32 3, Oo 33 (.iop .add (.t 32) (.d (Ci 1))), Om 3 33]) .skip))) (.reg none [Om 20 5, Oo 21 (.iop .add (.t 20) (.d (Ci 1))), Om 5 21]))))))) (.reg none [Om 10 4, Oo 11 (.iop .add (.t 10) (.d (Ci 1))), Om 4 11])))))) (.seq (.reg none [Om 34 3, Om 2 34]) .ret)))), [.tmp 2]⟩
theorem c_ref43_Lacks : comp Tryz.prog G0 17 = some m_ref43_Lacks := by kernel_rfl
theorem q_ref43_Lacks : Q0 17 := mCall_pure rfl
def m_crowd_Lacks : MF := ⟨29, (.seq (.reg none [Oo 2 (.mov (.d (Ci 0)))]) (.seq (.reg none [Oo 3 (.mov (.d (Ci 0)))]) (.seq (.seq (.reg none [Om 8 0, Ok 9 8, Oo 10 (.mov (.d (Ci 0)))]) (.block 0 (.loop (.seq (.reg none [Oo 11 (.iop .lss (.t 10) (.t 9))]) (.seq (.cond (.t 11) .skip (.exit 0)) (.seq (.block 1 (.seq (.reg none [Oo 12 (.iadrS 1 (.t 8) (.t 10)), Oo 13 (.load true 1 (.t 12)), Oo 5 (.alloc [.nil]), Ou (.store 1 (.t 5) (.t 13))]) (.seq (.reg none [Of 14 0 5, Ol 15 14, Ok 16 15, Oo 17 (.mov (.d (Ci 0)))]) (.block 2 (.loop (.seq (.reg none [Oo 18 (.iop .lss (.t 17) (.t 16))]) (.seq (.cond (.t 18) .skip (.exit 2)) (.seq (.block 3 (.seq (.reg none [Oo 19 (.iadrS 1 (.t 15) (.t 17)), Ol 20 19, Om 7 20]) (.seq (.reg none [Om 21 7, Ok 22 21, Oo 23 (.iop .eql (.t 22) (.d (Ci 0)))]) (.cond (.t 23) (.reg none [Om 24 3, Oo 25 (.iop .add (.t 24) (.d (Ci 1))), Om 3 25]) .skip)))) (.reg none [Oo 26 (.iop .add (.t 17) (.d (Ci 1))), Om 17 26]))))))))) (.reg none [Oo 27 (.iop .add (.t 10) (.d (Ci 1))), Om 10 27]))))))) (.seq (.reg none [Om 28 3, Om 2 28]) .ret)))), [.tmp 2]⟩
theorem c_crowd_Lacks : comp Tryz.prog G0 16 = some m_crowd_Lacks := by kernel_rfl
theorem q_crowd_Lacks : Q0 16 := mCall_pure rfl
def m_ref43_Twos : MF := ⟨26, (.seq (.reg none [Oo 4 (.mov (.d (.p (.s (.bool false)))))]) (.seq (.seq (.reg none [Om 6 0, Ok 7 6, Om 8 1, Ok 9 8, Oo 10 (.iop .neq (.t 7) (.t 9))]) (.cond (.t 10) (.seq (.reg none [Oo 4 (.mov (.d (.p (.s (.bool false)))))]) .ret) .skip)) (.seq (.seq (.reg none [Oo 5 (.mov (.d (Ci 0)))]) (.block 0 (.loop (.seq (.seq (.reg none [Om 11 5, Om 12 0, Ok 13 12, Oo 14 (.iop .lss (.t 11) (.t 13))]) (.cond (.t 14) .skip (.exit 0))) (.seq (.block 1 (.seq (.reg (some #[0, 0, 3, 7, 0, 0, 48, 112, 255]) [Om 17 0, Om 18 5, Oo 19 (.iadrS 2 (.t 17) (.t 18)), Oo 20 (.load true 2 (.t 19)), Om 21 1, Om 22 5, Oo 23 (.iadrS 2 (.t 21) (.t 22)), Oo 24 (.load true 2 (.t 23)), Oo 25 (.aop [0, 0] true (.t 20) (.t 24))]) (.cond (.t 25) (.seq (.reg none [Oo 4 (.mov (.d (.p (.s (.bool false)))))]) .ret) .skip))) (.reg none [Om 15 5, Oo 16 (.iop .add (.t 15) (.d (Ci 1))), Om 5 16])))))) (.seq (.reg none [Oo 4 (.mov (.d (.p (.s (.bool true)))))]) .ret)))), [.tmp 4]⟩
theorem c_ref43_Twos : comp Tryz.prog G0 11 = some m_ref43_Twos := by kernel_rfl
theorem q_ref43_Twos : Q0 11 := mCall_pure rfl
def shortX (x : VLoad) : Bool := decide (x.classes.length ≤ 8) && x.classes.all fun r => decide (r.length ≤ 8)
def shortB (l : List VLoad) : Bool := decide (l.length ≤ 12) && l.all shortX
theorem short_res (l : List VLoad) : res Tryz.prog G0 9 [.lst (l.map VLoad.P)] = some (B (shortB l)) := by
  refine res_body c_law43_short (Nat.le_of_ble_eq_true rfl) ?_
  simp only [m_law43_short, Oo, Ou, Og, Ci, Om, Of, Ol, Ok]
  by_cases h12 : l.length ≤ 12
  case neg =>
    repeat' (first | simp only [go_sem, Int.reduceLT, Int.reduceLE, Int.reduceNeg, Int.reduceEq, Nat.reduceAdd, Nat.reduceEqDiff, Nat.reduceLeDiff, Nat.reduceBEq, reduceIte, reduceCtorEq, show decide ((12 : Int) < (l.length : Int)) = true by (simp only [decide_eq_true_eq]; omega)] | (with_reducible first | apply c1 | (first | apply c2 | apply c3) <;> (intro hc; simp only [hc]) | (first | apply c4 | apply c5) <;> (intro hc; rw [hc])))
    simp [shortB, h12]
  repeat' (first | simp only [go_sem, Int.reduceLT, Int.reduceLE, Int.reduceNeg, Int.reduceEq, Nat.reduceAdd, Nat.reduceEqDiff, Nat.reduceLeDiff, Nat.reduceBEq, reduceIte, reduceCtorEq, show decide ((12 : Int) < (l.length : Int)) = false by (simp only [decide_eq_false_iff_not]; omega)] | (with_reducible first | apply c1 | (first | apply c2 | apply c3) <;> (intro hc; simp only [hc]) | (first | apply c4 | apply c5) <;> (intro hc; rw [hc])))
  refine X_for 3 l.length (fun i s => ∀ x ∈ l.take i, shortX x = true) 0 (by omega) ?_ (Nat.zero_le _) (by simp) ?_
  · simp only [go_sem, Int.reduceLT, Int.reduceLE, Int.reduceNeg, Int.reduceEq, Nat.reduceAdd, Nat.reduceEqDiff, Nat.reduceLeDiff, Nat.reduceBEq, reduceIte, reduceCtorEq]; rfl
  intro i t h nx hf hi0 hi h3 hj
  have h0 := hf 0 rfl; simp only [PT.get_set, Nat.reduceEqDiff, if_true, if_false, reduceIte, PT.get_leaf] at h0
  clear hf
  rcases Nat.lt_or_ge i l.length with hlt | hge
  · obtain ⟨x, hx, _, htk⟩ := get_dec (l := l) (i := i) (by simpa using hlt)
    have hm : x ∈ l := List.mem_of_getElem? hx
    have hdl : decide ((i : Int) < (l.length : Int)) = true := by simpa using hlt
    have bad : shortX x = false → PDV.s (.bool false) = B (shortB l) := fun hb => by
      have : l.all shortX = false := by rw [List.all_eq_false]; exact ⟨x, hm, by simp [hb]⟩
      simp [shortB, this]
    by_cases h8 : x.classes.length ≤ 8
    case neg =>
      repeat' (first | simp only [go_sem, Int.reduceLT, Int.reduceLE, Int.reduceNeg, Int.reduceEq, Nat.reduceAdd, Nat.reduceEqDiff, Nat.reduceLeDiff, Nat.reduceBEq, reduceIte, reduceCtorEq, h0, h3, hx, hdl, show decide ((8 : Int) < (x.classes.length : Int)) = true by (simp only [decide_eq_true_eq]; omega)] | (with_reducible first | apply c1 | (first | apply c2 | apply c3) <;> (intro hc; simp only [hc]) | (first | apply c4 | apply c5) <;> (intro hc; rw [hc])))
      exact bad (by simp [shortX, h8])
    repeat' (first | simp only [go_sem, Int.reduceLT, Int.reduceLE, Int.reduceNeg, Int.reduceEq, Nat.reduceAdd, Nat.reduceEqDiff, Nat.reduceLeDiff, Nat.reduceBEq, reduceIte, reduceCtorEq, h0, h3, hx, hdl, show decide ((8 : Int) < (x.classes.length : Int)) = false by (simp only [decide_eq_false_iff_not]; omega)] | (with_reducible first | apply c1 | (first | apply c2 | apply c3) <;> (intro hc; simp only [hc]) | (first | apply c4 | apply c5) <;> (intro hc; rw [hc])))
    refine X_for 4 x.classes.length (fun j s => ∀ r ∈ x.classes.take j, r.length ≤ 8) 0 (by omega) ?_ (Nat.zero_le _) (by simp) ?_
    · simp only [go_sem, Int.reduceLT, Int.reduceLE, Int.reduceNeg, Int.reduceEq, Nat.reduceAdd, Nat.reduceEqDiff, Nat.reduceLeDiff, Nat.reduceBEq, reduceIte, reduceCtorEq]; rfl
    intro j t' h' nx' hf hj0 hj1 h4 hj2
    have f0 := hf 0 rfl; have f3 := hf 3 rfl
    simp only [PT.get_set, Nat.reduceEqDiff, if_true, if_false, reduceIte, h0, h3] at f0 f3
    clear hf
    rcases Nat.lt_or_ge j x.classes.length with hlt2 | hge2
    · obtain ⟨r, hr, _, htr⟩ := get_dec (l := x.classes) (i := j) (by simpa using hlt2)
      have hdl2 : decide ((j : Int) < (x.classes.length : Int)) = true := by simpa using hlt2
      by_cases hr8 : r.length ≤ 8
      case neg =>
        repeat' (first | simp only [go_sem, Int.reduceLT, Int.reduceLE, Int.reduceNeg, Int.reduceEq, Nat.reduceAdd, Nat.reduceEqDiff, Nat.reduceLeDiff, Nat.reduceBEq, reduceIte, reduceCtorEq, f0, f3, h4, hx, hr, hdl2, show decide ((8 : Int) < (r.length : Int)) = true by (simp only [decide_eq_true_eq]; omega)] | (with_reducible first | apply c1 | (first | apply c2 | apply c3) <;> (intro hc; simp only [hc]) | (first | apply c4 | apply c5) <;> (intro hc; rw [hc])))
        refine bad ?_
        have : x.classes.all (fun r => decide (r.length ≤ 8)) = false := by rw [List.all_eq_false]; exact ⟨r, List.mem_of_getElem? hr, by simp [hr8]⟩
        simp [shortX, this]
      repeat' (first | simp only [go_sem, Int.reduceLT, Int.reduceLE, Int.reduceNeg, Int.reduceEq, Nat.reduceAdd, Nat.reduceEqDiff, Nat.reduceLeDiff, Nat.reduceBEq, reduceIte, reduceCtorEq, f0, f3, h4, hx, hr, hdl2, show decide ((8 : Int) < (r.length : Int)) = false by (simp only [decide_eq_false_iff_not]; omega)] | (with_reducible first | apply c1 | (first | apply c2 | apply c3) <;> (intro hc; simp only [hc]) | (first | apply c4 | apply c5) <;> (intro hc; rw [hc])))
      refine ⟨hlt2, fun y hy => ?_⟩
      rw [htr, List.mem_append, List.mem_singleton] at hy
      rcases hy with hy | rfl
      · exact hj2 y hy
      · exact hr8
    · rw [List.take_of_length_le hge2] at hj2
      repeat' (first | simp only [go_sem, Int.reduceLT, Int.reduceLE, Int.reduceNeg, Int.reduceEq, Nat.reduceAdd, Nat.reduceEqDiff, Nat.reduceLeDiff, Nat.reduceBEq, reduceIte, reduceCtorEq, f0, f3, h4, hx, show decide ((j : Int) < (x.classes.length : Int)) = false by simpa using hge2] | (with_reducible first | apply c1 | (first | apply c2 | apply c3) <;> (intro hc; simp only [hc]) | (first | apply c4 | apply c5) <;> (intro hc; rw [hc])))
      refine ⟨hlt, fun y hy => ?_⟩
      rw [htk, List.mem_append, List.mem_singleton] at hy
      rcases hy with hy | rfl
      · exact hj y hy
      · simp only [shortX, Bool.and_eq_true, decide_eq_true_eq, List.all_eq_true]
        exact ⟨h8, hj2⟩
  · rw [List.take_of_length_le hge] at hj
    repeat' (first | simp only [go_sem, Int.reduceLT, Int.reduceLE, Int.reduceNeg, Int.reduceEq, Nat.reduceAdd, Nat.reduceEqDiff, Nat.reduceLeDiff, Nat.reduceBEq, reduceIte, reduceCtorEq, h0, h3, show decide ((i : Int) < (l.length : Int)) = false by simpa using hge] | (with_reducible first | apply c1 | (first | apply c2 | apply c3) <;> (intro hc; simp only [hc]) | (first | apply c4 | apply c5) <;> (intro hc; rw [hc])))
    rw [s_bool]
    symm
    simp only [shortB, Bool.and_eq_true, decide_eq_true_eq, List.all_eq_true]
    exact ⟨h12, hj⟩
def cntN (l : List (List Int)) : Nat := l.countP fun r => decide (r.length = 0)
def lackN (l : List VLoad) : Nat := (l.map fun x => cntN x.classes).sum
theorem lack_snoc {l : List VLoad} {x : VLoad} : lackN (l ++ [x]) = lackN l + cntN x.classes := by simp [lackN]
theorem cnt_snoc {l : List (List Int)} {r : List Int} : cntN (l ++ [r]) = cntN l + if r.length = 0 then 1 else 0 := by
  simp only [cntN, List.countP_append, List.countP_singleton, decide_eq_true_eq]
theorem rlacks_res (l : List VLoad) (hs : shortB l = true) : res Tryz.prog G0 17 [.lst (l.map VLoad.P)] = some (I (lackN l : Int)) := by
  simp only [shortB, Bool.and_eq_true, decide_eq_true_eq, List.all_eq_true, shortX] at hs
  obtain ⟨hs1, hs2⟩ := hs
  refine res_body c_ref43_Lacks (Nat.le_of_ble_eq_true rfl) ?_
  simp only [m_ref43_Lacks, Oo, Ou, Og, Ci, Om, Of, Ol, Ok]
  repeat' (first | simp only [go_sem, Int.reduceLT, Int.reduceLE, Int.reduceNeg, Int.reduceEq, Nat.reduceAdd, Nat.reduceEqDiff, Nat.reduceLeDiff, Nat.reduceBEq, reduceIte, reduceCtorEq] | (with_reducible first | apply c1 | (first | apply c2 | apply c3) <;> (intro hc; simp only [hc]) | (first | apply c4 | apply c5) <;> (intro hc; rw [hc])))
  refine X_for 4 l.length (fun i s => s.t.get 3 = some (.p (.s (.int .i64 (lackN (l.take i) : Int)))) ∧ lackN (l.take i) ≤ 8 * i) 0 (by omega) ?_ (Nat.zero_le _) ⟨by simp only [go_sem, Int.reduceLT, Int.reduceLE, Int.reduceNeg, Int.reduceEq, Nat.reduceAdd, Nat.reduceEqDiff, Nat.reduceLeDiff, Nat.reduceBEq, reduceIte, reduceCtorEq]; rfl, by simp [lackN]⟩ ?_
  · simp only [go_sem, Int.reduceLT, Int.reduceLE, Int.reduceNeg, Int.reduceEq, Nat.reduceAdd, Nat.reduceEqDiff, Nat.reduceLeDiff, Nat.reduceBEq, reduceIte, reduceCtorEq]; rfl
  intro i t h nx hf hi0 hi h4 hj
  obtain ⟨h3, hb⟩ := hj
  dsimp only at h3
  have h0 := hf 0 rfl; simp only [PT.get_set, Nat.reduceEqDiff, if_true, if_false, reduceIte, PT.get_leaf] at h0
  clear hf
  rcases Nat.lt_or_ge i l.length with hlt | hge
  · obtain ⟨x, hx, _, htk⟩ := get_dec (l := l) (i := i) (by simpa using hlt)
    have hm := hs2 x (List.mem_of_getElem? hx)
    have hdl : decide ((i : Int) < (l.length : Int)) = true := by simpa using hlt
    repeat' (first | simp only [go_sem, Int.reduceLT, Int.reduceLE, Int.reduceNeg, Int.reduceEq, Nat.reduceAdd, Nat.reduceEqDiff, Nat.reduceLeDiff, Nat.reduceBEq, reduceIte, reduceCtorEq, h0, h3, h4, hx, hdl] | (with_reducible first | apply c1 | (first | apply c2 | apply c3) <;> (intro hc; simp only [hc]) | (first | apply c4 | apply c5) <;> (intro hc; rw [hc])))
    refine X_for 5 x.classes.length (fun j s => s.t.get 3 = some (.p (.s (.int .i64 ((lackN (l.take i) + cntN (x.classes.take j) : Nat) : Int)))) ∧ cntN (x.classes.take j) ≤ j) 0 (by omega) ?_ (Nat.zero_le _) ⟨by simp only [go_sem, Int.reduceLT, Int.reduceLE, Int.reduceNeg, Int.reduceEq, Nat.reduceAdd, Nat.reduceEqDiff, Nat.reduceLeDiff, Nat.reduceBEq, reduceIte, reduceCtorEq, h3]; rfl, by simp [cntN]⟩ ?_
    · simp only [go_sem, Int.reduceLT, Int.reduceLE, Int.reduceNeg, Int.reduceEq, Nat.reduceAdd, Nat.reduceEqDiff, Nat.reduceLeDiff, Nat.reduceBEq, reduceIte, reduceCtorEq]; rfl
    intro j t' h' nx' hf hj0 hj1 h5 hj2
    obtain ⟨h3', hb'⟩ := hj2
    dsimp only at h3'
    have f0 := hf 0 rfl; have f4 := hf 4 rfl
    simp only [PT.get_set, Nat.reduceEqDiff, if_true, if_false, reduceIte, h0, h4] at f0 f4
    clear hf
    rcases Nat.lt_or_ge j x.classes.length with hlt2 | hge2
    · obtain ⟨r, hr, _, htr⟩ := get_dec (l := x.classes) (i := j) (by simpa using hlt2)
      have hdl2 : decide ((j : Int) < (x.classes.length : Int)) = true := by simpa using hlt2
      by_cases hr0 : r.length = 0
      · repeat' (first | simp only [go_sem, Int.reduceLT, Int.reduceLE, Int.reduceNeg, Int.reduceEq, Nat.reduceAdd, Nat.reduceEqDiff, Nat.reduceLeDiff, Nat.reduceBEq, reduceIte, reduceCtorEq, f0, f4, h3', h5, hx, hr, hdl2, show decide ((r.length : Int) = 0) = true by (simp only [decide_eq_true_eq]; omega), wrap_id (n := ((lackN (l.take i) + cntN (x.classes.take j) : Nat) : Int) + 1) (by omega) (by omega)] | (with_reducible first | apply c1 | (first | apply c2 | apply c3) <;> (intro hc; simp only [hc]) | (first | apply c4 | apply c5) <;> (intro hc; rw [hc])))
        refine ⟨hlt2, ?_, ?_⟩
        · rw [htr, cnt_snoc, if_pos hr0]; rfl
        · rw [htr, cnt_snoc, if_pos hr0]; omega
      · repeat' (first | simp only [go_sem, Int.reduceLT, Int.reduceLE, Int.reduceNeg, Int.reduceEq, Nat.reduceAdd, Nat.reduceEqDiff, Nat.reduceLeDiff, Nat.reduceBEq, reduceIte, reduceCtorEq, f0, f4, h3', h5, hx, hr, hdl2, show decide ((r.length : Int) = 0) = false by (simp only [decide_eq_false_iff_not]; omega)] | (with_reducible first | apply c1 | (first | apply c2 | apply c3) <;> (intro hc; simp only [hc]) | (first | apply c4 | apply c5) <;> (intro hc; rw [hc])))
        refine ⟨hlt2, ?_, ?_⟩
        · rw [htr, cnt_snoc, if_neg hr0]; rfl
        · rw [htr, cnt_snoc, if_neg hr0]; omega
    · rw [List.take_of_length_le hge2] at h3' hb'
      repeat' (first | simp only [go_sem, Int.reduceLT, Int.reduceLE, Int.reduceNeg, Int.reduceEq, Nat.reduceAdd, Nat.reduceEqDiff, Nat.reduceLeDiff, Nat.reduceBEq, reduceIte, reduceCtorEq, f0, f4, h3', h5, hx, show decide ((j : Int) < (x.classes.length : Int)) = false by simpa using hge2] | (with_reducible first | apply c1 | (first | apply c2 | apply c3) <;> (intro hc; simp only [hc]) | (first | apply c4 | apply c5) <;> (intro hc; rw [hc])))
      refine ⟨hlt, ?_, ?_⟩
      · rw [htk, lack_snoc]
      · rw [htk, lack_snoc]; omega
  · rw [List.take_of_length_le hge] at h3
    repeat' (first | simp only [go_sem, Int.reduceLT, Int.reduceLE, Int.reduceNeg, Int.reduceEq, Nat.reduceAdd, Nat.reduceEqDiff, Nat.reduceLeDiff, Nat.reduceBEq, reduceIte, reduceCtorEq, h0, h3, h4, show decide ((i : Int) < (l.length : Int)) = false by simpa using hge] | (with_reducible first | apply c1 | (first | apply c2 | apply c3) <;> (intro hc; simp only [hc]) | (first | apply c4 | apply c5) <;> (intro hc; rw [hc])))
theorem lacks_res (l : List VLoad) (hs : shortB l = true) : res Tryz.prog G0 16 [.lst (l.map VLoad.P)] = some (I (lackN l : Int)) := by
  simp only [shortB, Bool.and_eq_true, decide_eq_true_eq, List.all_eq_true, shortX] at hs
  obtain ⟨hs1, hs2⟩ := hs
  refine res_body c_crowd_Lacks (Nat.le_of_ble_eq_true rfl) ?_
  simp only [m_crowd_Lacks, Oo, Ou, Og, Ci, Om, Of, Ol, Ok]
  repeat' (first | simp only [go_sem, Int.reduceLT, Int.reduceLE, Int.reduceNeg, Int.reduceEq, Nat.reduceAdd, Nat.reduceEqDiff, Nat.reduceLeDiff, Nat.reduceBEq, reduceIte, reduceCtorEq] | (with_reducible first | apply c1 | (first | apply c2 | apply c3) <;> (intro hc; simp only [hc]) | (first | apply c4 | apply c5) <;> (intro hc; rw [hc])))
  refine X_for 10 l.length (fun i s => s.t.get 3 = some (.p (.s (.int .i64 (lackN (l.take i) : Int)))) ∧ lackN (l.take i) ≤ 8 * i) 0 (by omega) ?_ (Nat.zero_le _) ⟨by simp only [go_sem, Int.reduceLT, Int.reduceLE, Int.reduceNeg, Int.reduceEq, Nat.reduceAdd, Nat.reduceEqDiff, Nat.reduceLeDiff, Nat.reduceBEq, reduceIte, reduceCtorEq]; rfl, by simp [lackN]⟩ ?_
  · simp only [go_sem, Int.reduceLT, Int.reduceLE, Int.reduceNeg, Int.reduceEq, Nat.reduceAdd, Nat.reduceEqDiff, Nat.reduceLeDiff, Nat.reduceBEq, reduceIte, reduceCtorEq]; rfl
  intro i t h nx hf hi0 hi h10 hj
  obtain ⟨h3, hb⟩ := hj
  dsimp only at h3
  have h8 := hf 8 rfl; simp only [PT.get_set, Nat.reduceEqDiff, if_true, if_false, reduceIte, PT.get_leaf] at h8; have h9 := hf 9 rfl; simp only [PT.get_set, Nat.reduceEqDiff, if_true, if_false, reduceIte, PT.get_leaf] at h9
  clear hf
  rcases Nat.lt_or_ge i l.length with hlt | hge
  · obtain ⟨x, hx, _, htk⟩ := get_dec (l := l) (i := i) (by simpa using hlt)
    have hm := hs2 x (List.mem_of_getElem? hx)
    have hdl : decide ((i : Int) < (l.length : Int)) = true := by simpa using hlt
    repeat' (first | simp only [go_sem, Int.reduceLT, Int.reduceLE, Int.reduceNeg, Int.reduceEq, Nat.reduceAdd, Nat.reduceEqDiff, Nat.reduceLeDiff, Nat.reduceBEq, reduceIte, reduceCtorEq, h8, h9, h3, h10, hx, hdl] | (with_reducible first | apply c1 | (first | apply c2 | apply c3) <;> (intro hc; simp only [hc]) | (first | apply c4 | apply c5) <;> (intro hc; rw [hc])))
    refine X_for 17 x.classes.length (fun j s => s.t.get 3 = some (.p (.s (.int .i64 ((lackN (l.take i) + cntN (x.classes.take j) : Nat) : Int)))) ∧ cntN (x.classes.take j) ≤ j) 0 (by omega) ?_ (Nat.zero_le _) ⟨by simp only [go_sem, Int.reduceLT, Int.reduceLE, Int.reduceNeg, Int.reduceEq, Nat.reduceAdd, Nat.reduceEqDiff, Nat.reduceLeDiff, Nat.reduceBEq, reduceIte, reduceCtorEq, h3]; rfl, by simp [cntN]⟩ ?_
    · simp only [go_sem, Int.reduceLT, Int.reduceLE, Int.reduceNeg, Int.reduceEq, Nat.reduceAdd, Nat.reduceEqDiff, Nat.reduceLeDiff, Nat.reduceBEq, reduceIte, reduceCtorEq]; rfl
    intro j t' h' nx' hf hj0 hj1 h17 hj2
    obtain ⟨h3', hb'⟩ := hj2
    dsimp only at h3'
    have f8 := hf 8 rfl; have f9 := hf 9 rfl; have f10 := hf 10 rfl; have f15 := hf 15 rfl; have f16 := hf 16 rfl
    simp only [PT.get_set, Nat.reduceEqDiff, if_true, if_false, reduceIte, h8, h9, h10] at f8 f9 f10 f15 f16
    clear hf
    rcases Nat.lt_or_ge j x.classes.length with hlt2 | hge2
    · obtain ⟨r, hr, _, htr⟩ := get_dec (l := x.classes) (i := j) (by simpa using hlt2)
      have hdl2 : decide ((j : Int) < (x.classes.length : Int)) = true := by simpa using hlt2
      by_cases hr0 : r.length = 0
      · repeat' (first | simp only [go_sem, Int.reduceLT, Int.reduceLE, Int.reduceNeg, Int.reduceEq, Nat.reduceAdd, Nat.reduceEqDiff, Nat.reduceLeDiff, Nat.reduceBEq, reduceIte, reduceCtorEq, f8, f9, f10, f15, f16, h3', h17, hx, hr, hdl2, show decide ((r.length : Int) = 0) = true by (simp only [decide_eq_true_eq]; omega), wrap_id (n := ((lackN (l.take i) + cntN (x.classes.take j) : Nat) : Int) + 1) (by omega) (by omega)] | (with_reducible first | apply c1 | (first | apply c2 | apply c3) <;> (intro hc; simp only [hc]) | (first | apply c4 | apply c5) <;> (intro hc; rw [hc])))
        refine ⟨hlt2, ?_, ?_⟩
        · rw [htr, cnt_snoc, if_pos hr0]; rfl
        · rw [htr, cnt_snoc, if_pos hr0]; omega
      · repeat' (first | simp only [go_sem, Int.reduceLT, Int.reduceLE, Int.reduceNeg, Int.reduceEq, Nat.reduceAdd, Nat.reduceEqDiff, Nat.reduceLeDiff, Nat.reduceBEq, reduceIte, reduceCtorEq, f8, f9, f10, f15, f16, h3', h17, hx, hr, hdl2, show decide ((r.length : Int) = 0) = false by (simp only [decide_eq_false_iff_not]; omega)] | (with_reducible first | apply c1 | (first | apply c2 | apply c3) <;> (intro hc; simp only [hc]) | (first | apply c4 | apply c5) <;> (intro hc; rw [hc])))
        refine ⟨hlt2, ?_, ?_⟩
        · rw [htr, cnt_snoc, if_neg hr0]; rfl
        · rw [htr, cnt_snoc, if_neg hr0]; omega
    · rw [List.take_of_length_le hge2] at h3' hb'
      repeat' (first | simp only [go_sem, Int.reduceLT, Int.reduceLE, Int.reduceNeg, Int.reduceEq, Nat.reduceAdd, Nat.reduceEqDiff, Nat.reduceLeDiff, Nat.reduceBEq, reduceIte, reduceCtorEq, f8, f9, f10, f15, f16, h3', h17, hx, show decide ((j : Int) < (x.classes.length : Int)) = false by simpa using hge2] | (with_reducible first | apply c1 | (first | apply c2 | apply c3) <;> (intro hc; simp only [hc]) | (first | apply c4 | apply c5) <;> (intro hc; rw [hc])))
      refine ⟨hlt, ?_, ?_⟩
      · rw [htk, lack_snoc]
      · rw [htk, lack_snoc]; omega
  · rw [List.take_of_length_le hge] at h3
    repeat' (first | simp only [go_sem, Int.reduceLT, Int.reduceLE, Int.reduceNeg, Int.reduceEq, Nat.reduceAdd, Nat.reduceEqDiff, Nat.reduceLeDiff, Nat.reduceBEq, reduceIte, reduceCtorEq, h8, h9, h3, h10, show decide ((i : Int) < (l.length : Int)) = false by simpa using hge] | (with_reducible first | apply c1 | (first | apply c2 | apply c3) <;> (intro hc; simp only [hc]) | (first | apply c4 | apply c5) <;> (intro hc; rw [hc])))
end Go.Proofs.YtddmnddocbmjnaaGreat.Dv
namespace Go.Proofs.YtddmnddocbmjnaaGreat.Dv
def m_ref43_Pairs : MF := ⟨52, (.seq (.reg none [Oo 3 (.box (.t 0)), Oo 5 (.box (.t 2)), Oo 6 (.mov (.d .nil))]) (.seq (.reg none [Oo 11 (.load true 1 (.t 5)), Oo 12 (.call 34 [.t 11]), Om 7 12]) (.seq (.reg none [Oo 13 (.bldS false (some 2) 0 []), Om 8 13]) (.seq (.seq (.reg none [Oo 9 (.mov (.d (Ci 0)))]) (.block 0 (.loop (.seq (.seq (.reg none [Om 14 9, Om 15 7, Ok 16 15, Oo 17 (.iop .lss (.t 14) (.t 16))]) (.cond (.t 17) .skip (.exit 0))) (.seq (.block 1 (.seq (.reg none [Om 20 9, Oo 21 (.iop .add (.t 20) (.d (Ci 1))), Om 10 21]) (.block 2 (.loop (.seq (.seq (.reg none [Om 22 10, Om 23 7, Ok 24 23, Oo 25 (.iop .lss (.t 22) (.t 24))]) (.cond (.t 25) .skip (.exit 2))) (.seq (.block 3 (.seq (.reg (some #[0, 0, 0, 0, 12, 28, 0, 0, 192, 448, 1023]) [Oo 28 (.load true 15 (.t 3)), Om 29 1, Om 30 7, Om 31 9, Oo 32 (.iadrS 1 (.t 30) (.t 31)), Ol 33 32, Om 34 7, Om 35 10, Oo 36 (.iadrS 1 (.t 34) (.t 35)), Ol 37 36, Oo 38 (.call 35 [.t 28, .t 29, .t 33, .t 37])]) (.cond (.t 38) (.reg (some #[0, 0, 0, 6, 14, 0, 0, 96, 224, 510, 1022, 2047, 4095]) [Om 39 8, Om 40 7, Om 41 9, Oo 42 (.iadrS 1 (.t 40) (.t 41)), Ol 43 42, Om 44 7, Om 45 10, Oo 46 (.iadrS 1 (.t 44) (.t 45)), Ol 47 46, Oo 48 (.bld [(Ci 0), (Ci 0)] [(0, 1, (.t 43)), (1, 1, (.t 47))]), Oo 49 (.bldS false (some 2) 1 [.t 48]), Oo 50 (.app false (some 2) 16 (.t 39) (.t 49)), Om 8 50]) .skip))) (.reg none [Om 26 10, Oo 27 (.iop .add (.t 26) (.d (Ci 1))), Om 10 27]))))))) (.reg none [Om 18 9, Oo 19 (.iop .add (.t 18) (.d (Ci 1))), Om 9 19])))))) (.seq (.reg none [Om 51 8, Om 6 51]) .ret))))), [.tmp 6]⟩
theorem c_ref43_Pairs : comp Tryz.prog G0 13 = some m_ref43_Pairs := by kernel_rfl
theorem q_ref43_Pairs : Q0 13 := mCall_pure rfl
def m_ref43_Clashes : MF := ⟨26, (.seq (.reg none [Oo 3 (.box (.t 0)), Oo 6 (.mov (.d (Ci 0)))]) (.seq (.reg none [Oo 7 (.mov (.d (Ci 0)))]) (.seq (.seq (.reg none [Oo 8 (.mov (.d (Ci 0)))]) (.block 0 (.loop (.seq (.seq (.reg none [Om 9 8, Om 10 2, Ok 11 10, Oo 12 (.iop .lss (.t 9) (.t 11))]) (.cond (.t 12) .skip (.exit 0))) (.seq (.block 1 (.reg (some #[0, 0, 0, 0, 0, 24, 56, 126, 254, 511, 1023]) [Om 15 7, Oo 16 (.load true 15 (.t 3)), Om 17 1, Om 18 2, Om 19 8, Oo 20 (.iadrS 1 (.t 18) (.t 19)), Oo 21 (.load true 1 (.t 20)), Oo 22 (.call 13 [.t 16, .t 17, .t 21]), Ok 23 22, Oo 24 (.iop .add (.t 15) (.t 23)), Om 7 24])) (.reg none [Om 13 8, Oo 14 (.iop .add (.t 13) (.d (Ci 1))), Om 8 14])))))) (.seq (.reg none [Om 25 7, Om 6 25]) .ret)))), [.tmp 6]⟩
theorem c_ref43_Clashes : comp Tryz.prog G0 15 = some m_ref43_Clashes := by kernel_rfl
theorem q_ref43_Clashes : Q0 15 := mCall_pure rfl
def pr (x : Int × Int) : PDV := .agg [I x.1, I x.2]
theorem pr_len {x : Int × Int} : (pr x).cells.length = 2 := rfl
theorem pr_ld {x : Int × Int} {h : PT AObj} : ldX true 2 (.p (.rp (pr x).cells)) h = some { dv := .p (pr x) } := rfl
theorem pr_aop {n : Bool} {x y : Int × Int} : aopX [0, 0] n (.p (pr x)) (.p (pr y)) = some (bl n (decide (x = y))) := by
  have : (x.1 == y.1 && (x.2 == y.2 && true)) = decide (x = y) := by
    rw [Bool.eq_iff_iff]
    simp [Prod.ext_iff]
  simp only [aopX, pr, eqL, eq1, if_true, Option.map_some, this]
theorem twos_res (a b : List (Int × Int)) (hb : b.length ≤ 1048576) : res Tryz.prog G0 11 [.lst (a.map pr), .lst (b.map pr)] = some (B (decide (a = b))) := by
  refine res_body c_ref43_Twos (Nat.le_of_ble_eq_true rfl) ?_
  simp only [m_ref43_Twos, Oo, Ou, Og, Ci, Om, Of, Ol, Ok]
  by_cases hl : a.length = b.length
  case neg =>
    repeat' (first | simp only [go_sem, Int.reduceLT, Int.reduceLE, Int.reduceNeg, Int.reduceEq, Nat.reduceAdd, Nat.reduceEqDiff, Nat.reduceLeDiff, Nat.reduceBEq, reduceIte, reduceCtorEq, show decide ((a.length : Int) ≠ (b.length : Int)) = true by (simp only [decide_eq_true_eq]; omega)] | (with_reducible first | apply c1 | (first | apply c2 | apply c3) <;> (intro hc; simp only [hc]) | (first | apply c4 | apply c5) <;> (intro hc; rw [hc])))
    have : a ≠ b := fun e => hl (by rw [e])
    simp [this]
  repeat' (first | simp only [go_sem, Int.reduceLT, Int.reduceLE, Int.reduceNeg, Int.reduceEq, Nat.reduceAdd, Nat.reduceEqDiff, Nat.reduceLeDiff, Nat.reduceBEq, reduceIte, reduceCtorEq, show decide ((a.length : Int) ≠ (b.length : Int)) = false by (simp; omega)] | (with_reducible first | apply c1 | (first | apply c2 | apply c3) <;> (intro hc; simp only [hc]) | (first | apply c4 | apply c5) <;> (intro hc; rw [hc])))
  refine X_for 5 a.length (fun i s => a.take i = b.take i) 0 (by omega) ?_ (Nat.zero_le _) (by simp) ?_
  · simp only [go_sem, Int.reduceLT, Int.reduceLE, Int.reduceNeg, Int.reduceEq, Nat.reduceAdd, Nat.reduceEqDiff, Nat.reduceLeDiff, Nat.reduceBEq, reduceIte, reduceCtorEq]; rfl
  intro i t h nx hf hi0 hi h5 hj
  have h0 := hf 0 rfl; simp only [PT.get_set, Nat.reduceEqDiff, if_true, if_false, reduceIte, PT.get_leaf] at h0; have h1 := hf 1 rfl; simp only [PT.get_set, Nat.reduceEqDiff, if_true, if_false, reduceIte, PT.get_leaf] at h1
  clear hf
  rcases Nat.lt_or_ge i a.length with hlt | hge
  · obtain ⟨x, hx, _, htx⟩ := get_dec (l := a) (i := i) (by simpa using hlt)
    obtain ⟨y, hy, _, hty⟩ := get_dec (l := b) (i := i) (by simp; omega)
    have hdl : decide ((i : Int) < (a.length : Int)) = true := by simpa using hlt
    by_cases hxy : x = y
    · repeat' (first | simp only [go_sem, Int.reduceLT, Int.reduceLE, Int.reduceNeg, Int.reduceEq, Nat.reduceAdd, Nat.reduceEqDiff, Nat.reduceLeDiff, Nat.reduceBEq, reduceIte, reduceCtorEq, h0, h1, h5, hx, hy, hdl, pr_len, pr_ld, pr_aop, show decide (x = y) = true by simpa using hxy] | (with_reducible first | apply c1 | (first | apply c2 | apply c3) <;> (intro hc; simp only [hc]) | (first | apply c4 | apply c5) <;> (intro hc; rw [hc])))
      refine ⟨hlt, ?_⟩
      rw [htx, hty, hj, hxy]
    · repeat' (first | simp only [go_sem, Int.reduceLT, Int.reduceLE, Int.reduceNeg, Int.reduceEq, Nat.reduceAdd, Nat.reduceEqDiff, Nat.reduceLeDiff, Nat.reduceBEq, reduceIte, reduceCtorEq, h0, h1, h5, hx, hy, hdl, pr_len, pr_ld, pr_aop, show decide (x = y) = false by simpa using hxy] | (with_reducible first | apply c1 | (first | apply c2 | apply c3) <;> (intro hc; simp only [hc]) | (first | apply c4 | apply c5) <;> (intro hc; rw [hc])))
      have : a ≠ b := fun e => by
        rw [e, hy] at hx
        cases hx
        exact hxy rfl
      simp [this]
  · rw [List.take_of_length_le hge, List.take_of_length_le (by omega)] at hj
    repeat' (first | simp only [go_sem, Int.reduceLT, Int.reduceLE, Int.reduceNeg, Int.reduceEq, Nat.reduceAdd, Nat.reduceEqDiff, Nat.reduceLeDiff, Nat.reduceBEq, reduceIte, reduceCtorEq, h0, h1, h5, show decide ((i : Int) < (a.length : Int)) = false by simpa using hge] | (with_reducible first | apply c1 | (first | apply c2 | apply c3) <;> (intro hc; simp only [hc]) | (first | apply c4 | apply c5) <;> (intro hc; rw [hc])))
    simp [hj]
theorem bldS_pr {x y : Int} {id : Nat} : bldSX false (some 2) 1 [.p (.agg [.s (.int .i64 x), .s (.int .i64 y)])] id = some { dv := .ow id [pr (x, y)], rd := [], up := [(id, some (.tip 2))] } := rfl
theorem app_ow_pr {l : List PDV} {x : Int × Int} {i j id : Nat} {h : PT AObj} (hg : h.get i = some (.tip 2)) (hb : (l.length + 1) * 16 ≤ 70368744177664) : appX false (some 2) 16 (.ow i l) (.ow j [pr x]) h id = some { dv := .ow id (l ++ [pr x]), rd := [i], up := [(i, none), (id, some (.tip 2))] } := by
  have e : src h (esK (some 2)) (.ow j [pr x]) = some ([.p (I x.1), .p (I x.2)], 1, []) := rfl
  have e2 : plainL [DV.p (I x.1), DV.p (I x.2)] = some [I x.1, I x.2] := rfl
  simp only [appX, e, hg, e2, Nat.one_ne_zero, if_false]
  rw [if_pos ⟨hb, rfl⟩]
  rfl
def rowN (f : Int → Int → Bool) (k : List Int) (i j : Nat) : List (Int × Int) := (((k.take j).drop (i + 1)).filter (f ((k[i]?).getD 0))).map fun b => ((k[i]?).getD 0, b)
def pairsN (f : Int → Int → Bool) (k : List Int) (i : Nat) : List (Int × Int) := (List.range i).flatMap fun a => rowN f k a k.length
theorem pairs_snoc {f : Int → Int → Bool} {k : List Int} {i : Nat} : pairsN f k (i + 1) = pairsN f k i ++ rowN f k i k.length := by
  simp [pairsN, List.range_succ]
theorem row_snoc {f : Int → Int → Bool} {k : List Int} {i j : Nat} {a y : Int} (hj : i + 1 ≤ j) (hy : k[j]? = some y) (ha : k[i]? = some a) : rowN f k i (j + 1) = rowN f k i j ++ if f a y then [(a, y)] else [] := by
  have hjl : j < k.length := (List.getElem?_eq_some_iff.1 hy).1
  have e : (k.take (j + 1)).drop (i + 1) = (k.take j).drop (i + 1) ++ [y] := by
    rw [List.take_add_one, hy, List.drop_append_of_le_length (by simp; omega)]
    rfl
  simp only [rowN, e, ha, Option.getD_some, List.filter_append, List.map_append]
  congr 1
  by_cases h : f a y <;> simp [h]
theorem rpairs_res (p : VProblem) (hp : smP p) (l : List VSeat) (hl : l.length ≤ 1048576) (x : VLoad) (hx : x.classes.length ≤ 8 ∧ ∀ r ∈ x.classes, r.length ≤ 8) :
    ∃ q, res Tryz.prog G0 13 [p.P, .lst (l.map VSeat.P), x.P] = some q ∧ ∃ k : List Int, allP x k ∧ k.length ≤ 64 ∧ q = .lst ((pairsN (clashB p l) k k.length).map pr) ∧ (pairsN (clashB p l) k k.length).length ≤ 4096 := by
  obtain ⟨q0, hq0, k, rfl, hall, hk64⟩ := rall_res x hx
  refine res_ex c_ref43_Pairs (Nat.le_of_ble_eq_true rfl) ?_
  simp only [m_ref43_Pairs, Oo, Ou, Og, Ci, Om, Of, Ol, Ok]
  repeat' (first | simp only [go_sem, Int.reduceLT, Int.reduceLE, Int.reduceNeg, Int.reduceEq, Nat.reduceAdd, Nat.reduceEqDiff, Nat.reduceLeDiff, Nat.reduceBEq, reduceIte, reduceCtorEq, q_ref42_All, hq0, bldS_nil, esK] | (with_reducible first | apply c1 | (first | apply c2 | apply c3) <;> (intro hc; simp only [hc]) | (first | apply c4 | apply c5) <;> (intro hc; rw [hc])))
  refine X_for 9 k.length (fun i s => s.h.get 0 = some (.cells (DV.cells (.p p.P)) false) ∧ ∃ j, s.t.get 8 = some (.ow j ((pairsN (clashB p l) k i).map pr)) ∧ s.h.get j = some (.tip 2) ∧ 0 < j ∧ j < s.nx ∧ (pairsN (clashB p l) k i).length ≤ 64 * i) 0 (by omega) ?_ (Nat.zero_le _) ?_ ?_
  · simp only [go_sem, Int.reduceLT, Int.reduceLE, Int.reduceNeg, Int.reduceEq, Nat.reduceAdd, Nat.reduceEqDiff, Nat.reduceLeDiff, Nat.reduceBEq, reduceIte, reduceCtorEq]; rfl
  · exact ⟨by simp only [go_sem, Int.reduceLT, Int.reduceLE, Int.reduceNeg, Int.reduceEq, Nat.reduceAdd, Nat.reduceEqDiff, Nat.reduceLeDiff, Nat.reduceBEq, reduceIte, reduceCtorEq], _, by simp only [go_sem, Int.reduceLT, Int.reduceLE, Int.reduceNeg, Int.reduceEq, Nat.reduceAdd, Nat.reduceEqDiff, Nat.reduceLeDiff, Nat.reduceBEq, reduceIte, reduceCtorEq]; rfl, by simp only [go_sem, Int.reduceLT, Int.reduceLE, Int.reduceNeg, Int.reduceEq, Nat.reduceAdd, Nat.reduceEqDiff, Nat.reduceLeDiff, Nat.reduceBEq, reduceIte, reduceCtorEq], by omega, by dsimp only; omega, by simp [pairsN]⟩
  intro i t h nx hf hi0 hi h9 hj
  obtain ⟨hh, j, h8, hg, j0, jn, hlen⟩ := hj
  dsimp only at hh h8 hg jn
  have h1 := hf 1 rfl; simp only [PT.get_set, Nat.reduceEqDiff, if_true, if_false, reduceIte, PT.get_leaf] at h1; have h3 := hf 3 rfl; simp only [PT.get_set, Nat.reduceEqDiff, if_true, if_false, reduceIte, PT.get_leaf] at h3; have h7 := hf 7 rfl; simp only [PT.get_set, Nat.reduceEqDiff, if_true, if_false, reduceIte, PT.get_leaf] at h7
  clear hf
  rcases Nat.lt_or_ge i k.length with hlt | hge
  · obtain ⟨a, ha, _, _⟩ := get_dec (l := k) (i := i) (by simpa using hlt)
    have hdl : decide ((i : Int) < (k.length : Int)) = true := by simpa using hlt
    repeat' (first | simp only [go_sem, Int.reduceLT, Int.reduceLE, Int.reduceNeg, Int.reduceEq, Nat.reduceAdd, Nat.reduceEqDiff, Nat.reduceLeDiff, Nat.reduceBEq, reduceIte, reduceCtorEq, h1, h3, h7, h8, h9, hh, hdl, wrap_id (n := (i : Int) + 1) (by omega) (by omega)] | (with_reducible first | apply c1 | (first | apply c2 | apply c3) <;> (intro hc; simp only [hc]) | (first | apply c4 | apply c5) <;> (intro hc; rw [hc])))
    refine X_for 10 k.length (fun m s => s.h.get 0 = some (.cells (DV.cells (.p p.P)) false) ∧ ∃ j, s.t.get 8 = some (.ow j ((pairsN (clashB p l) k i ++ rowN (clashB p l) k i m).map pr)) ∧ s.h.get j = some (.tip 2) ∧ 0 < j ∧ j < s.nx ∧ (pairsN (clashB p l) k i ++ rowN (clashB p l) k i m).length ≤ 64 * i + m) (i + 1) (by omega) ?_ (by omega) ?_ ?_
    · simp only [go_sem, Int.reduceLT, Int.reduceLE, Int.reduceNeg, Int.reduceEq, Nat.reduceAdd, Nat.reduceEqDiff, Nat.reduceLeDiff, Nat.reduceBEq, reduceIte, reduceCtorEq]; rfl
    · have hr0 : rowN (clashB p l) k i (i + 1) = [] := by simp [rowN]
      refine ⟨by simp only [go_sem, Int.reduceLT, Int.reduceLE, Int.reduceNeg, Int.reduceEq, Nat.reduceAdd, Nat.reduceEqDiff, Nat.reduceLeDiff, Nat.reduceBEq, reduceIte, reduceCtorEq, hh], j, by simp only [go_sem, Int.reduceLT, Int.reduceLE, Int.reduceNeg, Int.reduceEq, Nat.reduceAdd, Nat.reduceEqDiff, Nat.reduceLeDiff, Nat.reduceBEq, reduceIte, reduceCtorEq, h8, hr0, List.append_nil], by simp only [go_sem, Int.reduceLT, Int.reduceLE, Int.reduceNeg, Int.reduceEq, Nat.reduceAdd, Nat.reduceEqDiff, Nat.reduceLeDiff, Nat.reduceBEq, reduceIte, reduceCtorEq, hg], j0, ?_, by rw [hr0, List.append_nil]; omega⟩
      show j < nx + 7
      omega
    intro m t' h' nx' hf hm0 hm h10 hj2
    obtain ⟨hh', j', h8', hg', j0', jn', hlen'⟩ := hj2
    dsimp only at hh' h8' hg' jn'
    have f1 := hf 1 rfl; have f3 := hf 3 rfl; have f7 := hf 7 rfl; have f9 := hf 9 rfl
    simp only [PT.get_set, Nat.reduceEqDiff, if_true, if_false, reduceIte, h1, h3, h7, h9] at f1 f3 f7 f9
    clear hf
    rcases Nat.lt_or_ge m k.length with hlt2 | hge2
    · obtain ⟨y, hy, _, _⟩ := get_dec (l := k) (i := m) (by simpa using hlt2)
      have hdl2 : decide ((m : Int) < (k.length : Int)) = true := by simpa using hlt2
      have hsn := row_snoc (f := clashB p l) hm0 hy ha
      cases hcl : clashB p l a y with
      | false =>
        rw [hcl] at hsn
        repeat' (first | simp only [go_sem, Int.reduceLT, Int.reduceLE, Int.reduceNeg, Int.reduceEq, Nat.reduceAdd, Nat.reduceEqDiff, Nat.reduceLeDiff, Nat.reduceBEq, reduceIte, reduceCtorEq, f1, f3, f7, f9, h8', h10, hh', ha, hy, hdl2, q_ref42_Clash, rClash_res p hp l hl, hcl] | (with_reducible first | apply c1 | (first | apply c2 | apply c3) <;> (intro hc; simp only [hc]) | (first | apply c4 | apply c5) <;> (intro hc; rw [hc])))
        rw [if_neg Bool.false_ne_true, List.append_nil] at hsn
        refine ⟨hlt2, j', by rw [hsn], hg', j0', by omega, by rw [hsn]; omega⟩
      | true =>
        rw [hcl, if_pos rfl] at hsn
        have hgg : (h'.set (nx' + 25) (some (.tip 2))).get j' = some (.tip 2) := by
          rw [PT.get_set]
          split
          · rfl
          · exact hg'
        have hbb : (((pairsN (clashB p l) k i ++ rowN (clashB p l) k i m).map pr).length + 1) * 16 ≤ 70368744177664 := by rw [List.length_map]; omega
        repeat' (first | simp only [go_sem, Int.reduceLT, Int.reduceLE, Int.reduceNeg, Int.reduceEq, Nat.reduceAdd, Nat.reduceEqDiff, Nat.reduceLeDiff, Nat.reduceBEq, reduceIte, reduceCtorEq, f1, f3, f7, f9, h8', h10, hh', ha, hy, hdl2, q_ref42_Clash, rClash_res p hp l hl, hcl, bldS_pr, app_ow_pr hgg hbb] | (with_reducible first | apply c1 | (first | apply c2 | apply c3) <;> (intro hc; simp only [hc]) | (first | apply c4 | apply c5) <;> (intro hc; rw [hc])))
        · rfl
        · (simp [nqs, quietL, nqP, nqA, clash, meets]) <;> ((repeat' apply And.intro) <;> first | rfl | omega | (right; (repeat' apply And.intro) <;> omega) | (left; rfl))
        · rw [if_neg (by omega)]
          exact ⟨hlt2, rfl, nx' + 26, by rw [hsn]; simp, if_pos rfl, by omega, by omega, by rw [hsn, ← List.append_assoc, List.length_append, List.length_singleton]; omega⟩
    · repeat' (first | simp only [go_sem, Int.reduceLT, Int.reduceLE, Int.reduceNeg, Int.reduceEq, Nat.reduceAdd, Nat.reduceEqDiff, Nat.reduceLeDiff, Nat.reduceBEq, reduceIte, reduceCtorEq, f1, f3, f7, f9, h8', h10, hh', show decide ((m : Int) < (k.length : Int)) = false by simpa using hge2] | (with_reducible first | apply c1 | (first | apply c2 | apply c3) <;> (intro hc; simp only [hc]) | (first | apply c4 | apply c5) <;> (intro hc; rw [hc])))
      have hmk : m = k.length := by omega
      subst hmk
      refine ⟨hlt, j', by rw [pairs_snoc], hg', j0', by omega, by rw [pairs_snoc]; omega⟩
  · have hik : i = k.length := by omega
    repeat' (first | simp only [go_sem, Int.reduceLT, Int.reduceLE, Int.reduceNeg, Int.reduceEq, Nat.reduceAdd, Nat.reduceEqDiff, Nat.reduceLeDiff, Nat.reduceBEq, reduceIte, reduceCtorEq, h1, h3, h7, h8, h9, hh, show decide ((i : Int) < (k.length : Int)) = false by simpa using hge] | (with_reducible first | apply c1 | (first | apply c2 | apply c3) <;> (intro hc; simp only [hc]) | (first | apply c4 | apply c5) <;> (intro hc; rw [hc])))
    subst hik
    exact ⟨k, hall, hk64, rfl, by omega⟩
def loadS (x : VLoad) : Prop := x.classes.length ≤ 8 ∧ ∀ r ∈ x.classes, r.length ≤ 8
open Classical in
noncomputable def allL (x : VLoad) : List Int := if h : ∃ k : List Int, allP x k ∧ k.length ≤ 64 then Classical.choose h else []
theorem allL_eq {x : VLoad} {k : List Int} (h : allP x k) (hk : k.length ≤ 64) : allL x = k := by
  have hx : ∃ k : List Int, allP x k ∧ k.length ≤ 64 := ⟨k, h, hk⟩
  rw [allL, dif_pos hx]
  have hc := Classical.choose_spec hx
  exact all_unique hc.1.1 h.1 (fun y => by rw [hc.1.2, h.2])
theorem rallL (x : VLoad) (hx : loadS x) : res Tryz.prog G0 34 [x.P] = some (L (allL x)) ∧ allP x (allL x) ∧ (allL x).length ≤ 64 := by
  obtain ⟨q, hq, k, rfl, h1, h2⟩ := rall_res x hx
  rw [allL_eq h1 h2]
  exact ⟨hq, h1, h2⟩
noncomputable def prsL (p : VProblem) (l : List VSeat) (x : VLoad) : List (Int × Int) := pairsN (clashB p l) (allL x) (allL x).length
theorem rpairsL (p : VProblem) (hp : smP p) (l : List VSeat) (hl : l.length ≤ 1048576) (x : VLoad) (hx : loadS x) :
    res Tryz.prog G0 13 [p.P, .lst (l.map VSeat.P), x.P] = some (.lst ((prsL p l x).map pr)) ∧ (prsL p l x).length ≤ 4096 := by
  obtain ⟨q, hq, k, h1, h2, rfl, h3⟩ := rpairs_res p hp l hl x hx
  rw [prsL, allL_eq h1 h2]
  exact ⟨hq, h3⟩
noncomputable def clashN (p : VProblem) (l : List VSeat) (w : List VLoad) : Nat := (w.map fun x => (prsL p l x).length).sum
theorem clashN_le {p : VProblem} (hp : smP p) {l : List VSeat} (hl : l.length ≤ 1048576) {w : List VLoad} (hw : ∀ x ∈ w, loadS x) : clashN p l w ≤ 4096 * w.length := by
  induction w with
  | nil => simp [clashN]
  | cons x w ih =>
    have h1 := (rpairsL p hp l hl x (hw x (by simp))).2
    have h2 := ih (fun y hy => hw y (by simp [hy]))
    simp only [clashN, List.map_cons, List.sum_cons, List.length_cons] at h2 ⊢
    omega
theorem clashN_snoc {p : VProblem} {l : List VSeat} {w : List VLoad} {x : VLoad} : clashN p l (w ++ [x]) = clashN p l w + (prsL p l x).length := by
  simp [clashN]
theorem rclashes_res (p : VProblem) (hp : smP p) (l : List VSeat) (hl : l.length ≤ 1048576) (w : List VLoad) (hw : ∀ x ∈ w, loadS x) (hwl : w.length ≤ 12) :
    res Tryz.prog G0 15 [p.P, .lst (l.map VSeat.P), .lst (w.map VLoad.P)] = some (I (clashN p l w)) := by
  refine res_body c_ref43_Clashes (Nat.le_of_ble_eq_true rfl) ?_
  simp only [m_ref43_Clashes, Oo, Ou, Og, Ci, Om, Of, Ol, Ok]
  repeat' (first | simp only [go_sem, Int.reduceLT, Int.reduceLE, Int.reduceNeg, Int.reduceEq, Nat.reduceAdd, Nat.reduceEqDiff, Nat.reduceLeDiff, Nat.reduceBEq, reduceIte, reduceCtorEq] | (with_reducible first | apply c1 | (first | apply c2 | apply c3) <;> (intro hc; simp only [hc]) | (first | apply c4 | apply c5) <;> (intro hc; rw [hc])))
  refine X_for 8 w.length (fun i s => s.h.get 0 = some (.cells (DV.cells (.p p.P)) false) ∧ s.t.get 7 = some (.p (I (clashN p l (w.take i) : Nat)))) 0 (by omega) ?_ (Nat.zero_le _) ?_ ?_
  · simp only [go_sem, Int.reduceLT, Int.reduceLE, Int.reduceNeg, Int.reduceEq, Nat.reduceAdd, Nat.reduceEqDiff, Nat.reduceLeDiff, Nat.reduceBEq, reduceIte, reduceCtorEq]; rfl
  · simp only [go_sem, Int.reduceLT, Int.reduceLE, Int.reduceNeg, Int.reduceEq, Nat.reduceAdd, Nat.reduceEqDiff, Nat.reduceLeDiff, Nat.reduceBEq, reduceIte, reduceCtorEq]; simp [clashN]
  intro i t h nx hf hi0 hi h8 hj
  obtain ⟨hh, h7⟩ := hj
  dsimp only at hh h7
  have h1 := hf 1 rfl; simp only [PT.get_set, Nat.reduceEqDiff, if_true, if_false, reduceIte, PT.get_leaf] at h1; have h2 := hf 2 rfl; simp only [PT.get_set, Nat.reduceEqDiff, if_true, if_false, reduceIte, PT.get_leaf] at h2; have h3 := hf 3 rfl; simp only [PT.get_set, Nat.reduceEqDiff, if_true, if_false, reduceIte, PT.get_leaf] at h3
  clear hf
  rcases Nat.lt_or_ge i w.length with hlt | hge
  · obtain ⟨x, hx, _, htx⟩ := get_dec (l := w) (i := i) (by simpa using hlt)
    have hdl : decide ((i : Int) < (w.length : Int)) = true := by simpa using hlt
    have hxm := hw x (List.mem_of_getElem? hx)
    obtain ⟨e1, e2⟩ := rpairsL p hp l hl x hxm
    have e3 := clashN_le (p := p) hp (l := l) hl (w := w.take i) (fun y hy => hw y (List.mem_of_mem_take hy))
    rw [List.length_take] at e3
    repeat' (first | simp only [go_sem, Int.reduceLT, Int.reduceLE, Int.reduceNeg, Int.reduceEq, Nat.reduceAdd, Nat.reduceEqDiff, Nat.reduceLeDiff, Nat.reduceBEq, reduceIte, reduceCtorEq, h1, h2, h3, h7, h8, hh, hx, hdl, q_ref43_Pairs, e1, wrap_id (n := ((clashN p l (w.take i) : Nat) : Int) + ((prsL p l x).length : Int)) (by omega) (by omega)] | (with_reducible first | apply c1 | (first | apply c2 | apply c3) <;> (intro hc; simp only [hc]) | (first | apply c4 | apply c5) <;> (intro hc; rw [hc])))
    refine ⟨hlt, ?_⟩
    rw [htx, clashN_snoc, Int.natCast_add]
  · repeat' (first | simp only [go_sem, Int.reduceLT, Int.reduceLE, Int.reduceNeg, Int.reduceEq, Nat.reduceAdd, Nat.reduceEqDiff, Nat.reduceLeDiff, Nat.reduceBEq, reduceIte, reduceCtorEq, h1, h2, h3, h7, h8, hh, show decide ((i : Int) < (w.length : Int)) = false by simpa using hge] | (with_reducible first | apply c1 | (first | apply c2 | apply c3) <;> (intro hc; simp only [hc]) | (first | apply c4 | apply c5) <;> (intro hc; rw [hc])))
    rw [List.take_of_length_le hge]
end Go.Proofs.YtddmnddocbmjnaaGreat.Dv
namespace Go.Proofs.YtddmnddocbmjnaaGreat.Dv
def m_slices_Compact_Lint_int_ : MF := ⟨61, (.seq (.reg none [Oo 2 (.mov (.d .nil))]) (.seq (.seq (.reg none [Om 6 0, Ok 7 6, Oo 8 (.iop .lss (.t 7) (.d (Ci 2)))]) (.cond (.t 8) (.seq (.reg none [Om 9 0, Om 2 9]) .ret) .skip)) (.seq (.seq (.reg none [Oo 3 (.mov (.d (Ci 1)))]) (.block 0 (.loop (.seq (.seq (.reg none [Om 10 3, Om 11 0, Ok 12 11, Oo 13 (.iop .lss (.t 10) (.t 12))]) (.cond (.t 13) .skip (.exit 0))) (.seq (.block 1 (.seq (.reg (some #[0, 0, 3, 7, 0, 0, 32, 112, 240, 511]) [Om 16 0, Om 17 3, Oo 18 (.iadrS 1 (.t 16) (.t 17)), Ol 19 18, Om 20 0, Om 21 3, Oo 22 (.iop .sub (.t 21) (.d (Ci 1))), Oo 23 (.iadrS 1 (.t 20) (.t 22)), Ol 24 23, Oo 25 (.iop .eql (.t 19) (.t 24))]) (.cond (.t 25) (.seq (.reg none [Om 26 0, Om 27 3, Oo 28 (.ssl 1 (.t 26) (some (.t 27)) none none), Om 4 28]) (.seq (.seq (.reg none [Oo 5 (.mov (.d (Ci 1)))]) (.block 2 (.loop (.seq (.seq (.reg none [Om 29 5, Om 30 4, Ok 31 30, Oo 32 (.iop .lss (.t 29) (.t 31))]) (.cond (.t 32) .skip (.exit 2))) (.seq (.block 3 (.seq (.reg (some #[0, 0, 3, 7, 0, 0, 32, 112, 240, 511]) [Om 35 4, Om 36 5, Oo 37 (.iadrS 1 (.t 35) (.t 36)), Ol 38 37, Om 39 4, Om 40 5, Oo 41 (.iop .sub (.t 40) (.d (Ci 1))), Oo 42 (.iadrS 1 (.t 39) (.t 41)), Ol 43 42, Oo 44 (.iop .neq (.t 38) (.t 43))]) (.cond (.t 44) (.seq (.reg none [Om 45 0, Om 46 3, Om 47 4, Om 48 5, Oo 49 (.iadrS 1 (.t 47) (.t 48)), Ol 50 49, Oo 51 (.iadrS 1 (.t 45) (.t 46)), Ou (.store 1 (.t 51) (.t 50))]) (.reg none [Om 52 3, Oo 53 (.iop .add (.t 52) (.d (Ci 1))), Om 3 53])) .skip))) (.reg none [Om 33 5, Oo 34 (.iop .add (.t 33) (.d (Ci 1))), Om 5 34])))))) (.seq (.reg none [Om 54 0, Om 55 3, Oo 56 (.ssl 1 (.t 54) (some (.t 55)) none none), Ou (.clr (some [(Ci 0)]) (.t 56))]) (.seq (.reg none [Om 57 0, Om 58 3, Oo 59 (.ssl 1 (.t 57) none (some (.t 58)) none), Om 2 59]) .ret)))) .skip))) (.reg none [Om 14 3, Oo 15 (.iop .add (.t 14) (.d (Ci 1))), Om 3 15])))))) (.seq (.reg none [Om 60 0, Om 2 60]) .ret)))), [.tmp 2]⟩
theorem c_slices_Compact_Lint_int_ : comp Tryz.prog G0 59 = some m_slices_Compact_Lint_int_ := by kernel_rfl
def CI (l : List Int) : List DV := l.map fun n => .p (I n)
theorem CI_len {l : List Int} : (CI l).length = l.length := by simp [CI]
theorem CI_get {l : List Int} {i : Nat} : (CI l)[i]? = (l[i]?).map fun n => DV.p (I n) := by simp [CI]
theorem CI_set {l : List Int} {i : Nat} {x : Int} (h : i < l.length) : setAt (CI l) i [.p (I x)] = CI (l.set i x) := by
  induction l generalizing i with
  | nil => simp at h
  | cons a l ih =>
    cases i with
    | zero => simp [CI, setAt]
    | succ i =>
      have := ih (i := i) (by simpa using h)
      simp only [CI, List.map_cons] at this ⊢
      rw [setAt_succ, this]; simp
theorem iadrS_ms {id off n av i : Nat} : iadrSX 1 (.ms id off n av none) (.p (.s (.int .i64 (i : Int)))) = if i < n then some (.mp id (off + i)) else none := by
  simp only [iadrSX, asI]
  rw [if_neg (by omega), Int.toNat_natCast]
  simp only [esK, Option.getD_none, and_true, Nat.mul_one]
theorem lenL_ms {id off n av : Nat} {es : Option Nat} : lenLX (.ms id off n av es) = some (.p (.s (.int .i64 (n : Int)))) := rfl
theorem ssl_from {id n av k : Nat} (h1 : 0 < k) (h2 : k < n) (h3 : n ≤ av) : sslX 1 (.ms id 0 n av none) (some (.p (.s (.int .i64 (k : Int))))) none none = some (.ms id k (n - k) (av - k) none) := by
  simp only [sslX, lenAv, bnd, asI]
  rw [if_pos (by omega)]
  simp only [Int.toNat_natCast]
  rw [if_pos ⟨by omega, h3⟩]
  simp only [cut]
  rw [if_neg (by omega), if_pos (by omega)]
  simp [esK]
theorem ssl_to {id n av k : Nat} (h : k ≤ av) : sslX 1 (.ms id 0 n av none) none (some (.p (.s (.int .i64 (k : Int))))) none = some (.ms id 0 k av none) := by
  simp only [sslX, lenAv, bnd, asI]
  rw [if_pos (by omega)]
  simp only [Int.toNat_natCast, Nat.zero_le, true_and, cut]
  rw [if_pos h]
  simp
theorem zeros_CI (n : Nat) : zeros [DV.p (.s (.int .i64 0))] n = CI (List.replicate n 0) := by
  induction n with
  | zero => rfl
  | succ n ih => simp only [zeros, ih]; rfl
theorem clr_CI {a b : List Int} {id av : Nat} {h : PT AObj} (hb : b ≠ []) (hg : h.get id = some (.cells (CI (a ++ b)) false)) : clrX (some [.p (.s (.int .i64 0))]) (.ms id a.length b.length av none) h = some { dv := .p (.tup []), rd := [id], up := [(id, some (.cells (CI (a ++ List.replicate b.length 0)) false))] } := by
  obtain ⟨n, hn⟩ : ∃ n, b.length = n + 1 := ⟨b.length - 1, by have := List.length_pos_iff.2 hb; omega⟩
  rw [hn]
  simp only [clrX, hg]
  rw [if_pos ⟨rfl, by simp [esK], by simp [esK, CI, hn]⟩, ← hn, zeros_CI]
  congr 5
  simp [setAt, CI]
theorem sto_CI {l : List Int} {id i : Nat} {x : Int} {h : PT AObj} (hi : i < l.length) (hg : h.get id = some (.cells (CI l) false)) : stoX 1 (.mp id i) (.p (.s (.int .i64 x))) h = some { dv := .p (.tup []), rd := [id], up := [(id, some (.cells (CI (l.set i x)) false))] } := by
  rw [sto_mp, hg]
  simp only
  rw [if_pos ⟨rfl, rfl, by rw [CI_len]; exact hi⟩]
  rw [show DV.cells (.p (.s (.int .i64 x))) = [.p (I x)] from rfl, CI_set hi]
theorem ld_CI {l : List Int} {id i : Nat} {x : Int} {h : PT AObj} (hx : l[i]? = some x) (hg : h.get id = some (.cells (CI l) false)) : ldX false 1 (.mp id i) h = some { dv := .p (.s (.int .i64 x)), rd := [id], up := [] } := by
  rw [ld_mp, hg]
  simp [CI_get, hx]
def ddS (acc : List Int) (x : Int) : List Int := if acc.getLast? = some x then acc else acc ++ [x]
def dd (l : List Int) : List Int := l.foldl ddS []
theorem dd_snoc {l : List Int} {x : Int} : dd (l ++ [x]) = ddS (dd l) x := by simp [dd]
theorem dd_len_le (l : List Int) : ∀ acc : List Int, (l.foldl ddS acc).length ≤ acc.length + l.length := by
  induction l with
  | nil => intro acc; simp
  | cons x l ih =>
    intro acc
    have := ih (ddS acc x)
    simp only [List.foldl_cons, List.length_cons]
    have h2 : (ddS acc x).length ≤ acc.length + 1 := by unfold ddS; split <;> simp
    omega
theorem dd_sorted_aux (l : List Int) : ∀ acc : List Int, acc.Pairwise (· < ·) → l.Pairwise (· ≤ ·) → (∀ a ∈ acc, ∀ y ∈ l, a ≤ y) → (l.foldl ddS acc).Pairwise (· < ·) ∧ ∀ y, y ∈ l.foldl ddS acc ↔ y ∈ acc ∨ y ∈ l := by
  induction l with
  | nil => intro acc h _ _; exact ⟨h, fun y => by simp⟩
  | cons x l ih =>
    intro acc hs hl ha
    rw [List.pairwise_cons] at hl
    simp only [List.foldl_cons]
    by_cases hx : acc.getLast? = some x
    · have e : ddS acc x = acc := by simp [ddS, hx]
      rw [e]
      obtain ⟨h1, h2⟩ := ih acc hs hl.2 (fun a ha' y hy => ha a ha' y (by simp [hy]))
      refine ⟨h1, fun y => ?_⟩
      rw [h2, List.mem_cons]
      have : x ∈ acc := List.mem_of_getLast? hx
      constructor
      · rintro (h | h)
        · exact .inl h
        · exact .inr (.inr h)
      · rintro (h | rfl | h)
        · exact .inl h
        · exact .inl this
        · exact .inr h
    · have e : ddS acc x = acc ++ [x] := by simp [ddS, hx]
      rw [e]
      have hlt : ∀ a ∈ acc, a < x := by
        intro a ha'
        have h1 := ha a ha' x (by simp)
        rcases List.eq_nil_or_concat acc with hn | ⟨p, z, hp⟩
        · subst hn; simp at ha'
        · have hz : z ≠ x := fun e => hx (by rw [hp, e]; simp)
          have hz2 := ha z (by rw [hp]; simp) x (by simp)
          rw [hp, List.concat_eq_append, List.mem_append, List.mem_singleton] at ha'
          rcases ha' with h | rfl
          · rw [hp, List.concat_eq_append, List.pairwise_append] at hs
            have := hs.2.2 a h z (by simp)
            omega
          · omega
      obtain ⟨h1, h2⟩ := ih (acc ++ [x]) (by
        rw [List.pairwise_append]
        exact ⟨hs, by simp, fun a ha' b hb => by simp at hb; subst hb; exact hlt a ha'⟩) hl.2 (fun a ha' y hy => by
        rw [List.mem_append, List.mem_singleton] at ha'
        rcases ha' with h | rfl
        · exact ha a h y (by simp [hy])
        · exact hl.1 y hy)
      refine ⟨h1, fun y => ?_⟩
      rw [h2, List.mem_append, List.mem_singleton, List.mem_cons, or_assoc]
theorem dd_sorted {l : List Int} (h : l.Pairwise (· ≤ ·)) : (dd l).Pairwise (· < ·) ∧ ∀ y, y ∈ dd l ↔ y ∈ l := by
  obtain ⟨h1, h2⟩ := dd_sorted_aux l [] (by simp) h (by simp)
  exact ⟨h1, fun y => by rw [dd, h2]; simp⟩
theorem drop_last {l : List Int} {i : Nat} {x y : Int} (hx : l[i]? = some x) (hy : l[i + 1]? = some y) : l.take (i + 2) = l.take i ++ [x] ++ [y] := by
  rw [List.take_add_one, hy, List.take_add_one, hx]; rfl
theorem dd_one {l : List Int} (h : l.length < 2) : dd l = l := by
  match l, h with
  | [], _ => rfl
  | [x], _ => rfl
theorem last_take {l : List Int} {k : Nat} {x : Int} (hx : l[k]? = some x) : (l.take (k + 1)).getLast? = some x := by
  rw [List.take_add_one, hx]; simp
theorem wrap_pred {k : Nat} (h1 : 0 < k) (h2 : k < 4611686018427387904) : IntKind.wrap .i64 ((k : Int) - 1) = ((k - 1 : Nat) : Int) := by
  rw [wrap_id (by omega) (by omega)]; omega
theorem compact_X (l : List Int) (hl : l.length ≤ 4096) (h : PT AObj) (i nx : Nat) (hg : h.get i = some (.cells (CI l) false)) : ∃ r h' n', callR Tryz.prog G0 59 [.ms i 0 l.length l.length none] h nx = some (r, h', n') ∧ ∃ rest, r = .ms i 0 (dd l).length l.length none ∧ h'.get i = some (.cells (CI (dd l ++ rest)) false) := by
  refine callR_body c_slices_Compact_Lint_int_ (Nat.le_of_ble_eq_true rfl) (R := fun r h' _ => ∃ rest, r = .ms i 0 (dd l).length l.length none ∧ h'.get i = some (.cells (CI (dd l ++ rest)) false)) ?_
  simp only [m_slices_Compact_Lint_int_, Oo, Ou, Og, Ci, Om, Of, Ol, Ok]
  by_cases h2 : l.length < 2
  case pos =>
    repeat' (first | simp only [go_sem, Int.reduceLT, Int.reduceLE, Int.reduceNeg, Int.reduceEq, Nat.reduceAdd, Nat.reduceEqDiff, Nat.reduceLeDiff, Nat.reduceBEq, reduceIte, reduceCtorEq, lenL_ms, show decide ((l.length : Int) < 2) = true by (simp only [decide_eq_true_eq]; omega)] | (with_reducible first | apply c1 | (first | apply c2 | apply c3) <;> (intro hc; simp only [hc]) | (first | apply c4 | apply c5) <;> (intro hc; rw [hc])))
    exact ⟨[], by rw [dd_one h2], by rw [dd_one h2, List.append_nil]; exact hg⟩
  have l0 : 0 < l.length := by omega
  repeat' (first | simp only [go_sem, Int.reduceLT, Int.reduceLE, Int.reduceNeg, Int.reduceEq, Nat.reduceAdd, Nat.reduceEqDiff, Nat.reduceLeDiff, Nat.reduceBEq, reduceIte, reduceCtorEq, lenL_ms, show decide ((l.length : Int) < 2) = false by (simp only [decide_eq_false_iff_not]; omega)] | (with_reducible first | apply c1 | (first | apply c2 | apply c3) <;> (intro hc; simp only [hc]) | (first | apply c4 | apply c5) <;> (intro hc; rw [hc])))
  refine X_for 3 l.length (fun k s => s.h.get i = some (.cells (CI l) false) ∧ dd (l.take k) = l.take k) 1 (by omega) ?_ (by omega) ?_ ?_
  · simp only [go_sem, Int.reduceLT, Int.reduceLE, Int.reduceNeg, Int.reduceEq, Nat.reduceAdd, Nat.reduceEqDiff, Nat.reduceLeDiff, Nat.reduceBEq, reduceIte, reduceCtorEq]; rfl
  · exact ⟨by simp only [go_sem, Int.reduceLT, Int.reduceLE, Int.reduceNeg, Int.reduceEq, Nat.reduceAdd, Nat.reduceEqDiff, Nat.reduceLeDiff, Nat.reduceBEq, reduceIte, reduceCtorEq, hg], dd_one (by simp; omega)⟩
  intro k t h' nx' hf hk0 hk h3 hj
  obtain ⟨hh, hd⟩ := hj
  dsimp only at hh
  have h0 := hf 0 rfl; simp only [PT.get_set, Nat.reduceEqDiff, if_true, if_false, reduceIte, PT.get_leaf] at h0
  clear hf
  rcases Nat.lt_or_ge k l.length with hlt | hge
  · obtain ⟨y, hy, _, htk⟩ := get_dec (l := l) (i := k) (by simpa using hlt)
    obtain ⟨x, hx, _, _⟩ := get_dec (l := l) (i := k - 1) (by simp; omega)
    have hpl : k - 1 < l.length := by omega
    have hdl : decide ((k : Int) < (l.length : Int)) = true := by simpa using hlt
    have hla : (l.take k).getLast? = some x := by
      have := last_take hx
      rwa [show k - 1 + 1 = k by omega] at this
    by_cases hxy : y = x
    case neg =>
      repeat' (first | simp only [go_sem, Int.reduceLT, Int.reduceLE, Int.reduceNeg, Int.reduceEq, Nat.reduceAdd, Nat.reduceEqDiff, Nat.reduceLeDiff, Nat.reduceBEq, reduceIte, reduceCtorEq, h0, h3, lenL_ms, hdl, iadrS_ms, Nat.zero_add, hlt, hpl, wrap_pred hk0 (by omega), ld_CI hy hh, ld_CI hx hh, show decide (y = x) = false by simpa using hxy] | (with_reducible first | apply c1 | (first | apply c2 | apply c3) <;> (intro hc; simp only [hc]) | (first | apply c4 | apply c5) <;> (intro hc; rw [hc])))
      refine ⟨hh, ?_⟩
      rw [htk, dd_snoc, hd, ddS, hla, if_neg (by simpa using fun e => hxy e.symm)]
    have hd1 : dd (l.take (k + 1)) = l.take k := by rw [htk, dd_snoc, hd, ddS, hla, if_pos (by rw [hxy])]
    repeat' (first | simp only [go_sem, Int.reduceLT, Int.reduceLE, Int.reduceNeg, Int.reduceEq, Nat.reduceAdd, Nat.reduceEqDiff, Nat.reduceLeDiff, Nat.reduceBEq, reduceIte, reduceCtorEq, h0, h3, lenL_ms, hdl, iadrS_ms, Nat.zero_add, hlt, hpl, wrap_pred hk0 (by omega), ld_CI hy hh, ld_CI hx hh, show decide (y = x) = true by simpa using hxy, ssl_from hk0 hlt (Nat.le_refl _)] | (with_reducible first | apply c1 | (first | apply c2 | apply c3) <;> (intro hc; simp only [hc]) | (first | apply c4 | apply c5) <;> (intro hc; rw [hc])))
    refine X_for 5 (l.length - k) (fun j s => ∃ cs D : List Int, s.t.get 3 = some (.p (I (D.length : Int))) ∧ s.h.get i = some (.cells (CI cs) false) ∧ D = dd (l.take (k + j)) ∧ cs.length = l.length ∧ cs.take D.length = D ∧ (∀ m, k + j ≤ m + 1 → cs[m]? = l[m]?) ∧ D.length + 1 ≤ k + j ∧ (D.getLast? = l[k + j - 1]?)) 1 (by omega) ?_ (by omega) ?_ ?_
    · simp only [go_sem, Int.reduceLT, Int.reduceLE, Int.reduceNeg, Int.reduceEq, Nat.reduceAdd, Nat.reduceEqDiff, Nat.reduceLeDiff, Nat.reduceBEq, reduceIte, reduceCtorEq]; rfl
    · refine ⟨l, l.take k, ?_, by simp only [go_sem, Int.reduceLT, Int.reduceLE, Int.reduceNeg, Int.reduceEq, Nat.reduceAdd, Nat.reduceEqDiff, Nat.reduceLeDiff, Nat.reduceBEq, reduceIte, reduceCtorEq, hh], hd1.symm, rfl, by simp, fun m _ => rfl, by rw [List.length_take]; omega, ?_⟩
      · simp only [go_sem, Int.reduceLT, Int.reduceLE, Int.reduceNeg, Int.reduceEq, Nat.reduceAdd, Nat.reduceEqDiff, Nat.reduceLeDiff, Nat.reduceBEq, reduceIte, reduceCtorEq, h3, List.length_take, Nat.min_eq_left hk]
      · rw [hla, show k + 1 - 1 = k by omega, hy, hxy]
    intro j t' h'' nx'' hf hj0 hj h5 hjj
    obtain ⟨cs, D, h3', hh', hD, hcl, hct, hcm, hDl, hDa⟩ := hjj
    dsimp only at h3' hh'
    have f0 := hf 0 rfl; have f4 := hf 4 rfl
    simp only [PT.get_set, Nat.reduceEqDiff, if_true, if_false, reduceIte, h0] at f0 f4
    clear hf
    rcases Nat.lt_or_ge j (l.length - k) with hlt2 | hge2
    · obtain ⟨b, hb, _, htb⟩ := get_dec (l := l) (i := k + j) (by simp; omega)
      obtain ⟨a, ha, _, _⟩ := get_dec (l := l) (i := k + j - 1) (by simp; omega)
      have hdl2 : decide ((j : Int) < ((l.length - k : Nat) : Int)) = true := by simp only [decide_eq_true_eq]; omega
      have hjm : j - 1 < l.length - k := by omega
      have hcb : cs[k + j]? = some b := by rw [hcm _ (by omega), hb]
      have hca : cs[k + (j - 1)]? = some a := by rw [hcm _ (by omega), show k + (j - 1) = k + j - 1 by omega, ha]
      rw [ha] at hDa
      have hkl : D.length < cs.length := by omega
      by_cases hab : b = a
      case pos =>
        repeat' (first | simp only [go_sem, Int.reduceLT, Int.reduceLE, Int.reduceNeg, Int.reduceEq, Nat.reduceAdd, Nat.reduceEqDiff, Nat.reduceLeDiff, Nat.reduceBEq, reduceIte, reduceCtorEq, f0, f4, h3', h5, lenL_ms, hdl2, iadrS_ms, hlt2, hjm, wrap_pred hj0 (by omega), ld_CI hcb hh', ld_CI hca hh', show decide (b ≠ a) = false by simpa using hab] | (with_reducible first | apply c1 | (first | apply c2 | apply c3) <;> (intro hc; simp only [hc]) | (first | apply c4 | apply c5) <;> (intro hc; rw [hc])))
        refine ⟨cs, D, rfl, hh', ?_, hcl, hct, fun m hm => hcm m (by omega), by omega, ?_⟩
        · rw [← Nat.add_assoc, htb, dd_snoc, ← hD, ddS, if_pos (by rw [hDa, hab])]
        · rw [hDa, ← hab, show k + (j + 1) - 1 = k + j by omega, hb]
      repeat' (first | simp only [go_sem, Int.reduceLT, Int.reduceLE, Int.reduceNeg, Int.reduceEq, Nat.reduceAdd, Nat.reduceEqDiff, Nat.reduceLeDiff, Nat.reduceBEq, reduceIte, reduceCtorEq, f0, f4, h3', h5, lenL_ms, hdl2, iadrS_ms, hlt2, hjm, wrap_pred hj0 (by omega), ld_CI hcb hh', ld_CI hca hh', show decide (b ≠ a) = true by simpa using hab, show D.length < l.length by omega, Nat.zero_add, sto_CI hkl hh', wrap_id (n := (D.length : Int) + 1) (by omega) (by omega)] | (with_reducible first | apply c1 | (first | apply c2 | apply c3) <;> (intro hc; simp only [hc]) | (first | apply c4 | apply c5) <;> (intro hc; rw [hc])))
      refine ⟨cs.set D.length b, D ++ [b], by simp, rfl, ?_, by simpa using hcl, ?_, fun m hm => ?_, by simp; omega, ?_⟩
      · rw [← Nat.add_assoc, htb, dd_snoc, ← hD, ddS, if_neg (by rw [hDa]; simpa using fun e => hab e.symm)]
      · rw [List.length_append, List.length_singleton, List.take_add_one, List.getElem?_set_self hkl, List.take_set_of_le (Nat.le_refl _), hct]
        rfl
      · rw [List.getElem?_set_ne (by omega)]
        exact hcm m (by omega)
      · rw [show k + (j + 1) - 1 = k + j by omega, hb]; simp
    · have hje : k + j = l.length := by omega
      rw [hje, List.take_length] at hD
      have hDne : 0 < D.length := by
        have : l[k + j - 1]? ≠ none := by rw [ne_eq, List.getElem?_eq_none_iff]; omega
        rw [← hDa] at this
        cases D with
        | nil => simp at this
        | cons => simp
      have hDlt : D.length < l.length := by omega
      have hcat : cs = D ++ cs.drop D.length := by
        conv => lhs; rw [← List.take_append_drop D.length cs, hct]
      have hdne : cs.drop D.length ≠ [] := by simp; omega
      have hdl3 : (cs.drop D.length).length = l.length - D.length := by simp [hcl]
      have hclr := clr_CI (av := l.length - D.length) hdne (by rw [← hcat]; exact hh')
      rw [hdl3] at hclr
      repeat' (first | simp only [go_sem, Int.reduceLT, Int.reduceLE, Int.reduceNeg, Int.reduceEq, Nat.reduceAdd, Nat.reduceEqDiff, Nat.reduceLeDiff, Nat.reduceBEq, reduceIte, reduceCtorEq, f0, f4, h3', h5, lenL_ms, show decide ((j : Int) < ((l.length - k : Nat) : Int)) = false by (simp only [decide_eq_false_iff_not]; omega), ssl_from hDne hDlt (Nat.le_refl _), hclr, ssl_to (Nat.le_of_lt hDlt)] | (with_reducible first | apply c1 | (first | apply c2 | apply c3) <;> (intro hc; simp only [hc]) | (first | apply c4 | apply c5) <;> (intro hc; rw [hc])))
      exact ⟨_, by rw [← hD], by rw [← hD]⟩
  · have hke : k = l.length := by omega
    rw [hke, List.take_length] at hd
    repeat' (first | simp only [go_sem, Int.reduceLT, Int.reduceLE, Int.reduceNeg, Int.reduceEq, Nat.reduceAdd, Nat.reduceEqDiff, Nat.reduceLeDiff, Nat.reduceBEq, reduceIte, reduceCtorEq, h0, h3, lenL_ms, show decide ((k : Int) < (l.length : Int)) = false by simpa using hge] | (with_reducible first | apply c1 | (first | apply c2 | apply c3) <;> (intro hc; simp only [hc]) | (first | apply c4 | apply c5) <;> (intro hc; rw [hc])))
    exact ⟨[], by rw [hd], by rw [hd, List.append_nil]; exact hh⟩
end Go.Proofs.YtddmnddocbmjnaaGreat.Dv
