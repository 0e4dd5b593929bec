/- Part 20 of the proof: CrowdWeeks: whatever plain data comes in, the call returns true and leaves its arguments as they were. No condition. -/
import Derived.Test.YtddmnddocbmjnaaGreatPb19
import Derived.KernelRfl
set_option linter.all false
set_option linter.unusedVariables false
set_option linter.unusedSectionVars false
set_option linter.unusedSimpArgs false
namespace Go.Proofs.YtddmnddocbmjnaaGreat.Dv
theorem p3_ldb {x : T3} : mkAgg ((DV.cells (.p (P3 x))).take 3) = .p (P3 x) := rfl
theorem p3_dlen {x : T3} : (DV.cells (.p (P3 x))).length = 3 := rfl
theorem p3_tup {x : T3} : (DV.p (P3 x)).tupB = false := rfl
theorem bldS_p3 {x : T3} {id : Nat} : bldSX false (some 3) 1 [.p (P3 x)] id = some { dv := .ow id [P3 x], rd := [], up := [(id, some (.tip 3))] } := rfl
theorem app_ow_p3 {l : List PDV} {x : T3} {i j id : Nat} {h : PT AObj} (hg : h.get i = some (.tip 3)) (hb : (l.length + 1) * 24 ≤ 70368744177664) : appX false (some 3) 24 (.ow i l) (.ow j [P3 x]) h id = some { dv := .ow id (l ++ [P3 x]), rd := [i], up := [(i, none), (id, some (.tip 3))] } := by
  have e : src h (esK (some 3)) (.ow j [P3 x]) = some ([.p (I x.1), .p (I x.2.1), .p (I x.2.2)], 1, []) := rfl
  have e2 : plainL [DV.p (I x.1), DV.p (I x.2.1), DV.p (I x.2.2)] = some [I x.1, I x.2.1, I x.2.2] := rfl
  simp only [appX, e, hg, e2, Nat.one_ne_zero, if_false]
  rw [if_pos ⟨hb, rfl⟩]
  rfl
def putR (l : List T3) (x : T3) : List T3 := l.takeWhile (fun y => ahB y x) ++ x :: l.dropWhile (fun y => ahB y x)
theorem putR_eq {l : List T3} {x : T3} {i : Nat} (h1 : ∀ y ∈ l.take i, ahB y x = true) (h2 : i = l.length ∨ ∃ y, l[i]? = some y ∧ ahB y x = false) : putR l x = l.take i ++ [x] ++ l.drop i := by
  have hl : l = l.take i ++ l.drop i := (List.take_append_drop i l).symm
  have e1 : l.takeWhile (fun y => ahB y x) = l.take i := by
    conv => lhs; rw [hl]
    rw [List.takeWhile_append_of_pos h1]
    rcases h2 with h2 | ⟨y, hy, hf⟩
    · rw [List.drop_eq_nil_of_le (by omega)]; simp
    · rw [List.drop_eq_getElem_cons (List.getElem?_eq_some_iff.1 hy).1, (List.getElem?_eq_some_iff.1 hy).2, List.takeWhile_cons, hf]
      simp
  have e2 : l.dropWhile (fun y => ahB y x) = l.drop i := by
    conv => lhs; rw [hl]
    rw [List.dropWhile_append_of_pos h1]
    rcases h2 with h2 | ⟨y, hy, hf⟩
    · rw [List.drop_eq_nil_of_le (by omega)]; simp
    · rw [List.drop_eq_getElem_cons (List.getElem?_eq_some_iff.1 hy).1, (List.getElem?_eq_some_iff.1 hy).2, List.dropWhile_cons, hf]
      simp
  rw [putR, e1, e2]
  simp
theorem putlen {l : List T3} {x : T3} {i m : Nat} (hl : l.length ≤ 1048576) : (((l.take i ++ [x] ++ (l.take m).drop i).map P3).length + 1) * 24 ≤ 70368744177664 := by
  rw [List.length_map, List.length_append, List.length_append, List.length_take, List.length_drop, List.length_take, List.length_singleton]
  omega
set_option maxHeartbeats 1000000 in
theorem put_res (l : List T3) (hl : l.length ≤ 1048576) (x : T3) : res Tryz.prog G0 50 [.lst (l.map P3), P3 x] = some (.lst ((putR l x).map P3)) := by
  refine res_body c_ref43_put (Nat.le_of_ble_eq_true rfl) ?_
  simp only [m_ref43_put, Oo, Ou, Og, Ci, Om, Of, Ol, Ok]
  repeat' (first | simp only [go_sem, Int.reduceLT, Int.reduceLE, Int.reduceNeg, Int.reduceEq, Nat.reduceAdd, Nat.reduceEqDiff, Nat.reduceLeDiff, Nat.reduceBEq, reduceIte, reduceCtorEq, bldS_nil, esK, p3_tup, p3_dlen] | (with_reducible first | apply c1 | (first | apply c2 | apply c3) <;> (intro hc; simp only [hc]) | (first | apply c4 | apply c5) <;> (intro hc; rw [hc])))
  refine X_for 6 l.length (fun i s => s.h.get 0 = some (.cells (DV.cells (.p (P3 x))) false) ∧ (∀ y ∈ l.take i, ahB y x = true) ∧ ∃ j, s.t.get 5 = some (.ow j ((l.take i).map P3)) ∧ s.h.get j = some (.tip 3) ∧ 0 < j ∧ j < s.nx) 0 (by omega) ?_ (Nat.zero_le _) ?_ ?_
  · simp only [go_sem, Int.reduceLT, Int.reduceLE, Int.reduceNeg, Int.reduceEq, Nat.reduceAdd, Nat.reduceEqDiff, Nat.reduceLeDiff, Nat.reduceBEq, reduceIte, reduceCtorEq]; rfl
  · refine ⟨by simp only [go_sem, Int.reduceLT, Int.reduceLE, Int.reduceNeg, Int.reduceEq, Nat.reduceAdd, Nat.reduceEqDiff, Nat.reduceLeDiff, Nat.reduceBEq, reduceIte, reduceCtorEq], by simp, _, by simp only [go_sem, Int.reduceLT, Int.reduceLE, Int.reduceNeg, Int.reduceEq, Nat.reduceAdd, Nat.reduceEqDiff, Nat.reduceLeDiff, Nat.reduceBEq, reduceIte, reduceCtorEq]; rfl, by simp only [go_sem, Int.reduceLT, Int.reduceLE, Int.reduceNeg, Int.reduceEq, Nat.reduceAdd, Nat.reduceEqDiff, Nat.reduceLeDiff, Nat.reduceBEq, reduceIte, reduceCtorEq], by omega, by dsimp only; omega⟩
  intro i t h nx hf hi0 hi h6 hj
  obtain ⟨hh, hA, j, h5, hg, j0, jn⟩ := hj
  dsimp only at hh h5 hg jn
  have h0 := hf 0 rfl; simp only [PT.get_set, Nat.reduceEqDiff, if_true, if_false, reduceIte, PT.get_leaf] at h0; have h3 := hf 3 rfl; simp only [PT.get_set, Nat.reduceEqDiff, if_true, if_false, reduceIte, PT.get_leaf] at h3
  clear hf
  have hgg : ∀ K, (h.set K (some (.tip 3))).get j = some (.tip 3) := fun K => by
    rw [PT.get_set]
    split
    · rfl
    · exact hg
  have hbb : (((l.take i).map P3).length + 1) * 24 ≤ 70368744177664 := by simp; omega
  have hcase : (∃ y, l[i]? = some y ∧ i < l.length ∧ l.take (i + 1) = l.take i ++ [y] ∧ ahB y x = true) ∨ (putR l x = l.take i ++ [x] ++ l.drop i ∧ ((∃ y, l[i]? = some y ∧ i < l.length ∧ ahB y x = false) ∨ l.length ≤ i)) := by
    rcases Nat.lt_or_ge i l.length with hlt | hge
    · obtain ⟨y, hy, _, hty⟩ := get_dec (l := l) (i := i) (by simpa using hlt)
      cases hB : ahB y x
      · exact .inr ⟨putR_eq hA (.inr ⟨y, hy, hB⟩), .inl ⟨y, hy, hlt, hB⟩⟩
      · exact .inl ⟨y, hy, hlt, hty, hB⟩
    · exact .inr ⟨putR_eq hA (.inl (by omega)), .inr hge⟩
  rcases hcase with ⟨y, hy, hlt, hty, hB⟩ | ⟨hP, ⟨y, hy, hlt, hB⟩ | hge⟩
  · have hdl : decide ((i : Int) < (l.length : Int)) = true := by simpa using hlt
    repeat' (first | simp only [go_sem, Int.reduceLT, Int.reduceLE, Int.reduceNeg, Int.reduceEq, Nat.reduceAdd, Nat.reduceEqDiff, Nat.reduceLeDiff, Nat.reduceBEq, reduceIte, reduceCtorEq, h0, h3, h5, h6, hh, hy, hdl, p3_len, p3_ld, p3_ldb, p3_dlen, p3_tup, q_ref43_ahead, ahead_res, hB, bldS_p3, app_ow_p3 (hgg (nx + 17)) hbb] | (with_reducible first | apply c1 | (first | apply c2 | apply c3) <;> (intro hc; simp only [hc]) | (first | apply c4 | apply c5) <;> (intro hc; rw [hc])))
    refine ⟨hlt, by rw [if_neg (by omega)], fun z hz => ?_, nx + 18, by rw [hty]; simp, by simp, by omega, by omega⟩
    rw [hty, List.mem_append, List.mem_singleton] at hz
    rcases hz with hz | rfl
    · exact hA z hz
    · exact hB
  · have hdl : decide ((i : Int) < (l.length : Int)) = true := by simpa using hlt
    repeat' (first | simp only [go_sem, Int.reduceLT, Int.reduceLE, Int.reduceNeg, Int.reduceEq, Nat.reduceAdd, Nat.reduceEqDiff, Nat.reduceLeDiff, Nat.reduceBEq, reduceIte, reduceCtorEq, h0, h3, h5, h6, hh, hy, hdl, p3_len, p3_ld, p3_ldb, p3_dlen, p3_tup, q_ref43_ahead, ahead_res, hB, bldS_p3, app_ow_p3 (hgg (nx + 14)) hbb] | (with_reducible first | apply c1 | (first | apply c2 | apply c3) <;> (intro hc; simp only [hc]) | (first | apply c4 | apply c5) <;> (intro hc; rw [hc])))
    refine X_for 6 l.length (fun m s => ∃ k, s.t.get 5 = some (.ow k ((l.take i ++ [x] ++ (l.take m).drop i).map P3)) ∧ s.h.get k = some (.tip 3) ∧ k < s.nx) i (by omega) ?_ hi ?_ ?_
    · simp only [go_sem, Int.reduceLT, Int.reduceLE, Int.reduceNeg, Int.reduceEq, Nat.reduceAdd, Nat.reduceEqDiff, Nat.reduceLeDiff, Nat.reduceBEq, reduceIte, reduceCtorEq, h6]
    · refine ⟨nx + 15, by simp only [go_sem, Int.reduceLT, Int.reduceLE, Int.reduceNeg, Int.reduceEq, Nat.reduceAdd, Nat.reduceEqDiff, Nat.reduceLeDiff, Nat.reduceBEq, reduceIte, reduceCtorEq]; simp, by simp only [go_sem, Int.reduceLT, Int.reduceLE, Int.reduceNeg, Int.reduceEq, Nat.reduceAdd, Nat.reduceEqDiff, Nat.reduceLeDiff, Nat.reduceBEq, reduceIte, reduceCtorEq], by dsimp only; omega⟩
    intro m t' h' nx' hf hm0 hm h6' hj2
    obtain ⟨k, h5', hg', kn⟩ := hj2
    dsimp only at h5' hg' kn
    have f0 := hf 0 rfl; simp only [PT.get_set, Nat.reduceEqDiff, if_true, if_false, reduceIte, h0] at f0
    clear hf
    rcases Nat.lt_or_ge m l.length with hlt2 | hge2
    · obtain ⟨z, hz, _, htz⟩ := get_dec (l := l) (i := m) (by simpa using hlt2)
      have hdl2 : decide ((m : Int) < (l.length : Int)) = true := by simpa using hlt2
      have hg2 : (h'.set (nx' + 9) (some (.tip 3))).get k = some (.tip 3) := by
        rw [PT.get_set]
        split
        · rfl
        · exact hg'
      have hb2 := putlen (x := x) (i := i) (m := m) hl
      repeat' (first | simp only [go_sem, Int.reduceLT, Int.reduceLE, Int.reduceNeg, Int.reduceEq, Nat.reduceAdd, Nat.reduceEqDiff, Nat.reduceLeDiff, Nat.reduceBEq, reduceIte, reduceCtorEq, f0, h5', h6', hz, hdl2, p3_len, p3_ld, p3_tup, bldS_p3, app_ow_p3 hg2 hb2] | (with_reducible first | apply c1 | (first | apply c2 | apply c3) <;> (intro hc; simp only [hc]) | (first | apply c4 | apply c5) <;> (intro hc; rw [hc])))
      refine ⟨hlt2, nx' + 10, ?_, by simp, by omega⟩
      rw [htz, List.drop_append_of_le_length (by simp; omega), ← List.append_assoc]
      simp only [List.map_append, List.map_cons, List.map_nil]
    · repeat' (first | simp only [go_sem, Int.reduceLT, Int.reduceLE, Int.reduceNeg, Int.reduceEq, Nat.reduceAdd, Nat.reduceEqDiff, Nat.reduceLeDiff, Nat.reduceBEq, reduceIte, reduceCtorEq, f0, h5', h6', show decide ((m : Int) < (l.length : Int)) = false by simpa using hge2] | (with_reducible first | apply c1 | (first | apply c2 | apply c3) <;> (intro hc; simp only [hc]) | (first | apply c4 | apply c5) <;> (intro hc; rw [hc])))
      rw [hP, List.take_of_length_le hge2]
  · have hdl : decide ((i : Int) < (l.length : Int)) = false := by simpa using hge
    repeat' (first | simp only [go_sem, Int.reduceLT, Int.reduceLE, Int.reduceNeg, Int.reduceEq, Nat.reduceAdd, Nat.reduceEqDiff, Nat.reduceLeDiff, Nat.reduceBEq, reduceIte, reduceCtorEq, h0, h3, h5, h6, hh, hdl, p3_len, p3_ld, p3_ldb, p3_dlen, p3_tup, bldS_p3, app_ow_p3 (hgg (nx + 14)) hbb] | (with_reducible first | apply c1 | (first | apply c2 | apply c3) <;> (intro hc; simp only [hc]) | (first | apply c4 | apply c5) <;> (intro hc; rw [hc])))
    refine X_for 6 l.length (fun m s => ∃ k, s.t.get 5 = some (.ow k ((l.take i ++ [x] ++ (l.take m).drop i).map P3)) ∧ s.h.get k = some (.tip 3) ∧ k < s.nx) i (by omega) ?_ hi ?_ ?_
    · simp only [go_sem, Int.reduceLT, Int.reduceLE, Int.reduceNeg, Int.reduceEq, Nat.reduceAdd, Nat.reduceEqDiff, Nat.reduceLeDiff, Nat.reduceBEq, reduceIte, reduceCtorEq, h6]
    · refine ⟨nx + 15, by simp only [go_sem, Int.reduceLT, Int.reduceLE, Int.reduceNeg, Int.reduceEq, Nat.reduceAdd, Nat.reduceEqDiff, Nat.reduceLeDiff, Nat.reduceBEq, reduceIte, reduceCtorEq]; simp, by simp only [go_sem, Int.reduceLT, Int.reduceLE, Int.reduceNeg, Int.reduceEq, Nat.reduceAdd, Nat.reduceEqDiff, Nat.reduceLeDiff, Nat.reduceBEq, reduceIte, reduceCtorEq], by dsimp only; omega⟩
    intro m t' h' nx' hf hm0 hm h6' hj2
    obtain ⟨k, h5', hg', kn⟩ := hj2
    dsimp only at h5' hg' kn
    have f0 := hf 0 rfl; simp only [PT.get_set, Nat.reduceEqDiff, if_true, if_false, reduceIte, h0] at f0
    clear hf
    rcases Nat.lt_or_ge m l.length with hlt2 | hge2
    · obtain ⟨z, hz, _, htz⟩ := get_dec (l := l) (i := m) (by simpa using hlt2)
      have hdl2 : decide ((m : Int) < (l.length : Int)) = true := by simpa using hlt2
      have hg2 : (h'.set (nx' + 9) (some (.tip 3))).get k = some (.tip 3) := by
        rw [PT.get_set]
        split
        · rfl
        · exact hg'
      have hb2 := putlen (x := x) (i := i) (m := m) hl
      repeat' (first | simp only [go_sem, Int.reduceLT, Int.reduceLE, Int.reduceNeg, Int.reduceEq, Nat.reduceAdd, Nat.reduceEqDiff, Nat.reduceLeDiff, Nat.reduceBEq, reduceIte, reduceCtorEq, f0, h5', h6', hz, hdl2, p3_len, p3_ld, p3_tup, bldS_p3, app_ow_p3 hg2 hb2] | (with_reducible first | apply c1 | (first | apply c2 | apply c3) <;> (intro hc; simp only [hc]) | (first | apply c4 | apply c5) <;> (intro hc; rw [hc])))
      refine ⟨hlt2, nx' + 10, ?_, by simp, by omega⟩
      rw [htz, List.drop_append_of_le_length (by simp; omega), ← List.append_assoc]
      simp only [List.map_append, List.map_cons, List.map_nil]
    · repeat' (first | simp only [go_sem, Int.reduceLT, Int.reduceLE, Int.reduceNeg, Int.reduceEq, Nat.reduceAdd, Nat.reduceEqDiff, Nat.reduceLeDiff, Nat.reduceBEq, reduceIte, reduceCtorEq, f0, h5', h6', show decide ((m : Int) < (l.length : Int)) = false by simpa using hge2] | (with_reducible first | apply c1 | (first | apply c2 | apply c3) <;> (intro hc; simp only [hc]) | (first | apply c4 | apply c5) <;> (intro hc; rw [hc])))
      rw [hP, List.take_of_length_le hge2]
end Go.Proofs.YtddmnddocbmjnaaGreat.Dv
namespace Go.Proofs.YtddmnddocbmjnaaGreat.Dv
def m_ref43_Week : MF := ⟨90, (.seq (.reg none [Oo 4 (.box (.t 0)), Oo 6 (.box (.t 2)), Oo 8 (.mov (.d .nil))]) (.seq (.reg none [Oo 15 (.bldS false (some 3) 0 []), Om 9 15]) (.seq (.seq (.reg none [Oo 16 (.load true 15 (.t 4)), Om 17 1, Oo 18 (.call 48 [.t 16, .t 17]), Oo 19 (.un .not (.t 18)), Om 20 19, Og 21 20 false (.mov (.t 3)), Og 22 20 false (.iop .lss (.t 21) (.d (Ci 0))), Oo 23 (.pick (.t 20) (.d (.p (.s (.bool true)))) (.t 22)), Om 24 23, Og 25 24 false (.mov (.t 3)), Og 26 24 false (.fadr 1 (.t 4)), Og 27 24 false (.fadr 0 (.t 26)), Og 28 24 false (.load false 1 (.t 27)), Og 29 24 false (.iop .geq (.t 25) (.t 28)), Oo 30 (.pick (.t 24) (.d (.p (.s (.bool true)))) (.t 29))]) (.cond (.t 30) (.seq (.reg none [Om 31 9, Om 8 31]) .ret) .skip)) (.seq (.reg none [Oo 32 (.load true 1 (.t 6)), Oo 33 (.call 34 [.t 32]), Om 10 33]) (.seq (.seq (.reg none [Oo 11 (.mov (.d (Ci 0)))]) (.block 0 (.loop (.seq (.seq (.reg none [Om 34 11, Om 35 10, Ok 36 35, Oo 37 (.iop .lss (.t 34) (.t 36))]) (.cond (.t 37) .skip (.exit 0))) (.seq (.block 1 (.seq (.reg (some #[0, 0, 0, 0, 12, 28, 63, 127, 255, 255, 0, 1535, 4095]) [Oo 41 (.load true 15 (.t 4)), Om 42 1, Om 43 10, Om 44 11, Oo 45 (.iadrS 1 (.t 43) (.t 44)), Ol 46 45, Oo 47 (.call 49 [.t 41, .t 42, .t 46]), Om 40 47, Oo 48 (.xtr 0 (.t 40)), Oo 49 (.xtr 1 (.t 40)), Oo 12 (.alloc [(.p (.s (.int .u32 0))), (.p (.s (.int .u8 0))), (Ci 0), (Ci 0), (Ci 0)]), Ou (.store 5 (.t 12) (.t 48)), Om 13 49]) (.seq (.reg none [Oo 14 (.mov (.d (Ci 0)))]) (.block 2 (.loop (.seq (.seq (.reg none [Om 50 13, Om 51 50, Og 52 51 true (.mov (.t 14)), Og 53 51 true (.fadr 1 (.t 4)), Og 54 51 true (.fadr 1 (.t 53)), Og 55 51 true (.load false 1 (.t 54)), Og 56 51 true (.iop .lss (.t 52) (.t 55)), Oo 57 (.pick (.t 51) (.t 56) (.d (.p (.s (.bool false)))))]) (.cond (.t 57) .skip (.exit 2))) (.seq (.block 3 (.seq (.reg none [Of 60 0 12, Of 61 0 60, Ol 62 61, Om 63 3, Oo 64 (.cvI .u64 (.t 63)), Oo 65 (.iop .shr (.t 62) (.t 64)), Oo 66 (.iop .rem (.t 65) (.d (.p (.s (.int .u32 2))))), Oo 67 (.iop .eql (.t 66) (.d (.p (.s (.int .u32 1))))), Om 68 67, Og 69 68 true (.fadr 0 (.t 12)), Og 70 68 true (.fadr 1 (.t 69)), Og 71 68 true (.load false 1 (.t 70)), Og 72 68 true (.mov (.t 14)), Og 73 68 true (.cvI .u64 (.t 72)), Og 74 68 true (.iop .shr (.t 71) (.t 73)), Og 75 68 true (.iop .rem (.t 74) (.d (.p (.s (.int .u8 2))))), Og 76 68 true (.iop .eql (.t 75) (.d (.p (.s (.int .u8 1))))), Oo 77 (.pick (.t 68) (.t 76) (.d (.p (.s (.bool false)))))]) (.cond (.t 77) (.reg (some #[0, 0, 0, 4, 12, 0, 0, 96, 224, 510, 1023, 2047]) [Om 78 9, Om 79 14, Of 80 0 12, Of 81 2 80, Ol 82 81, Om 83 10, Om 84 11, Oo 85 (.iadrS 1 (.t 83) (.t 84)), Ol 86 85, Oo 87 (.bld [(Ci 0), (Ci 0), (Ci 0)] [(0, 1, (.t 79)), (1, 1, (.t 82)), (2, 1, (.t 86))]), Oo 88 (.call 50 [.t 78, .t 87]), Om 9 88]) .skip))) (.reg none [Om 58 14, Oo 59 (.iop .add (.t 58) (.d (Ci 1))), Om 14 59])))))))) (.reg none [Om 38 11, Oo 39 (.iop .add (.t 38) (.d (Ci 1))), Om 11 39])))))) (.seq (.reg none [Om 89 9, Om 8 89]) .ret)))))), [.tmp 8]⟩
theorem c_ref43_Week : comp Tryz.prog G0 25 = some m_ref43_Week := by kernel_rfl
theorem q_ref43_Week : Q0 25 := mCall_pure rfl
def meetL (w : VWhen) (week n : Nat) (c : Int) : List T3 := (daysI w week n).map fun d => (d, w.start, c)
theorem meetL_snoc {w : VWhen} {week n : Nat} {c : Int} : meetL w week (n + 1) c = meetL w week n c ++ if dayB w week n then [((n : Int), w.start, c)] else [] := by
  rw [meetL, daysI_snoc, List.map_append]
  by_cases h : dayB w week n = true <;> simp [meetL, h]
theorem meetL_len {w : VWhen} {week n : Nat} {c : Int} : (meetL w week n c).length ≤ n := by
  rw [meetL, List.length_map]
  exact daysI_len
def wkC (p : VProblem) (l : List VSeat) (week n : Nat) (c : Int) : List T3 := if pspotB p l c then meetL (pspotV p l c).when week n c else []
def wkL (p : VProblem) (l : List VSeat) (week n : Nat) (k : List Int) : List T3 := k.flatMap (wkC p l week n)
theorem wkL_snoc {p : VProblem} {l : List VSeat} {week n : Nat} {k : List Int} {c : Int} : wkL p l week n (k ++ [c]) = wkL p l week n k ++ wkC p l week n c := by simp [wkL]
theorem wkC_len {p : VProblem} {l : List VSeat} {week n : Nat} {c : Int} : (wkC p l week n c).length ≤ n := by
  unfold wkC
  split
  · exact meetL_len
  · simp
theorem wkL_len {p : VProblem} {l : List VSeat} {week n : Nat} {k : List Int} : (wkL p l week n k).length ≤ k.length * n := by
  induction k with
  | nil => simp [wkL]
  | cons c k ih =>
    have := wkC_len (p := p) (l := l) (week := week) (n := n) (c := c)
    simp only [wkL, List.flatMap_cons, List.length_append, List.length_cons, Nat.succ_mul] at ih ⊢
    omega
theorem putR_len {l : List T3} {x : T3} : (putR l x).length = l.length + 1 := by
  have h := congrArg List.length (List.takeWhile_append_dropWhile (p := fun y => ahB y x) (l := l))
  rw [List.length_append] at h
  simp only [putR, List.length_append, List.length_cons]
  omega
theorem foldR_len {l a : List T3} : (l.foldl putR a).length = a.length + l.length := by
  induction l generalizing a with
  | nil => rfl
  | cons x l ih => rw [List.foldl_cons, ih, putR_len, List.length_cons]; omega
def OwnT (d : DV) (ls : List T3) : Prop := d = .p (.lst (ls.map P3)) ∨ (∃ j, d = .ow j [] ∧ ls = [])
theorem ownT_snap {d : DV} {ls : List T3} (h : OwnT d ls) (h' : PT AObj) : snap h' d = some (.lst (ls.map P3), []) := by
  rcases h with rfl | ⟨j, rfl, rfl⟩ <;> rfl
theorem wrap_u64s {n : Nat} (h : n ≤ 64) : IntKind.wrap .u64 (n : Int) = (n : Int) := by
  unfold IntKind.wrap
  simp [IntKind.bits, IntKind.signed]
  omega
set_option maxHeartbeats 2000000 in
theorem rweek_res (p : VProblem) (hp : smP p) (l : List VSeat) (hl : l.length ≤ 1048576) (x : VLoad) (hx : loadS x) (week n : Nat) (hw : week ≤ 32) (hwk : (week : Int) < p.grid.weeks) (hn : p.grid.days = (n : Int)) (hn8 : n ≤ 8) (hpl : planB p l = true) :
    res Tryz.prog G0 25 [p.P, .lst (l.map VSeat.P), x.P, I (week : Int)] = some (.lst (((wkL p l week n (allL x)).foldl putR []).map P3)) := by
  obtain ⟨hal, hall, hal64⟩ := rallL x hx
  generalize hk : allL x = k at *
  refine res_body c_ref43_Week (Nat.le_of_ble_eq_true rfl) ?_
  simp only [m_ref43_Week, Oo, Ou, Og, Ci, Om, Of, Ol, Ok]
  repeat' (first | simp only [go_sem, Int.reduceLT, Int.reduceLE, Int.reduceNeg, Int.reduceEq, Nat.reduceAdd, Nat.reduceEqDiff, Nat.reduceLeDiff, Nat.reduceBEq, reduceIte, reduceCtorEq, bldS_nil, esK, q_ref19_Right, rplan_res p hp l hl, hpl, show decide (p.grid.weeks ≤ (week : Int)) = false by (simp only [decide_eq_false_iff_not]; omega), q_ref42_All, hal] | (with_reducible first | apply c1 | (first | apply c2 | apply c3) <;> (intro hc; simp only [hc]) | (first | apply c4 | apply c5) <;> (intro hc; rw [hc])))
  refine X_for 11 k.length (fun i s => s.h.get 0 = some (.cells (DV.cells (.p p.P)) false) ∧ 0 < s.nx ∧ ∃ d, s.t.get 9 = some d ∧ OwnT d ((wkL p l week n (k.take i)).foldl putR [])) 0 (by omega) ?_ (Nat.zero_le _) ?_ ?_
  · simp only [go_sem, Int.reduceLT, Int.reduceLE, Int.reduceNeg, Int.reduceEq, Nat.reduceAdd, Nat.reduceEqDiff, Nat.reduceLeDiff, Nat.reduceBEq, reduceIte, reduceCtorEq]; rfl
  · exact ⟨by simp only [go_sem, Int.reduceLT, Int.reduceLE, Int.reduceNeg, Int.reduceEq, Nat.reduceAdd, Nat.reduceEqDiff, Nat.reduceLeDiff, Nat.reduceBEq, reduceIte, reduceCtorEq], by first | decide | (dsimp only; omega), _, by simp only [go_sem, Int.reduceLT, Int.reduceLE, Int.reduceNeg, Int.reduceEq, Nat.reduceAdd, Nat.reduceEqDiff, Nat.reduceLeDiff, Nat.reduceBEq, reduceIte, reduceCtorEq]; rfl, .inr ⟨_, rfl, rfl⟩⟩
  intro i t h nx hf hi0 hi h11 hj
  obtain ⟨hh, hnx, d, h9, hd⟩ := hj
  dsimp only at hh h9 hnx
  have h1 := hf 1 rfl; simp only [PT.get_set, Nat.reduceEqDiff, if_true, if_false, reduceIte, PT.get_leaf] at h1; have h3 := hf 3 rfl; simp only [PT.get_set, Nat.reduceEqDiff, if_true, if_false, reduceIte, PT.get_leaf] at h3; have h4 := hf 4 rfl; simp only [PT.get_set, Nat.reduceEqDiff, if_true, if_false, reduceIte, PT.get_leaf] at h4; have h10 := hf 10 rfl; simp only [PT.get_set, Nat.reduceEqDiff, if_true, if_false, reduceIte, PT.get_leaf] at h10
  clear hf
  rcases Nat.lt_or_ge i k.length with hlt | hge
  · obtain ⟨c, hc, _, htc⟩ := get_dec (l := k) (i := i) (by simpa using hlt)
    have hdl : decide ((i : Int) < (k.length : Int)) = true := by simpa using hlt
    repeat' (first | simp only [go_sem, Int.reduceLT, Int.reduceLE, Int.reduceNeg, Int.reduceEq, Nat.reduceAdd, Nat.reduceEqDiff, Nat.reduceLeDiff, Nat.reduceBEq, reduceIte, reduceCtorEq, h1, h3, h4, h9, h10, h11, hh, hc, hdl, q_ref19_Spot, rspot19_res p hp l hl] | (with_reducible first | apply c1 | (first | apply c2 | apply c3) <;> (intro hc; simp only [hc]) | (first | apply c4 | apply c5) <;> (intro hc; rw [hc])))
    · rfl
    · (simp [nqs, quietL, nqP, nqA, clash, meets]) <;> ((repeat' apply And.intro) <;> first | rfl | omega | (right; (repeat' apply And.intro) <;> omega) | (left; rfl))
    generalize hacc : (wkL p l week n (k.take i)).foldl putR [] = acc at *
    have hal : acc.length ≤ 512 := by
      have e1 := wkL_len (p := p) (l := l) (week := week) (n := n) (k := k.take i)
      rw [← hacc, foldR_len, List.length_nil]
      have e2 : (k.take i).length * n ≤ 64 * 8 := Nat.mul_le_mul (by rw [List.length_take]; omega) hn8
      omega
    have hstep : (wkL p l week n (k.take (i + 1))).foldl putR [] = (wkC p l week n c).foldl putR acc := by rw [htc, wkL_snoc, List.foldl_append, hacc]
    have hwc : wkC p l week n c = if pspotB p l c then meetL (pspotV p l c).when week n c else [] := rfl
    generalize pspotV p l c = sp at *
    generalize pspotB p l c = is at *
    refine X_for 14 n (fun m s => s.h.get 0 = some (.cells (DV.cells (.p p.P)) false) ∧ s.h.get (nx + 14) = some (.cells (DV.cells (.p sp.P)) false) ∧ nx + 14 < s.nx ∧ ∃ d, s.t.get 9 = some d ∧ OwnT d ((if is then meetL sp.when week m c else []).foldl putR acc)) 0 (by omega) ?_ (Nat.zero_le _) ?_ ?_
    · simp only [go_sem, Int.reduceLT, Int.reduceLE, Int.reduceNeg, Int.reduceEq, Nat.reduceAdd, Nat.reduceEqDiff, Nat.reduceLeDiff, Nat.reduceBEq, reduceIte, reduceCtorEq]; rfl
    · refine ⟨by simp only [go_sem, Int.reduceLT, Int.reduceLE, Int.reduceNeg, Int.reduceEq, Nat.reduceAdd, Nat.reduceEqDiff, Nat.reduceLeDiff, Nat.reduceBEq, reduceIte, reduceCtorEq, hh]; first | done | (rw [if_neg (by omega)]), by simp only [go_sem, Int.reduceLT, Int.reduceLE, Int.reduceNeg, Int.reduceEq, Nat.reduceAdd, Nat.reduceEqDiff, Nat.reduceLeDiff, Nat.reduceBEq, reduceIte, reduceCtorEq], by dsimp only; omega, d, by simp only [go_sem, Int.reduceLT, Int.reduceLE, Int.reduceNeg, Int.reduceEq, Nat.reduceAdd, Nat.reduceEqDiff, Nat.reduceLeDiff, Nat.reduceBEq, reduceIte, reduceCtorEq, h9], ?_⟩
      cases is <;> exact hd
    intro m t' h' nx' hf hm0 hm h14 hj2
    obtain ⟨hh', hb', hnx', d', h9', hd'⟩ := hj2
    dsimp only at hh' hb' h9' hnx'
    have f1 := hf 1 rfl; have f3 := hf 3 rfl; have f4 := hf 4 rfl; have f10 := hf 10 rfl; have f11 := hf 11 rfl; have f12 := hf 12 rfl; have f13 := hf 13 rfl
    simp only [PT.get_set, Nat.reduceEqDiff, if_true, if_false, reduceIte, h1, h3, h4, h10, h11] at f1 f3 f4 f10 f11 f12 f13
    clear hf
    cases is with
    | false =>
      repeat' (first | simp only [go_sem, Int.reduceLT, Int.reduceLE, Int.reduceNeg, Int.reduceEq, Nat.reduceAdd, Nat.reduceEqDiff, Nat.reduceLeDiff, Nat.reduceBEq, reduceIte, reduceCtorEq, f1, f3, f4, f10, f11, f12, f13, h14, h9', hh', hb'] | (with_reducible first | apply c1 | (first | apply c2 | apply c3) <;> (intro hc; simp only [hc]) | (first | apply c4 | apply c5) <;> (intro hc; rw [hc])))
      refine ⟨hlt, by omega, ?_⟩
      rw [hstep, hwc]
      exact hd'
    | true =>
      rcases Nat.lt_or_ge m n with hlt2 | hge2
      · have hdl2 : decide ((m : Int) < (n : Int)) = true := by simpa using hlt2
        have b1 := bit_val sp.when.weeks.val week sp.when.weeks.isLt
        have b2 := rem8 sp.when.days.val m (by omega)
        cases hA : sp.when.weeks.val.testBit week
        · rw [hA] at b1
          repeat' (first | simp only [go_sem, Int.reduceLT, Int.reduceLE, Int.reduceNeg, Int.reduceEq, Nat.reduceAdd, Nat.reduceEqDiff, Nat.reduceLeDiff, Nat.reduceBEq, reduceIte, reduceCtorEq, f1, f3, f4, f10, f11, f12, f13, h14, h9', hh', hb', hn, hdl2, wrap_u64s (show week ≤ 64 by omega), wrap_u64s (show m ≤ 64 by omega), b1] | (with_reducible first | apply c1 | (first | apply c2 | apply c3) <;> (intro hc; simp only [hc]) | (first | apply c4 | apply c5) <;> (intro hc; rw [hc])))
          refine ⟨hlt2, by omega, ?_⟩
          rw [meetL_snoc, show dayB sp.when week m = false by simp [dayB, hA], if_neg (by simp), List.append_nil]
          exact hd'
        rw [hA] at b1
        cases hB : sp.when.days.val.testBit m
        · rw [hB] at b2
          repeat' (first | simp only [go_sem, Int.reduceLT, Int.reduceLE, Int.reduceNeg, Int.reduceEq, Nat.reduceAdd, Nat.reduceEqDiff, Nat.reduceLeDiff, Nat.reduceBEq, reduceIte, reduceCtorEq, f1, f3, f4, f10, f11, f12, f13, h14, h9', hh', hb', hn, hdl2, wrap_u64s (show week ≤ 64 by omega), wrap_u64s (show m ≤ 64 by omega), b1, b2] | (with_reducible first | apply c1 | (first | apply c2 | apply c3) <;> (intro hc; simp only [hc]) | (first | apply c4 | apply c5) <;> (intro hc; rw [hc])))
          refine ⟨hlt2, by omega, ?_⟩
          rw [meetL_snoc, show dayB sp.when week m = false by simp [dayB, hB], if_neg (by simp), List.append_nil]
          exact hd'
        rw [hB] at b2
        have hsn : (meetL sp.when week (m + 1) c).foldl putR acc = putR ((meetL sp.when week m c).foldl putR acc) ((m : Int), sp.when.start, c) := by
          rw [meetL_snoc, show dayB sp.when week m = true by simp [dayB, hA, hB], if_pos rfl, List.foldl_append]
          rfl
        have hpl2 : ((meetL sp.when week m c).foldl putR acc).length ≤ 1048576 := by
          rw [foldR_len]
          have := meetL_len (w := sp.when) (week := week) (n := m) (c := c)
          omega
        have hpr := put_res _ hpl2 ((m : Int), sp.when.start, c)
        rw [if_pos rfl] at hd'
        rw [← hsn] at hpr
        simp only [P3] at hpr
        rcases hd' with rfl | ⟨j, rfl, he⟩
        · repeat' (first | simp only [go_sem, Int.reduceLT, Int.reduceLE, Int.reduceNeg, Int.reduceEq, Nat.reduceAdd, Nat.reduceEqDiff, Nat.reduceLeDiff, Nat.reduceBEq, reduceIte, reduceCtorEq, f1, f3, f4, f10, f11, f12, f13, h14, h9', hh', hb', hc, hn, hdl2, wrap_u64s (show week ≤ 64 by omega), wrap_u64s (show m ≤ 64 by omega), b1, b2, q_ref43_put, hpr] | (with_reducible first | apply c1 | (first | apply c2 | apply c3) <;> (intro hc; simp only [hc]) | (first | apply c4 | apply c5) <;> (intro hc; rw [hc])))
          exact ⟨hlt2, by omega, .inl rfl⟩
        · rw [he, List.map_nil] at hpr
          repeat' (first | simp only [go_sem, Int.reduceLT, Int.reduceLE, Int.reduceNeg, Int.reduceEq, Nat.reduceAdd, Nat.reduceEqDiff, Nat.reduceLeDiff, Nat.reduceBEq, reduceIte, reduceCtorEq, f1, f3, f4, f10, f11, f12, f13, h14, h9', hh', hb', hc, hn, hdl2, wrap_u64s (show week ≤ 64 by omega), wrap_u64s (show m ≤ 64 by omega), b1, b2, q_ref43_put, hpr] | (with_reducible first | apply c1 | (first | apply c2 | apply c3) <;> (intro hc; simp only [hc]) | (first | apply c4 | apply c5) <;> (intro hc; rw [hc])))
          exact ⟨hlt2, by omega, .inl rfl⟩
      · repeat' (first | simp only [go_sem, Int.reduceLT, Int.reduceLE, Int.reduceNeg, Int.reduceEq, Nat.reduceAdd, Nat.reduceEqDiff, Nat.reduceLeDiff, Nat.reduceBEq, reduceIte, reduceCtorEq, f1, f3, f4, f10, f11, f12, f13, h14, h9', hh', hb', hn, show decide ((m : Int) < (n : Int)) = false by simpa using hge2] | (with_reducible first | apply c1 | (first | apply c2 | apply c3) <;> (intro hc; simp only [hc]) | (first | apply c4 | apply c5) <;> (intro hc; rw [hc])))
        refine ⟨hlt, by omega, ?_⟩
        rw [hstep, hwc, show n = m by omega]
        exact hd'
  · repeat' (first | simp only [go_sem, Int.reduceLT, Int.reduceLE, Int.reduceNeg, Int.reduceEq, Nat.reduceAdd, Nat.reduceEqDiff, Nat.reduceLeDiff, Nat.reduceBEq, reduceIte, reduceCtorEq, h1, h3, h4, h9, h10, h11, hh, show decide ((i : Int) < (k.length : Int)) = false by simpa using hge] | (with_reducible first | apply c1 | (first | apply c2 | apply c3) <;> (intro hc; simp only [hc]) | (first | apply c4 | apply c5) <;> (intro hc; rw [hc])))
    rw [ownT_snap hd, List.take_of_length_le hge]
    rfl
end Go.Proofs.YtddmnddocbmjnaaGreat.Dv
namespace Go.Proofs.YtddmnddocbmjnaaGreat.Dv
def m_crowd_Week : MF := ⟨89, (.seq (.reg none [Oo 4 (.box (.t 0)), Oo 6 (.box (.t 2)), Oo 8 (.mov (.d .nil))]) (.seq (.seq (.reg none [Oo 15 (.load true 15 (.t 4)), Om 16 1, Oo 17 (.call 42 [.t 15, .t 16]), Oo 18 (.un .not (.t 17)), Om 19 18, Og 20 19 false (.mov (.t 3)), Og 21 19 false (.iop .lss (.t 20) (.d (Ci 0))), Oo 22 (.pick (.t 19) (.d (.p (.s (.bool true)))) (.t 21)), Om 23 22, Og 24 23 false (.mov (.t 3)), Og 25 23 false (.fadr 1 (.t 4)), Og 26 23 false (.fadr 0 (.t 25)), Og 27 23 false (.load false 1 (.t 26)), Og 28 23 false (.iop .geq (.t 24) (.t 27)), Oo 29 (.pick (.t 23) (.d (.p (.s (.bool true)))) (.t 28))]) (.cond (.t 29) (.seq (.reg none [Oo 8 (.mov (.d .nil))]) .ret) .skip)) (.seq (.reg none [Oo 9 (.mov (.d .nil))]) (.seq (.seq (.reg none [Oo 30 (.load true 1 (.t 6)), Oo 31 (.call 32 [.t 30]), Ok 32 31, Oo 33 (.mov (.d (Ci 0)))]) (.block 0 (.loop (.seq (.reg none [Oo 34 (.iop .lss (.t 33) (.t 32))]) (.seq (.cond (.t 34) .skip (.exit 0)) (.seq (.block 1 (.seq (.reg none [Oo 35 (.iadrS 1 (.t 31) (.t 33)), Ol 36 35, Om 11 36]) (.seq (.seq (.reg none [Om 37 11, Oo 38 (.iop .lss (.t 37) (.d (Ci 0))), Om 39 38, Og 40 39 false (.mov (.t 11)), Og 41 39 false (.mov (.t 1)), Og 42 39 false (.lenL (.t 41)), Og 43 39 false (.iop .geq (.t 40) (.t 42)), Oo 44 (.pick (.t 39) (.d (.p (.s (.bool true)))) (.t 43)), Om 45 44, Og 46 45 false (.mov (.t 1)), Og 47 45 false (.mov (.t 11)), Og 48 45 false (.iadrS 2 (.t 46) (.t 47)), Og 49 45 false (.fadr 0 (.t 48)), Og 50 45 false (.load false 1 (.t 49)), Og 51 45 false (.iop .lss (.t 50) (.d (Ci 0))), Oo 52 (.pick (.t 45) (.d (.p (.s (.bool true)))) (.t 51))]) (.cond (.t 52) (.exit 1) .skip)) (.seq (.reg (some #[0, 1, 0, 7, 15, 31, 0, 0, 192, 448, 960, 2047, 4095, 8191, 0, 32767]) [Of 53 7 4, Ol 54 53, Om 55 11, Oo 56 (.iadrS 7 (.t 54) (.t 55)), Of 57 4 56, Ol 58 57, Om 59 1, Om 60 11, Oo 61 (.iadrS 2 (.t 59) (.t 60)), Of 62 0 61, Ol 63 62, Oo 64 (.iadrS 5 (.t 58) (.t 63)), Of 65 0 64, Oo 66 (.load true 4 (.t 65)), Oo 12 (.alloc [(.p (.s (.int .u32 0))), (.p (.s (.int .u8 0))), (Ci 0), (Ci 0)]), Ou (.store 4 (.t 12) (.t 66))]) (.seq (.reg none [Oo 67 (.load true 15 (.t 4)), Oo 68 (.load true 4 (.t 12)), Om 69 3, Oo 70 (.call 43 [.t 67, .t 68, .t 69]), Ok 71 70, Oo 72 (.mov (.d (Ci 0)))]) (.block 2 (.loop (.seq (.reg none [Oo 73 (.iop .lss (.t 72) (.t 71))]) (.seq (.cond (.t 73) .skip (.exit 2)) (.seq (.block 3 (.seq (.reg none [Oo 74 (.iadrS 1 (.t 70) (.t 72)), Ol 75 74, Om 14 75]) (.reg none [Om 76 9, Om 77 14, Of 78 2 12, Ol 79 78, Om 80 11, Oo 81 (.bld [(Ci 0), (Ci 0), (Ci 0)] [(0, 1, (.t 77)), (1, 1, (.t 79)), (2, 1, (.t 80))]), Oo 82 (.bldS true (some 3) 1 [.t 81]), Oo 83 (.app true (some 3) 24 (.t 76) (.t 82)), Om 9 83]))) (.reg none [Oo 84 (.iop .add (.t 72) (.d (Ci 1))), Om 72 84]))))))))))) (.reg none [Oo 85 (.iop .add (.t 33) (.d (Ci 1))), Om 33 85]))))))) (.seq (.reg none [Om 86 9, Oo 87 (.call 44 [.t 86, (.d (.p (.s (.func (.func 45) #[] #[]))))])]) (.seq (.reg none [Om 88 9, Om 8 88]) .ret)))))), [.tmp 8]⟩
theorem c_crowd_Week : comp Tryz.prog G0 24 = some m_crowd_Week := by kernel_rfl
theorem q_crowd_Week : Q0 24 := mCall_pure rfl
theorem cells3_len {zs : List T3} : (cells3 zs).length = zs.length * 3 := by
  induction zs with
  | nil => rfl
  | cons x zs ih => simp only [cells3, List.flatMap_cons, List.length_append, List.length_cons, List.length_nil] at ih ⊢; omega
theorem cells3_app {zs : List T3} {x : T3} : cells3 (zs ++ [x]) = cells3 zs ++ cells3 [x] := by simp [cells3]
theorem bldS_m3 {a b c : Int} {id : Nat} : bldSX true (some 3) 1 [.p (.agg [.s (.int .i64 a), .s (.int .i64 b), .s (.int .i64 c)])] id = some { dv := .ms id 0 1 1 (some 3), rd := [], up := [(id, some (.cells (cells3 [(a, b, c)]) false))] } := rfl
theorem src_m3 {x : T3} {j : Nat} {h : PT AObj} (hg : h.get j = some (.cells (cells3 [x]) false)) : src h 3 (.ms j 0 1 1 (some 3)) = some (cells3 [x], 1, [j]) := by
  simp only [src, hg]
  rfl
theorem app_m3_nil {x : T3} {j id : Nat} {h : PT AObj} (hg : h.get j = some (.cells (cells3 [x]) false)) : appX true (some 3) 24 .nil (.ms j 0 1 1 (some 3)) h id = some { dv := .ms id 0 1 1 (some 3), rd := [j], up := [(id, some (.cells (cells3 [x]) false))] } := by
  simp only [appX, esK, Option.getD_some, src_m3 hg]
  rfl
theorem app_m3 {x : T3} {zs : List T3} {i j id : Nat} {h : PT AObj} (hg : h.get j = some (.cells (cells3 [x]) false)) (hi : h.get i = some (.cells (cells3 zs) false)) (hb : (zs.length + 1) * 24 ≤ 70368744177664) : appX true (some 3) 24 (.ms i 0 zs.length zs.length (some 3)) (.ms j 0 1 1 (some 3)) h id = some { dv := .ms id 0 (zs.length + 1) (zs.length + 1) (some 3), rd := [i, j], up := [(i, none), (id, some (.cells (cells3 (zs ++ [x])) false))] } := by
  have e : esK (some 3) = 3 := rfl
  unfold appX
  rw [e, src_m3 hg]
  dsimp only
  rw [if_pos rfl, hi]
  dsimp only
  rw [if_neg (by omega), if_pos ⟨hb, by rw [cells3_len]; omega⟩, List.drop_zero, List.take_of_length_le (by rw [cells3_len]; omega), cells3_app]
theorem intsL_c3 {zs : List T3} : (intsL (cells3 zs)).bind trips = some zs := by
  induction zs with
  | nil => rfl
  | cons x zs ih =>
    obtain ⟨a, b, c⟩ := x
    have e : cells3 ((a, b, c) :: zs) = .p (i64 a) :: .p (i64 b) :: .p (i64 c) :: cells3 zs := rfl
    rw [e]
    cases hc : intsL (cells3 zs) with
    | none => rw [hc] at ih; cases ih
    | some r =>
      rw [hc] at ih
      simp only [Option.bind_some] at ih
      simp only [intsL, i64, hc, Option.bind_some, trips, ih]
theorem setAt_c3 {a b : List T3} (h : a.length = b.length) : setAt (cells3 a) 0 (cells3 b) = cells3 b := by
  have h1 : (cells3 a).length = (cells3 b).length := by rw [cells3_len, cells3_len, h]
  simp [setAt, h1]
theorem sort3X_c {zs : List T3} {i id : Nat} {h : PT AObj} (hl : zs.length ≤ 4096) (hg : h.get i = some (.cells (cells3 zs) false)) : sort3X [.ms i 0 zs.length zs.length (some 3), .p (.s (.func (.func 45) #[] #[]))] h id = some { dv := .p (.tup []), rd := [i], up := [(i, some (.cells (cells3 (isort3 zs)) false))] } := by
  simp only [sort3X, hg]
  rw [if_pos (by simp), if_pos ⟨by rw [cells3_len]; omega, hl⟩, List.drop_zero, List.take_of_length_le (by rw [cells3_len]; omega), intsL_c3]
  dsimp only
  rw [setAt_c3 (isort3_perm zs).length_eq.symm]
def pcs (zs : List T3) : List PDV := zs.flatMap fun x => [I x.1, I x.2.1, I x.2.2]
theorem pcs_map {zs : List T3} : cells3 zs = (pcs zs).map .p := by
  induction zs with
  | nil => rfl
  | cons x zs ih =>
    simp only [cells3, pcs, List.flatMap_cons, List.map_append] at ih ⊢
    rw [ih]
    rfl
theorem pcs_len {zs : List T3} : (pcs zs).length = zs.length * 3 := by
  have := congrArg List.length (pcs_map (zs := zs))
  rw [cells3_len, List.length_map] at this
  exact this.symm
theorem pcs_chunk {zs : List T3} : chunk 3 zs.length (pcs zs) = zs.map P3 := by
  induction zs with
  | nil => rfl
  | cons x zs ih =>
    have e : pcs (x :: zs) = [I x.1, I x.2.1, I x.2.2] ++ pcs zs := rfl
    rw [e, List.length_cons, chunk, List.map_cons]
    have e1 : ([I x.1, I x.2.1, I x.2.2] ++ pcs zs).take 3 = [I x.1, I x.2.1, I x.2.2] := rfl
    have e2 : ([I x.1, I x.2.1, I x.2.2] ++ pcs zs).drop 3 = pcs zs := rfl
    rw [e1, e2, ih]
    rfl
theorem snap_m3 {h : PT AObj} {i : Nat} {zs : List T3} (hg : h.get i = some (.cells (cells3 zs) false)) : (snap h (.ms i 0 zs.length zs.length (some 3))).map (·.1) = some (.lst (zs.map P3)) := by
  have e : ((cells3 zs).drop 0).take (zs.length * (some 3 : Option Nat).getD 1) = (pcs zs).map .p := by
    rw [List.drop_zero, Option.getD_some, List.take_of_length_le (by rw [cells3_len]; omega), pcs_map]
  unfold snap
  rw [snapF, hg]
  dsimp only
  rw [e, snapL_p, Option.bind_some, if_pos ⟨by decide, by rw [pcs_len]; rfl⟩]
  simp only [Option.map_some]
  rw [pcs_chunk]
def OwnM (b : Nat) (d : DV) (zs : List T3) (s : St) : Prop := (d = .nil ∧ zs = []) ∨ (∃ i, d = .ms i 0 zs.length zs.length (some 3) ∧ s.h.get i = some (.cells (cells3 zs) false) ∧ 1 < i ∧ i < s.nx ∧ i ≠ b)
theorem ownM_mono {b b' : Nat} {d : DV} {ls : List T3} {t t' : PT DV} {h h' : PT AObj} {nx nx' : Nat} (hd : OwnM b d ls ⟨t, h, nx⟩) (hh : ∀ j, 1 < j → j < nx → j ≠ b → h'.get j = h.get j ∧ j ≠ b') (hn : nx ≤ nx') : OwnM b' d ls ⟨t', h', nx'⟩ := by
  rcases hd with hd | ⟨j, e1, e2, e3, e4, e5⟩
  · exact .inl hd
  · exact .inr ⟨j, e1, (hh j e3 e4 e5).1.trans e2, e3, Nat.lt_of_lt_of_le e4 hn, (hh j e3 e4 e5).2⟩
theorem daysI_zero {week n : Nat} : daysI ⟨0, 0, 0, 0⟩ week n = [] := by
  have : ∀ d, dayB ⟨0, 0, 0, 0⟩ week d = false := fun d => by simp [dayB]
  rw [daysI, List.filter_eq_nil_iff.2 (fun d _ => by simp [this]), List.map_nil]
theorem wkC_out {p : VProblem} {l : List VSeat} {week n : Nat} {c : Int} (h : pspotB p l c = false) : wkC p l week n c = [] := by rw [wkC, h, if_neg (by simp)]
theorem ah_le {x y : T3} : ahB y x = !(le3 x y) := by
  cases h : le3 x y
  · rw [Bool.not_false, ahB_lt]
    have : ¬ le3 x y = true := by rw [h]; simp
    rw [le3_iff, Classical.not_not] at this
    exact this
  · have : ¬ ahB y x = true := by rw [ahB_lt]; exact le3_iff.1 h
    simpa using this
theorem putR_put3 {x : T3} : ∀ {l : List T3}, putR l x = put3 x l
  | [] => rfl
  | y :: l => by
    have ih := putR_put3 (x := x) (l := l)
    simp only [putR, put3] at ih ⊢
    rw [List.takeWhile_cons, List.dropWhile_cons, ah_le]
    cases h : le3 x y
    · simp only [Bool.not_false, if_true, Bool.false_eq_true, if_false, List.cons_append, ih]
    · simp
theorem foldR_perm : ∀ {zs a : List T3}, (zs.foldl putR a).Perm (zs ++ a)
  | [], a => .refl _
  | x :: zs, a => by
    rw [List.foldl_cons]
    refine foldR_perm.trans ?_
    rw [putR_put3]
    exact ((put3_perm x a).append_left zs).trans List.perm_middle
theorem foldR_sorted : ∀ {zs a : List T3}, a.Pairwise (fun a b => le3 a b = true) → (zs.foldl putR a).Pairwise (fun a b => le3 a b = true)
  | [], a, h => h
  | x :: zs, a, h => by
    rw [List.foldl_cons, putR_put3]
    exact foldR_sorted (put3_sorted h)
theorem isort3_foldR (zs : List T3) : isort3 zs = zs.foldl putR [] := by
  refine sorted_uniq (r := fun a b => le3 a b = true) (fun a b h1 h2 => ?_) ((isort3_perm zs).trans (by have := (foldR_perm (zs := zs) (a := [])).symm; rwa [List.append_nil] at this)) (isort3_sorted zs) (foldR_sorted .nil)
  rw [le3_iff, ← cf3_not] at h1 h2
  exact tot3 a b h2 h1
set_option maxHeartbeats 2000000 in
theorem week_res (p : VProblem) (hp : smP p) (l : List VSeat) (hl : l.length ≤ 1048576) (x : VLoad) (hx : loadS x) (week n : Nat) (hw : week ≤ 32) (hwk : (week : Int) < p.grid.weeks) (hn : p.grid.days = (n : Int)) (hn8 : n ≤ 8) (hpl : planB p l = true) :
    res Tryz.prog G0 24 [p.P, .lst (l.map VSeat.P), x.P, I (week : Int)] = some (.lst ((isort3 (wkL p l week n (allL x))).map P3)) := by
  obtain ⟨_, hall, hal64⟩ := rallL x hx
  have hal := classes_res x hx
  generalize hk : allL x = k at *
  have hpl' := hpl
  simp only [planB, Bool.and_eq_true, decide_eq_true_eq] at hpl'
  refine res_body c_crowd_Week (Nat.le_of_ble_eq_true rfl) ?_
  simp only [m_crowd_Week, Oo, Ou, Og, Ci, Om, Of, Ol, Ok]
  repeat' (first | simp only [go_sem, Int.reduceLT, Int.reduceLE, Int.reduceNeg, Int.reduceEq, Nat.reduceAdd, Nat.reduceEqDiff, Nat.reduceLeDiff, Nat.reduceBEq, reduceIte, reduceCtorEq, q_plan_Right, plan_res p hp l hl, hpl, show decide (p.grid.weeks ≤ (week : Int)) = false by (simp only [decide_eq_false_iff_not]; omega), q_crowd_classes, hal] | (with_reducible first | apply c1 | (first | apply c2 | apply c3) <;> (intro hc; simp only [hc]) | (first | apply c4 | apply c5) <;> (intro hc; rw [hc])))
  refine X_for 33 k.length (fun i s => s.h.get 0 = some (.cells (DV.cells (.p p.P)) false) ∧ 1 < s.nx ∧ ∃ d, s.t.get 9 = some d ∧ OwnM 0 d (wkL p l week n (k.take i)) s) 0 (by omega) ?_ (Nat.zero_le _) ?_ ?_
  · simp only [go_sem, Int.reduceLT, Int.reduceLE, Int.reduceNeg, Int.reduceEq, Nat.reduceAdd, Nat.reduceEqDiff, Nat.reduceLeDiff, Nat.reduceBEq, reduceIte, reduceCtorEq]; rfl
  · exact ⟨by simp only [go_sem, Int.reduceLT, Int.reduceLE, Int.reduceNeg, Int.reduceEq, Nat.reduceAdd, Nat.reduceEqDiff, Nat.reduceLeDiff, Nat.reduceBEq, reduceIte, reduceCtorEq], by first | decide | (dsimp only; omega), _, by simp only [go_sem, Int.reduceLT, Int.reduceLE, Int.reduceNeg, Int.reduceEq, Nat.reduceAdd, Nat.reduceEqDiff, Nat.reduceLeDiff, Nat.reduceBEq, reduceIte, reduceCtorEq], .inl ⟨rfl, rfl⟩⟩
  intro i t h nx hf hi0 hi h33 hj
  obtain ⟨hh, hnx, d, h9, hd⟩ := hj
  dsimp only at hh h9 hnx
  have h1 := hf 1 rfl; simp only [PT.get_set, Nat.reduceEqDiff, if_true, if_false, reduceIte, PT.get_leaf] at h1; have h3 := hf 3 rfl; simp only [PT.get_set, Nat.reduceEqDiff, if_true, if_false, reduceIte, PT.get_leaf] at h3; have h4 := hf 4 rfl; simp only [PT.get_set, Nat.reduceEqDiff, if_true, if_false, reduceIte, PT.get_leaf] at h4; have h31 := hf 31 rfl; simp only [PT.get_set, Nat.reduceEqDiff, if_true, if_false, reduceIte, PT.get_leaf] at h31; have h32 := hf 32 rfl; simp only [PT.get_set, Nat.reduceEqDiff, if_true, if_false, reduceIte, PT.get_leaf] at h32
  clear hf
  rcases Nat.lt_or_ge i k.length with hlt | hge
  · obtain ⟨c, hc, _, htc⟩ := get_dec (l := k) (i := i) (by simpa using hlt)
    have hdl : decide ((i : Int) < (k.length : Int)) = true := by simpa using hlt
    have hsnoc := wkL_snoc (p := p) (l := l) (week := week) (n := n) (k := k.take i) (c := c)
    rw [← htc] at hsnoc
    have skip : wkC p l week n c = [] → ∀ {t' : PT DV} {nx' : Nat}, nx ≤ nx' → OwnM 0 d (wkL p l week n (k.take (i + 1))) ⟨t', h, nx'⟩ := fun e {t' nx'} hle => by
      rw [hsnoc, e, List.append_nil]
      exact ownM_mono hd (fun _ _ _ h => ⟨rfl, h⟩) hle
    by_cases cc0 : c < 0
    case pos =>
      repeat' (first | simp only [go_sem, Int.reduceLT, Int.reduceLE, Int.reduceNeg, Int.reduceEq, Nat.reduceAdd, Nat.reduceEqDiff, Nat.reduceLeDiff, Nat.reduceBEq, reduceIte, reduceCtorEq, h1, h3, h4, h31, h32, h33, hh, h9, hc, hdl, show decide (c < 0) = true by simpa using cc0] | (with_reducible first | apply c1 | (first | apply c2 | apply c3) <;> (intro hc; simp only [hc]) | (first | apply c4 | apply c5) <;> (intro hc; rw [hc])))
      exact ⟨hlt, by omega, skip (wkC_out (by simp [pspotB, show ¬ 0 ≤ c by omega])) (by omega)⟩
    obtain ⟨a, rfl⟩ := Int.eq_ofNat_of_zero_le (show 0 ≤ c by omega)
    by_cases cc1 : a < l.length
    case neg =>
      repeat' (first | simp only [go_sem, Int.reduceLT, Int.reduceLE, Int.reduceNeg, Int.reduceEq, Nat.reduceAdd, Nat.reduceEqDiff, Nat.reduceLeDiff, Nat.reduceBEq, reduceIte, reduceCtorEq, h1, h3, h4, h31, h32, h33, hh, h9, hc, hdl, show decide ((l.length : Int) ≤ (a : Int)) = true by (simp; omega)] | (with_reducible first | apply c1 | (first | apply c2 | apply c3) <;> (intro hc; simp only [hc]) | (first | apply c4 | apply c5) <;> (intro hc; rw [hc])))
      exact ⟨hlt, by omega, skip (wkC_out (by simp [pspotB, cc1])) (by omega)⟩
    obtain ⟨s, hs, _, _⟩ := get_dec (l := l) (i := a) (by simpa using cc1)
    obtain ⟨cl, hcl, _, _⟩ := get_dec (l := p.classes) (i := a) (by simp; omega)
    have hsb := seats_get hpl'.2 hcl hs
    have hsi : l[a] = s := (List.getElem?_eq_some_iff.1 hs).2
    have hV : pspotV p l (a : Int) = spotV cl s := by simp [pspotV, hpl, cc1, hcl, hs, hsi]
    have hB : pspotB p l (a : Int) = true := by simp [pspotB, hpl, cc1]
    have hwc : wkC p l week n (a : Int) = meetL (spotV cl s).when week n (a : Int) := by rw [wkC, hB, if_pos rfl, hV]
    by_cases s0 : s.time < 0
    case pos =>
      repeat' (first | simp only [go_sem, Int.reduceLT, Int.reduceLE, Int.reduceNeg, Int.reduceEq, Nat.reduceAdd, Nat.reduceEqDiff, Nat.reduceLeDiff, Nat.reduceBEq, reduceIte, reduceCtorEq, h1, h3, h4, h31, h32, h33, hh, h9, hc, hdl, hs, show decide ((l.length : Int) ≤ (a : Int)) = false by (simp; omega), show decide (s.time < 0) = true by simpa using s0] | (with_reducible first | apply c1 | (first | apply c2 | apply c3) <;> (intro hc; simp only [hc]) | (first | apply c4 | apply c5) <;> (intro hc; rw [hc])))
      exact ⟨hlt, by omega, skip (by rw [hwc]; simp [meetL, spotV, hsb, show ¬ 0 ≤ s.time by omega, daysI_zero]) (by omega)⟩
    obtain ⟨b, hb⟩ := Int.eq_ofNat_of_zero_le (show 0 ≤ s.time by omega)
    have hbl : b < cl.times.length := by
      simp only [seatB, Bool.and_eq_true, decide_eq_true_eq] at hsb
      omega
    obtain ⟨tm, htm, _, _⟩ := get_dec (l := cl.times) (i := b) (by simpa using hbl)
    have hW : (spotV cl s).when = tm.when := by simp [spotV, hsb, hb, htm]
    repeat' (first | simp only [go_sem, Int.reduceLT, Int.reduceLE, Int.reduceNeg, Int.reduceEq, Nat.reduceAdd, Nat.reduceEqDiff, Nat.reduceLeDiff, Nat.reduceBEq, reduceIte, reduceCtorEq, h1, h3, h4, h31, h32, h33, hh, h9, hc, hdl, hs, hcl, hb, htm, show decide ((l.length : Int) ≤ (a : Int)) = false by (simp; omega), show decide ((b : Int) < 0) = false by (simp), q_crowd_days, days_res p tm.when week n hw hn hn8] | (with_reducible first | apply c1 | (first | apply c2 | apply c3) <;> (intro hc; simp only [hc]) | (first | apply c4 | apply c5) <;> (intro hc; rw [hc])))
    · rfl
    · (simp [nqs, quietL, nqP, nqA, clash, meets]) <;> ((repeat' apply And.intro) <;> first | rfl | omega | (right; (repeat' apply And.intro) <;> omega) | (left; rfl))
    generalize hds : daysI tm.when week n = ds at *
    have hml : meetL tm.when week n (a : Int) = ds.map fun d => (d, tm.when.start, (a : Int)) := by rw [meetL, hds]
    have hacc : (wkL p l week n (k.take i)).length ≤ 512 := by
      have e1 := wkL_len (p := p) (l := l) (week := week) (n := n) (k := k.take i)
      have e2 : (k.take i).length * n ≤ 64 * 8 := Nat.mul_le_mul (by rw [List.length_take]; omega) hn8
      omega
    have hdl8 : ds.length ≤ 8 := by rw [← hds]; exact Nat.le_trans daysI_len hn8
    rw [hwc, hW, hml] at hsnoc
    generalize wkL p l week n (k.take i) = acc at *
    refine X_for 72 ds.length (fun m s => s.h.get 0 = some (.cells (DV.cells (.p p.P)) false) ∧ s.h.get (nx + 34) = some (.cells (DV.cells (.p tm.when.P)) false) ∧ nx + 34 < s.nx ∧ ∃ d, s.t.get 9 = some d ∧ OwnM (nx + 34) d (acc ++ (ds.take m).map fun d => (d, tm.when.start, (a : Int))) s) 0 (by omega) ?_ (Nat.zero_le _) ?_ ?_
    · simp only [go_sem, Int.reduceLT, Int.reduceLE, Int.reduceNeg, Int.reduceEq, Nat.reduceAdd, Nat.reduceEqDiff, Nat.reduceLeDiff, Nat.reduceBEq, reduceIte, reduceCtorEq]; rfl
    · refine ⟨by simp only [go_sem, Int.reduceLT, Int.reduceLE, Int.reduceNeg, Int.reduceEq, Nat.reduceAdd, Nat.reduceEqDiff, Nat.reduceLeDiff, Nat.reduceBEq, reduceIte, reduceCtorEq, hh]; first | done | (rw [if_neg (by omega)]), by simp only [go_sem, Int.reduceLT, Int.reduceLE, Int.reduceNeg, Int.reduceEq, Nat.reduceAdd, Nat.reduceEqDiff, Nat.reduceLeDiff, Nat.reduceBEq, reduceIte, reduceCtorEq], by dsimp only; omega, d, by simp only [go_sem, Int.reduceLT, Int.reduceLE, Int.reduceNeg, Int.reduceEq, Nat.reduceAdd, Nat.reduceEqDiff, Nat.reduceLeDiff, Nat.reduceBEq, reduceIte, reduceCtorEq, h9], ?_⟩
      rw [List.take_zero, List.map_nil, List.append_nil]
      refine ownM_mono hd (fun j j0 j1 _ => ⟨?_, by omega⟩) (by omega)
      simp only [PT.get_set]
      rw [if_neg (by omega), if_neg (by omega)]
    intro m t' h' nx' hf hm0 hm h72 hj2
    obtain ⟨hh', hb', hnx', d', h9', hd'⟩ := hj2
    dsimp only at hh' hb' h9' hnx'
    have f1 := hf 1 rfl; have f3 := hf 3 rfl; have f4 := hf 4 rfl; have f11 := hf 11 rfl; have f12 := hf 12 rfl; have f31 := hf 31 rfl; have f32 := hf 32 rfl; have f33 := hf 33 rfl; have f70 := hf 70 rfl; have f71 := hf 71 rfl
    simp only [PT.get_set, Nat.reduceEqDiff, if_true, if_false, reduceIte, h1, h3, h4, h31, h32, h33] at f1 f3 f4 f11 f12 f31 f32 f33 f70 f71
    clear hf
    rcases Nat.lt_or_ge m ds.length with hlt2 | hge2
    · obtain ⟨y, hy, _, hty⟩ := get_dec (l := ds) (i := m) (by simpa using hlt2)
      have hdl2 : decide ((m : Int) < (ds.length : Int)) = true := by simpa using hlt2
      have hz : (acc ++ (ds.take (m + 1)).map fun d => (d, tm.when.start, (a : Int))) = (acc ++ (ds.take m).map fun d => (d, tm.when.start, (a : Int))) ++ [(y, tm.when.start, (a : Int))] := by rw [hty, List.map_append, ← List.append_assoc]; rfl
      have hzl : (acc ++ (ds.take m).map fun d => (d, tm.when.start, (a : Int))).length ≤ 1024 := by
        rw [List.length_append, List.length_map, List.length_take]
        omega
      obtain ⟨zs, hzs⟩ : ∃ zs, zs = acc ++ (ds.take m).map fun d => (d, tm.when.start, (a : Int)) := ⟨_, rfl⟩
      rw [← hzs] at hd' hz hzl
      have hgx : (h'.set (nx' + 10) (some (.cells (cells3 [(y, tm.when.start, (a : Int))]) false))).get (nx' + 10) = some (.cells (cells3 [(y, tm.when.start, (a : Int))]) false) := by rw [PT.get_set, if_pos rfl]
      rcases hd' with ⟨rfl, he⟩ | ⟨j, rfl, hg, j0, j1, j2⟩
      · repeat' (first | simp only [go_sem, Int.reduceLT, Int.reduceLE, Int.reduceNeg, Int.reduceEq, Nat.reduceAdd, Nat.reduceEqDiff, Nat.reduceLeDiff, Nat.reduceBEq, reduceIte, reduceCtorEq, f1, f3, f4, f11, f12, f31, f32, f33, f70, f71, h72, h9', hh', hb', hy, hdl2, bldS_m3, app_m3_nil hgx] | (with_reducible first | apply c1 | (first | apply c2 | apply c3) <;> (intro hc; simp only [hc]) | (first | apply c4 | apply c5) <;> (intro hc; rw [hc])))
        refine ⟨hlt2, by rw [if_neg (by omega), if_neg (by omega)], by omega, ?_⟩
        rw [hz, he]
        exact .inr ⟨nx' + 11, rfl, by rw [PT.get_set, if_pos rfl]; rfl, by omega, by dsimp only; omega, by omega⟩
      · dsimp only at hg j1
        have hgi : (h'.set (nx' + 10) (some (.cells (cells3 [(y, tm.when.start, (a : Int))]) false))).get j = some (.cells (cells3 zs) false) := by rw [PT.get_set, if_neg (by omega)]; exact hg
        repeat' (first | simp only [go_sem, Int.reduceLT, Int.reduceLE, Int.reduceNeg, Int.reduceEq, Nat.reduceAdd, Nat.reduceEqDiff, Nat.reduceLeDiff, Nat.reduceBEq, reduceIte, reduceCtorEq, f1, f3, f4, f11, f12, f31, f32, f33, f70, f71, h72, h9', hh', hb', hy, hdl2, bldS_m3, app_m3 hgx hgi (by omega)] | (with_reducible first | apply c1 | (first | apply c2 | apply c3) <;> (intro hc; simp only [hc]) | (first | apply c4 | apply c5) <;> (intro hc; rw [hc])))
        refine ⟨hlt2, by rw [if_neg (by omega)], by rw [if_neg (by omega), if_neg (by omega), if_neg (by omega)], by omega, ?_⟩
        rw [hz]
        exact .inr ⟨nx' + 11, by rw [List.length_append]; rfl, by rw [PT.get_set, if_pos rfl], by omega, by dsimp only; omega, by omega⟩
    · repeat' (first | simp only [go_sem, Int.reduceLT, Int.reduceLE, Int.reduceNeg, Int.reduceEq, Nat.reduceAdd, Nat.reduceEqDiff, Nat.reduceLeDiff, Nat.reduceBEq, reduceIte, reduceCtorEq, f1, f3, f4, f11, f12, f31, f32, f33, f70, f71, h72, h9', hh', hb', show decide ((m : Int) < (ds.length : Int)) = false by simpa using hge2] | (with_reducible first | apply c1 | (first | apply c2 | apply c3) <;> (intro hc; simp only [hc]) | (first | apply c4 | apply c5) <;> (intro hc; rw [hc])))
      rw [List.take_of_length_le hge2, ← hsnoc] at hd'
      exact ⟨hlt, by omega, ownM_mono hd' (fun j j0 _ _ => ⟨rfl, by omega⟩) (by omega)⟩
  · have hdl : decide ((i : Int) < (k.length : Int)) = false := by simpa using hge
    rw [List.take_of_length_le hge] at hd
    rcases hd with ⟨rfl, he⟩ | ⟨j, rfl, hg, j0, j1, _⟩
    · have hq2 : ∀ {fn : FuncId} {dst : Option Nat} {id : Nat} {s : St}, mCall G0 fn (callR Tryz.prog G0) 44 [.nil, .p (.s (.func (.func 45) #[] #[]))] dst id s = effS dst s (some { dv := .p (.tup []), rd := [], up := [] }) := fun {fn dst id s} => mCall_ext rfl rfl rfl
      repeat' (first | simp only [go_sem, Int.reduceLT, Int.reduceLE, Int.reduceNeg, Int.reduceEq, Nat.reduceAdd, Nat.reduceEqDiff, Nat.reduceLeDiff, Nat.reduceBEq, reduceIte, reduceCtorEq, h1, h3, h4, h31, h32, h33, hh, h9, hdl, hq2] | (with_reducible first | apply c1 | (first | apply c2 | apply c3) <;> (intro hc; simp only [hc]) | (first | apply c4 | apply c5) <;> (intro hc; rw [hc])))
      rw [he]
      rfl
    · dsimp only at hg j1
      have hq2 : ∀ {fn : FuncId} {dst : Option Nat} {id : Nat} {s : St} (hgs : s.h.get j = some (.cells (cells3 (wkL p l week n k)) false)), mCall G0 fn (callR Tryz.prog G0) 44 [.ms j 0 (wkL p l week n k).length (wkL p l week n k).length (some 3), .p (.s (.func (.func 45) #[] #[]))] dst id s = effS dst s (some { dv := .p (.tup []), rd := [j], up := [(j, some (.cells (cells3 (isort3 (wkL p l week n k))) false))] }) := fun {fn dst id s} hgs => mCall_ext rfl rfl (sort3X_c (by
        have := wkL_len (p := p) (l := l) (week := week) (n := n) (k := k)
        have h2 : k.length * n ≤ 64 * 8 := Nat.mul_le_mul hal64 hn8
        omega) hgs)
      repeat' (first | simp only [go_sem, Int.reduceLT, Int.reduceLE, Int.reduceNeg, Int.reduceEq, Nat.reduceAdd, Nat.reduceEqDiff, Nat.reduceLeDiff, Nat.reduceBEq, reduceIte, reduceCtorEq, h1, h3, h4, h31, h32, h33, hh, h9, hdl] | (with_reducible first | apply c1 | (first | apply c2 | apply c3) <;> (intro hc; simp only [hc]) | (first | apply c4 | apply c5) <;> (intro hc; rw [hc])))
      have hs3 : (h.set j (some (.cells (cells3 (isort3 (wkL p l week n k))) false))).get j = some (.cells (cells3 (isort3 (wkL p l week n k))) false) := by rw [PT.get_set, if_pos rfl]
      have hsn := snap_m3 hs3
      rw [(isort3_perm _).length_eq] at hsn
      rw [hq2 hg]
      repeat' (first | simp only [go_sem, Int.reduceLT, Int.reduceLE, Int.reduceNeg, Int.reduceEq, Nat.reduceAdd, Nat.reduceEqDiff, Nat.reduceLeDiff, Nat.reduceBEq, reduceIte, reduceCtorEq, h9] | (with_reducible first | apply c1 | (first | apply c2 | apply c3) <;> (intro hc; simp only [hc]) | (first | apply c4 | apply c5) <;> (intro hc; rw [hc])))
      exact hsn
end Go.Proofs.YtddmnddocbmjnaaGreat.Dv
