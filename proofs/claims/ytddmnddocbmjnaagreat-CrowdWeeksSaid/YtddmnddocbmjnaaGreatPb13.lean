/- Part 13 of the proof: CrowdWeeks: whatever plain data comes in, the call returns true and leaves its arguments as they were. No condition. -/
import Derived.Test.YtddmnddocbmjnaaGreatPb12
import Derived.KernelRfl
set_option linter.all false
set_option linter.unusedVariables false
set_option linter.unusedSectionVars false
set_option linter.unusedSimpArgs false
namespace Go.Proofs.YtddmnddocbmjnaaGreat.Dv
def goodL (m : Nat) (rs : List Bool) (ns : List ByteArray) : Bool := decide (ns.length ≤ m) && rs.all id && nodupB ns
theorem goodL_map {α : Type} {m : Nat} {ok : α → Bool} {nm : α → ByteArray} {l : List α} : goodL m (l.map ok) (l.map nm) = goodB m ok nm l := by
  simp [goodL, goodB, List.all_map, Function.comp_def]
def m_ref17_first : MF := ⟨41, (.seq (.reg none [Oo 6 (.mov (.d (Ci 0)))]) (.seq (.seq (.reg none [Oo 7 (.mov (.d (Ci 0)))]) (.block 0 (.loop (.seq (.seq (.reg none [Om 9 7, Om 10 0, Ok 11 10, Oo 12 (.iop .lss (.t 9) (.t 11))]) (.cond (.t 12) .skip (.exit 0))) (.seq (.block 1 (.seq (.seq (.reg none [Om 15 7, Om 16 2, Oo 17 (.iop .eql (.t 15) (.t 16)), Om 18 17, Og 19 18 false (.mov (.t 1)), Og 20 18 false (.mov (.t 7)), Og 21 18 false (.iadrS 1 (.t 19) (.t 20)), Og 22 18 false (.load false 1 (.t 21)), Og 23 18 false (.un .not (.t 22)), Oo 24 (.pick (.t 18) (.d (.p (.s (.bool true)))) (.t 23))]) (.cond (.t 24) (.seq (.reg none [Om 25 7, Om 6 25]) .ret) .skip)) (.seq (.reg none [Oo 8 (.mov (.d (Ci 0)))]) (.block 2 (.loop (.seq (.seq (.reg none [Om 26 8, Om 27 7, Oo 28 (.iop .lss (.t 26) (.t 27))]) (.cond (.t 28) .skip (.exit 2))) (.seq (.block 3 (.seq (.reg (some #[0, 0, 3, 7, 0, 0, 48, 112, 255]) [Om 31 0, Om 32 8, Oo 33 (.iadrS 1 (.t 31) (.t 32)), Ol 34 33, Om 35 0, Om 36 7, Oo 37 (.iadrS 1 (.t 35) (.t 36)), Ol 38 37, Oo 39 (.sop .eql (.t 34) (.t 38))]) (.cond (.t 39) (.seq (.reg none [Om 40 7, Om 6 40]) .ret) .skip))) (.reg none [Om 29 8, Oo 30 (.iop .add (.t 29) (.d (Ci 1))), Om 8 30])))))))) (.reg none [Om 13 7, Oo 14 (.iop .add (.t 13) (.d (Ci 1))), Om 7 14])))))) (.seq (.reg none [Oo 6 (.mov (.d (Ci (-1))))]) .ret))), [.tmp 6]⟩
theorem c_ref17_first : comp Tryz.prog G0 236 = some m_ref17_first := by kernel_rfl
theorem q_ref17_first : Q0 236 := mCall_pure rfl
theorem first_res (ns : List ByteArray) (rs : List Bool) (hlr : rs.length = ns.length) (hl : ns.length ≤ 1048576) (m : Nat) :
    ∃ q, res Tryz.prog G0 236 [.lst (ns.map strP), .lst (rs.map fun b => PDV.s (.bool b)), I (m : Int)] = some q ∧ ∃ k : Int, q = I k ∧ decide (0 ≤ k) = !goodL m rs ns := by
  refine res_ex c_ref17_first (Nat.le_of_ble_eq_true rfl) ?_
  simp only [m_ref17_first, Oo, Ou, Og, Ci, Om, Of, Ol, Ok]
  repeat' (first | simp only [go_sem, Int.reduceLT, Int.reduceLE, Int.reduceNeg, Int.reduceEq, Nat.reduceAdd, Nat.reduceEqDiff, Nat.reduceLeDiff, Nat.reduceBEq, reduceIte, reduceCtorEq] | (with_reducible first | apply c1 | (first | apply c2 | apply c3) <;> (intro hc; simp only [hc]) | (first | apply c4 | apply c5) <;> (intro hc; rw [hc])))
  refine X_for 7 ns.length (fun i s => (ns.take i).Nodup ∧ (∀ b ∈ rs.take i, b = true) ∧ i ≤ m) 0 (by omega) ?_ (Nat.zero_le _) ⟨by simp, by simp, Nat.zero_le _⟩ ?_
  · simp only [go_sem, Int.reduceLT, Int.reduceLE, Int.reduceNeg, Int.reduceEq, Nat.reduceAdd, Nat.reduceEqDiff, Nat.reduceLeDiff, Nat.reduceBEq, reduceIte, reduceCtorEq]; rfl
  intro i t h nx hf hi0 hi h7 hj
  obtain ⟨hnd, hok, him⟩ := hj
  have h0 := hf 0 rfl; simp only [PT.get_set, Nat.reduceEqDiff, if_true, if_false, reduceIte, PT.get_leaf] at h0; have h1 := hf 1 rfl; simp only [PT.get_set, Nat.reduceEqDiff, if_true, if_false, reduceIte, PT.get_leaf] at h1; have h2 := hf 2 rfl; simp only [PT.get_set, Nat.reduceEqDiff, if_true, if_false, reduceIte, PT.get_leaf] at h2
  clear hf
  rcases Nat.lt_or_ge i ns.length with hlt | hge
  · obtain ⟨x, hx, _, htk⟩ := get_dec (l := ns) (i := i) (by simpa using hlt)
    obtain ⟨r, hr, _, htr⟩ := get_dec (l := rs) (i := i) (by simp; omega)
    have hdl : decide ((i : Int) < (ns.length : Int)) = true := by simpa using hlt
    by_cases him2 : i = m
    · repeat' (first | simp only [go_sem, Int.reduceLT, Int.reduceLE, Int.reduceNeg, Int.reduceEq, Nat.reduceAdd, Nat.reduceEqDiff, Nat.reduceLeDiff, Nat.reduceBEq, reduceIte, reduceCtorEq, h0, h1, h2, h7, hdl, show decide ((i : Int) = (m : Int)) = true by (simp; omega)] | (with_reducible first | apply c1 | (first | apply c2 | apply c3) <;> (intro hc; simp only [hc]) | (first | apply c4 | apply c5) <;> (intro hc; rw [hc])))
      refine ⟨(i : Int), rfl, ?_⟩
      have : goodL m rs ns = false := by simp [goodL]; omega
      rw [this]; simp
    have hdm : decide ((i : Int) = (m : Int)) = false := by simp; omega
    cases r with
    | false =>
      repeat' (first | simp only [go_sem, Int.reduceLT, Int.reduceLE, Int.reduceNeg, Int.reduceEq, Nat.reduceAdd, Nat.reduceEqDiff, Nat.reduceLeDiff, Nat.reduceBEq, reduceIte, reduceCtorEq, h0, h1, h2, h7, hdl, hdm, hr] | (with_reducible first | apply c1 | (first | apply c2 | apply c3) <;> (intro hc; simp only [hc]) | (first | apply c4 | apply c5) <;> (intro hc; rw [hc])))
      refine ⟨(i : Int), rfl, ?_⟩
      have : goodL m rs ns = false := by
        have : rs.all id = false := by rw [List.all_eq_false]; exact ⟨false, List.mem_of_getElem? hr, by simp⟩
        simp [goodL, this]
      rw [this]; simp
    | true =>
      repeat' (first | simp only [go_sem, Int.reduceLT, Int.reduceLE, Int.reduceNeg, Int.reduceEq, Nat.reduceAdd, Nat.reduceEqDiff, Nat.reduceLeDiff, Nat.reduceBEq, reduceIte, reduceCtorEq, h0, h1, h2, h7, hdl, hdm, hr] | (with_reducible first | apply c1 | (first | apply c2 | apply c3) <;> (intro hc; simp only [hc]) | (first | apply c4 | apply c5) <;> (intro hc; rw [hc])))
      refine X_for 8 i (fun k s => ∀ y ∈ ns.take k, y ≠ x) 0 (by omega) ?_ (Nat.zero_le _) (by simp) ?_
      · simp only [go_sem, Int.reduceLT, Int.reduceLE, Int.reduceNeg, Int.reduceEq, Nat.reduceAdd, Nat.reduceEqDiff, Nat.reduceLeDiff, Nat.reduceBEq, reduceIte, reduceCtorEq]; rfl
      intro k t' h' nx' hf hk0 hk h8 hj
      have h0' := hf 0 rfl
      have h7' := hf 7 rfl
      simp only [PT.get_set, Nat.reduceEqDiff, if_false, h0, h7] at h0' h7'
      clear hf
      rcases Nat.lt_or_ge k i with hki | hki
      · obtain ⟨y, hy, _, hty⟩ := get_dec (l := ns) (i := k) (by simp; omega)
        have hdk : decide ((k : Int) < (i : Int)) = true := by simp; omega
        by_cases hxy : y = x
        · repeat' (first | simp only [go_sem, Int.reduceLT, Int.reduceLE, Int.reduceNeg, Int.reduceEq, Nat.reduceAdd, Nat.reduceEqDiff, Nat.reduceLeDiff, Nat.reduceBEq, reduceIte, reduceCtorEq, h0', h7', h8, hdk, hx, hy, strP, show decide (y.toList = x.toList) = true by simp [hxy]] | (with_reducible first | apply c1 | (first | apply c2 | apply c3) <;> (intro hc; simp only [hc]) | (first | apply c4 | apply c5) <;> (intro hc; rw [hc])))
          refine ⟨(i : Int), rfl, ?_⟩
          have : goodL m rs ns = false := by
            have := goodB_twice (m := ns.length) (ok := fun _ : ByteArray => true) (nm := fun s => s) hx (by
              rw [List.map_id', ← hxy]
              exact List.mem_of_getElem? (i := k) (by rw [List.getElem?_take]; simp [hki, hy]))
            have hz : nodupB ns = false := by simpa [goodB] using this
            simp [goodL, hz]
          rw [this]; simp
        · have hne : decide (y.toList = x.toList) = false := by
            simp only [decide_eq_false_iff_not]
            exact fun e => hxy (toList_inj e)
          repeat' (first | simp only [go_sem, Int.reduceLT, Int.reduceLE, Int.reduceNeg, Int.reduceEq, Nat.reduceAdd, Nat.reduceEqDiff, Nat.reduceLeDiff, Nat.reduceBEq, reduceIte, reduceCtorEq, h0', h7', h8, hdk, hx, hy, strP, hne] | (with_reducible first | apply c1 | (first | apply c2 | apply c3) <;> (intro hc; simp only [hc]) | (first | apply c4 | apply c5) <;> (intro hc; rw [hc])))
          refine ⟨hki, fun z hz => ?_⟩
          rw [hty, List.mem_append, List.mem_singleton] at hz
          rcases hz with hz | rfl
          · exact hj z hz
          · exact hxy
      · have hki' : k = i := by omega
        rw [hki'] at hj
        repeat' (first | simp only [go_sem, Int.reduceLT, Int.reduceLE, Int.reduceNeg, Int.reduceEq, Nat.reduceAdd, Nat.reduceEqDiff, Nat.reduceLeDiff, Nat.reduceBEq, reduceIte, reduceCtorEq, h0', h7', h8, show decide ((k : Int) < (i : Int)) = false by (simp; omega)] | (with_reducible first | apply c1 | (first | apply c2 | apply c3) <;> (intro hc; simp only [hc]) | (first | apply c4 | apply c5) <;> (intro hc; rw [hc])))
        refine ⟨hlt, ?_, ?_, by omega⟩
        · rw [htk]
          exact nodup_snoc.2 ⟨hnd, fun hm => hj x hm rfl⟩
        · intro b hb
          rw [htr, List.mem_append, List.mem_singleton] at hb
          rcases hb with hb | rfl
          · exact hok b hb
          · rfl
  · have he : ns.take i = ns := List.take_of_length_le hge
    have her : rs.take i = rs := List.take_of_length_le (by omega)
    rw [he] at hnd
    rw [her] at hok
    repeat' (first | simp only [go_sem, Int.reduceLT, Int.reduceLE, Int.reduceNeg, Int.reduceEq, Nat.reduceAdd, Nat.reduceEqDiff, Nat.reduceLeDiff, Nat.reduceBEq, reduceIte, reduceCtorEq, h0, h1, h2, h7, show decide ((i : Int) < (ns.length : Int)) = false by simpa using hge] | (with_reducible first | apply c1 | (first | apply c2 | apply c3) <;> (intro hc; simp only [hc]) | (first | apply c4 | apply c5) <;> (intro hc; rw [hc])))
    refine ⟨-1, rfl, ?_⟩
    have : goodL m rs ns = true := by
      simp only [goodL, Bool.and_eq_true, decide_eq_true_eq]
      exact ⟨⟨by omega, List.all_eq_true.2 fun b hb => hok b hb⟩, nodupB_iff.2 hnd⟩
    rw [this]; simp
def m_ref17_rooms : MF := ⟨36, (.seq (.reg none [Oo 1 (.box (.t 0)), Oo 2 (.mov (.d (Ci 0)))]) (.seq (.reg none [Oo 3 (.mov (.d .nil))]) (.seq (.reg none [Oo 4 (.mov (.d .nil))]) (.seq (.seq (.reg none [Oo 5 (.mov (.d (Ci 0)))]) (.block 0 (.loop (.seq (.seq (.reg none [Om 6 5, Of 7 4 1, Ol 8 7, Ok 9 8, Oo 10 (.iop .lss (.t 6) (.t 9))]) (.cond (.t 10) .skip (.exit 0))) (.seq (.block 1 (.reg (some #[0, 0, 2, 0, 14, 30, 62, 126, 255, 0, 0, 1024, 0, 4096, 0, 28672, 61440, 130559, 261631, 524287, 1048575, 2097151]) [Om 13 3, Of 14 4 1, Ol 15 14, Om 16 5, Oo 17 (.iadrS 4 (.t 15) (.t 16)), Of 18 0 17, Ol 19 18, Oo 20 (.bldS false none 1 [.t 19]), Oo 21 (.app false none 16 (.t 13) (.t 20)), Om 22 4, Of 23 1 1, Oo 24 (.load true 3 (.t 23)), Of 25 4 1, Ol 26 25, Om 27 5, Oo 28 (.iadrS 4 (.t 26) (.t 27)), Oo 29 (.load true 4 (.t 28)), Oo 30 (.call 235 [.t 24, .t 29]), Oo 31 (.bldS false none 1 [.t 30]), Oo 32 (.app false none 1 (.t 22) (.t 31)), Om 3 21, Om 4 32])) (.reg none [Om 11 5, Oo 12 (.iop .add (.t 11) (.d (Ci 1))), Om 5 12])))))) (.seq (.reg none [Om 33 3, Om 34 4, Oo 35 (.call 236 [.t 33, .t 34, (.d (Ci 24))]), Om 2 35]) .ret))))), [.tmp 2]⟩
theorem c_ref17_rooms : comp Tryz.prog G0 191 = some m_ref17_rooms := by kernel_rfl
theorem q_ref17_rooms : Q0 191 := mCall_pure rfl
theorem rrooms_res (p : VProblem) (hl : p.rooms.length ≤ 1048576) (ok : VRoom → Bool) (hok : ∀ x ∈ p.rooms, res Tryz.prog G0 235 [p.grid.P, x.P] = some (B (ok x))) : ∃ q, res Tryz.prog G0 191 [p.P] = some q ∧ ∃ k : Int, q = I k ∧ decide (0 ≤ k) = !goodB 24 ok (fun x => x.name) p.rooms := by
  refine res_ex c_ref17_rooms (Nat.le_of_ble_eq_true rfl) ?_
  simp only [m_ref17_rooms, Oo, Ou, Og, Ci, Om, Of, Ol, Ok]
  repeat' (first | simp only [go_sem, Int.reduceLT, Int.reduceLE, Int.reduceNeg, Int.reduceEq, Nat.reduceAdd, Nat.reduceEqDiff, Nat.reduceLeDiff, Nat.reduceBEq, reduceIte, reduceCtorEq] | (with_reducible first | apply c1 | (first | apply c2 | apply c3) <;> (intro hc; simp only [hc]) | (first | apply c4 | apply c5) <;> (intro hc; rw [hc])))
  refine X_for 5 p.rooms.length (fun i s => s.h.get 0 = some (.cells (DV.cells (.p p.P)) false) ∧ ((i = 0 ∧ s.t.get 3 = some .nil ∧ s.t.get 4 = some .nil) ∨ ∃ i1 i2, s.t.get 3 = some (.ow i1 ((p.rooms.take i).map fun x => PDV.s (.string x.name))) ∧ s.t.get 4 = some (.ow i2 ((p.rooms.take i).map fun x => B (ok x))) ∧ s.h.get i1 = some (.tip 1) ∧ s.h.get i2 = some (.tip 1) ∧ i1 < s.nx ∧ i2 < s.nx ∧ i1 ≠ i2 ∧ 0 < i1 ∧ 0 < i2)) 0 (by omega) ?_ (Nat.zero_le _) ⟨by simp only [go_sem, Int.reduceLT, Int.reduceLE, Int.reduceNeg, Int.reduceEq, Nat.reduceAdd, Nat.reduceEqDiff, Nat.reduceLeDiff, Nat.reduceBEq, reduceIte, reduceCtorEq], .inl ⟨rfl, by simp only [go_sem, Int.reduceLT, Int.reduceLE, Int.reduceNeg, Int.reduceEq, Nat.reduceAdd, Nat.reduceEqDiff, Nat.reduceLeDiff, Nat.reduceBEq, reduceIte, reduceCtorEq], by simp only [go_sem, Int.reduceLT, Int.reduceLE, Int.reduceNeg, Int.reduceEq, Nat.reduceAdd, Nat.reduceEqDiff, Nat.reduceLeDiff, Nat.reduceBEq, reduceIte, reduceCtorEq]⟩⟩ ?_
  · simp only [go_sem, Int.reduceLT, Int.reduceLE, Int.reduceNeg, Int.reduceEq, Nat.reduceAdd, Nat.reduceEqDiff, Nat.reduceLeDiff, Nat.reduceBEq, reduceIte, reduceCtorEq]; rfl
  intro i t h nx hf hi0 hi h5 hj
  obtain ⟨hh0, hj⟩ := hj
  dsimp only at hh0 hj
  have h1 := hf 1 rfl; simp only [PT.get_set, Nat.reduceEqDiff, if_true, if_false, reduceIte, PT.get_leaf] at h1
  clear hf
  have hfirst := first_res (p.rooms.map fun x => x.name) (p.rooms.map ok) (by simp) (by simpa using hl) 24
  rw [goodL_map, List.map_map, List.map_map] at hfirst
  obtain ⟨q, hq, k, rfl, hk⟩ := hfirst
  rcases Nat.lt_or_ge i p.rooms.length with hlt | hge
  · obtain ⟨x, hx, _, htk⟩ := get_dec (l := p.rooms) (i := i) (by simpa using hlt)
    have hm : x ∈ p.rooms := List.mem_of_getElem? hx
    have hdl : decide ((i : Int) < (p.rooms.length : Int)) = true := by simpa using hlt
    rcases hj with ⟨hi00, h3, h4⟩ | ⟨i1, i2, h3, h4, g1, g2, l1, l2, n12, p1, p2⟩
    · repeat' (first | simp only [go_sem, Int.reduceLT, Int.reduceLE, Int.reduceNeg, Int.reduceEq, Nat.reduceAdd, Nat.reduceEqDiff, Nat.reduceLeDiff, Nat.reduceBEq, reduceIte, reduceCtorEq, h1, h3, h4, h5, hh0, hx, hdl, q_ref11_Right, hok x hm, bldS_one one1_s, app_nil_one one1_s] | (with_reducible first | apply c1 | (first | apply c2 | apply c3) <;> (intro hc; simp only [hc]) | (first | apply c4 | apply c5) <;> (intro hc; rw [hc])))
      · rfl
      · simp [nqs, quietL, nqP, nqA, clash, meets]
      · have e1 : p.rooms.take (i + 1) = [x] := by rw [htk, hi00]; rfl
        refine ⟨hlt, .inr ⟨nx + 13, nx + 24, by rw [e1]; rfl, by rw [e1]; rfl, by simp, by simp, by omega, by omega, by omega, by omega, by omega⟩⟩
    · repeat' (first | simp only [go_sem, Int.reduceLT, Int.reduceLE, Int.reduceNeg, Int.reduceEq, Nat.reduceAdd, Nat.reduceEqDiff, Nat.reduceLeDiff, Nat.reduceBEq, reduceIte, reduceCtorEq, h1, h3, h4, h5, hh0, hx, hdl, q_ref11_Right, hok x hm, bldS_one one1_s, app_ow_one (l := (p.rooms.take i).map fun x => PDV.s (.string x.name)) (b := 16) (i := i1) (hv := one1_s) (hb := by simp; omega), app_ow_one (l := (p.rooms.take i).map fun x => B (ok x)) (b := 1) (i := i2) (hv := one1_s) (hb := by simp; omega), g1, g2, show ¬ nx + 12 = i1 by omega, show ¬ nx + 13 = i1 by omega, show ¬ nx + 23 = i1 by omega, show ¬ nx + 24 = i1 by omega, show ¬ nx + 12 = i2 by omega, show ¬ nx + 13 = i2 by omega, show ¬ nx + 23 = i2 by omega, show ¬ nx + 24 = i2 by omega, show ¬ i1 = i2 from n12, show ¬ i1 = 0 by omega, show ¬ i2 = 0 by omega] | (with_reducible first | apply c1 | (first | apply c2 | apply c3) <;> (intro hc; simp only [hc]) | (first | apply c4 | apply c5) <;> (intro hc; rw [hc])))
      · rfl
      · simp [nqs, quietL, nqP, nqA, clash, meets]
        (repeat' apply And.intro) <;> first | omega | (right; (repeat' apply And.intro) <;> omega) | (left; rfl)
      · refine ⟨hlt, .inr ⟨nx + 13, nx + 24, by rw [htk]; simp, by rw [htk]; simp, by simp; try omega, by simp; try omega, by omega, by omega, by omega, by omega, by omega⟩⟩
  · have he : p.rooms.take i = p.rooms := List.take_of_length_le hge
    have hdl : decide ((i : Int) < (p.rooms.length : Int)) = false := by simpa using hge
    rcases hj with ⟨hi00, h3, h4⟩ | ⟨i1, i2, h3, h4, g1, g2, l1, l2, n12, p1, p2⟩
    · have hz : p.rooms = [] := List.eq_nil_of_length_eq_zero (by omega)
      have hq' : res Tryz.prog G0 236 [.lst [], .lst [], .s (.int .i64 24)] = some (I k) := by rw [hz] at hq; exact hq
      repeat' (first | simp only [go_sem, Int.reduceLT, Int.reduceLE, Int.reduceNeg, Int.reduceEq, Nat.reduceAdd, Nat.reduceEqDiff, Nat.reduceLeDiff, Nat.reduceBEq, reduceIte, reduceCtorEq, h1, h3, h4, h5, hh0, hdl, q_ref17_first, hq'] | (with_reducible first | apply c1 | (first | apply c2 | apply c3) <;> (intro hc; simp only [hc]) | (first | apply c4 | apply c5) <;> (intro hc; rw [hc])))
      exact ⟨k, rfl, hk⟩
    · rw [he] at h3 h4
      have hq' : res Tryz.prog G0 236 [.lst (p.rooms.map fun x => PDV.s (.string x.name)), .lst (p.rooms.map fun x => B (ok x)), .s (.int .i64 24)] = some (I k) := hq
      repeat' (first | simp only [go_sem, Int.reduceLT, Int.reduceLE, Int.reduceNeg, Int.reduceEq, Nat.reduceAdd, Nat.reduceEqDiff, Nat.reduceLeDiff, Nat.reduceBEq, reduceIte, reduceCtorEq, h1, h3, h4, h5, hh0, hdl, q_ref17_first, hq'] | (with_reducible first | apply c1 | (first | apply c2 | apply c3) <;> (intro hc; simp only [hc]) | (first | apply c4 | apply c5) <;> (intro hc; rw [hc])))
      exact ⟨k, rfl, hk⟩
def m_ref17_persons : MF := ⟨36, (.seq (.reg none [Oo 1 (.box (.t 0)), Oo 2 (.mov (.d (Ci 0)))]) (.seq (.reg none [Oo 3 (.mov (.d .nil))]) (.seq (.reg none [Oo 4 (.mov (.d .nil))]) (.seq (.seq (.reg none [Oo 5 (.mov (.d (Ci 0)))]) (.block 0 (.loop (.seq (.seq (.reg none [Om 6 5, Of 7 6 1, Ol 8 7, Ok 9 8, Oo 10 (.iop .lss (.t 6) (.t 9))]) (.cond (.t 10) .skip (.exit 0))) (.seq (.block 1 (.reg (some #[0, 0, 2, 0, 14, 30, 62, 126, 255, 0, 0, 1024, 0, 4096, 0, 28672, 61440, 130559, 261631, 524287, 1048575, 2097151]) [Om 13 3, Of 14 6 1, Ol 15 14, Om 16 5, Oo 17 (.iadrS 2 (.t 15) (.t 16)), Of 18 0 17, Ol 19 18, Oo 20 (.bldS false none 1 [.t 19]), Oo 21 (.app false none 16 (.t 13) (.t 20)), Om 22 4, Of 23 1 1, Oo 24 (.load true 3 (.t 23)), Of 25 6 1, Ol 26 25, Om 27 5, Oo 28 (.iadrS 2 (.t 26) (.t 27)), Oo 29 (.load true 2 (.t 28)), Oo 30 (.call 237 [.t 24, .t 29]), Oo 31 (.bldS false none 1 [.t 30]), Oo 32 (.app false none 1 (.t 22) (.t 31)), Om 3 21, Om 4 32])) (.reg none [Om 11 5, Oo 12 (.iop .add (.t 11) (.d (Ci 1))), Om 5 12])))))) (.seq (.reg none [Om 33 3, Om 34 4, Oo 35 (.call 236 [.t 33, .t 34, (.d (Ci 24))]), Om 2 35]) .ret))))), [.tmp 2]⟩
theorem c_ref17_persons : comp Tryz.prog G0 193 = some m_ref17_persons := by kernel_rfl
theorem q_ref17_persons : Q0 193 := mCall_pure rfl
theorem rpersons_res (p : VProblem) (hl : p.persons.length ≤ 1048576) (ok : VPerson → Bool) (hok : ∀ x ∈ p.persons, res Tryz.prog G0 237 [p.grid.P, x.P] = some (B (ok x))) : ∃ q, res Tryz.prog G0 193 [p.P] = some q ∧ ∃ k : Int, q = I k ∧ decide (0 ≤ k) = !goodB 24 ok (fun x => x.name) p.persons := by
  refine res_ex c_ref17_persons (Nat.le_of_ble_eq_true rfl) ?_
  simp only [m_ref17_persons, Oo, Ou, Og, Ci, Om, Of, Ol, Ok]
  repeat' (first | simp only [go_sem, Int.reduceLT, Int.reduceLE, Int.reduceNeg, Int.reduceEq, Nat.reduceAdd, Nat.reduceEqDiff, Nat.reduceLeDiff, Nat.reduceBEq, reduceIte, reduceCtorEq] | (with_reducible first | apply c1 | (first | apply c2 | apply c3) <;> (intro hc; simp only [hc]) | (first | apply c4 | apply c5) <;> (intro hc; rw [hc])))
  refine X_for 5 p.persons.length (fun i s => s.h.get 0 = some (.cells (DV.cells (.p p.P)) false) ∧ ((i = 0 ∧ s.t.get 3 = some .nil ∧ s.t.get 4 = some .nil) ∨ ∃ i1 i2, s.t.get 3 = some (.ow i1 ((p.persons.take i).map fun x => PDV.s (.string x.name))) ∧ s.t.get 4 = some (.ow i2 ((p.persons.take i).map fun x => B (ok x))) ∧ s.h.get i1 = some (.tip 1) ∧ s.h.get i2 = some (.tip 1) ∧ i1 < s.nx ∧ i2 < s.nx ∧ i1 ≠ i2 ∧ 0 < i1 ∧ 0 < i2)) 0 (by omega) ?_ (Nat.zero_le _) ⟨by simp only [go_sem, Int.reduceLT, Int.reduceLE, Int.reduceNeg, Int.reduceEq, Nat.reduceAdd, Nat.reduceEqDiff, Nat.reduceLeDiff, Nat.reduceBEq, reduceIte, reduceCtorEq], .inl ⟨rfl, by simp only [go_sem, Int.reduceLT, Int.reduceLE, Int.reduceNeg, Int.reduceEq, Nat.reduceAdd, Nat.reduceEqDiff, Nat.reduceLeDiff, Nat.reduceBEq, reduceIte, reduceCtorEq], by simp only [go_sem, Int.reduceLT, Int.reduceLE, Int.reduceNeg, Int.reduceEq, Nat.reduceAdd, Nat.reduceEqDiff, Nat.reduceLeDiff, Nat.reduceBEq, reduceIte, reduceCtorEq]⟩⟩ ?_
  · simp only [go_sem, Int.reduceLT, Int.reduceLE, Int.reduceNeg, Int.reduceEq, Nat.reduceAdd, Nat.reduceEqDiff, Nat.reduceLeDiff, Nat.reduceBEq, reduceIte, reduceCtorEq]; rfl
  intro i t h nx hf hi0 hi h5 hj
  obtain ⟨hh0, hj⟩ := hj
  dsimp only at hh0 hj
  have h1 := hf 1 rfl; simp only [PT.get_set, Nat.reduceEqDiff, if_true, if_false, reduceIte, PT.get_leaf] at h1
  clear hf
  have hfirst := first_res (p.persons.map fun x => x.name) (p.persons.map ok) (by simp) (by simpa using hl) 24
  rw [goodL_map, List.map_map, List.map_map] at hfirst
  obtain ⟨q, hq, k, rfl, hk⟩ := hfirst
  rcases Nat.lt_or_ge i p.persons.length with hlt | hge
  · obtain ⟨x, hx, _, htk⟩ := get_dec (l := p.persons) (i := i) (by simpa using hlt)
    have hm : x ∈ p.persons := List.mem_of_getElem? hx
    have hdl : decide ((i : Int) < (p.persons.length : Int)) = true := by simpa using hlt
    rcases hj with ⟨hi00, h3, h4⟩ | ⟨i1, i2, h3, h4, g1, g2, l1, l2, n12, p1, p2⟩
    · repeat' (first | simp only [go_sem, Int.reduceLT, Int.reduceLE, Int.reduceNeg, Int.reduceEq, Nat.reduceAdd, Nat.reduceEqDiff, Nat.reduceLeDiff, Nat.reduceBEq, reduceIte, reduceCtorEq, h1, h3, h4, h5, hh0, hx, hdl, q_ref12_Right, hok x hm, bldS_one one1_s, app_nil_one one1_s] | (with_reducible first | apply c1 | (first | apply c2 | apply c3) <;> (intro hc; simp only [hc]) | (first | apply c4 | apply c5) <;> (intro hc; rw [hc])))
      · rfl
      · simp [nqs, quietL, nqP, nqA, clash, meets]
      · have e1 : p.persons.take (i + 1) = [x] := by rw [htk, hi00]; rfl
        refine ⟨hlt, .inr ⟨nx + 13, nx + 24, by rw [e1]; rfl, by rw [e1]; rfl, by simp, by simp, by omega, by omega, by omega, by omega, by omega⟩⟩
    · repeat' (first | simp only [go_sem, Int.reduceLT, Int.reduceLE, Int.reduceNeg, Int.reduceEq, Nat.reduceAdd, Nat.reduceEqDiff, Nat.reduceLeDiff, Nat.reduceBEq, reduceIte, reduceCtorEq, h1, h3, h4, h5, hh0, hx, hdl, q_ref12_Right, hok x hm, bldS_one one1_s, app_ow_one (l := (p.persons.take i).map fun x => PDV.s (.string x.name)) (b := 16) (i := i1) (hv := one1_s) (hb := by simp; omega), app_ow_one (l := (p.persons.take i).map fun x => B (ok x)) (b := 1) (i := i2) (hv := one1_s) (hb := by simp; omega), g1, g2, show ¬ nx + 12 = i1 by omega, show ¬ nx + 13 = i1 by omega, show ¬ nx + 23 = i1 by omega, show ¬ nx + 24 = i1 by omega, show ¬ nx + 12 = i2 by omega, show ¬ nx + 13 = i2 by omega, show ¬ nx + 23 = i2 by omega, show ¬ nx + 24 = i2 by omega, show ¬ i1 = i2 from n12, show ¬ i1 = 0 by omega, show ¬ i2 = 0 by omega] | (with_reducible first | apply c1 | (first | apply c2 | apply c3) <;> (intro hc; simp only [hc]) | (first | apply c4 | apply c5) <;> (intro hc; rw [hc])))
      · rfl
      · simp [nqs, quietL, nqP, nqA, clash, meets]
        (repeat' apply And.intro) <;> first | omega | (right; (repeat' apply And.intro) <;> omega) | (left; rfl)
      · refine ⟨hlt, .inr ⟨nx + 13, nx + 24, by rw [htk]; simp, by rw [htk]; simp, by simp; try omega, by simp; try omega, by omega, by omega, by omega, by omega, by omega⟩⟩
  · have he : p.persons.take i = p.persons := List.take_of_length_le hge
    have hdl : decide ((i : Int) < (p.persons.length : Int)) = false := by simpa using hge
    rcases hj with ⟨hi00, h3, h4⟩ | ⟨i1, i2, h3, h4, g1, g2, l1, l2, n12, p1, p2⟩
    · have hz : p.persons = [] := List.eq_nil_of_length_eq_zero (by omega)
      have hq' : res Tryz.prog G0 236 [.lst [], .lst [], .s (.int .i64 24)] = some (I k) := by rw [hz] at hq; exact hq
      repeat' (first | simp only [go_sem, Int.reduceLT, Int.reduceLE, Int.reduceNeg, Int.reduceEq, Nat.reduceAdd, Nat.reduceEqDiff, Nat.reduceLeDiff, Nat.reduceBEq, reduceIte, reduceCtorEq, h1, h3, h4, h5, hh0, hdl, q_ref17_first, hq'] | (with_reducible first | apply c1 | (first | apply c2 | apply c3) <;> (intro hc; simp only [hc]) | (first | apply c4 | apply c5) <;> (intro hc; rw [hc])))
      exact ⟨k, rfl, hk⟩
    · rw [he] at h3 h4
      have hq' : res Tryz.prog G0 236 [.lst (p.persons.map fun x => PDV.s (.string x.name)), .lst (p.persons.map fun x => B (ok x)), .s (.int .i64 24)] = some (I k) := hq
      repeat' (first | simp only [go_sem, Int.reduceLT, Int.reduceLE, Int.reduceNeg, Int.reduceEq, Nat.reduceAdd, Nat.reduceEqDiff, Nat.reduceLeDiff, Nat.reduceBEq, reduceIte, reduceCtorEq, h1, h3, h4, h5, hh0, hdl, q_ref17_first, hq'] | (with_reducible first | apply c1 | (first | apply c2 | apply c3) <;> (intro hc; simp only [hc]) | (first | apply c4 | apply c5) <;> (intro hc; rw [hc])))
      exact ⟨k, rfl, hk⟩
def m_ref13_Right : MF := ⟨63, (.seq (.reg none [Oo 5 (.box (.t 0)), Oo 9 (.box (.t 4)), Oo 10 (.mov (.d (.p (.s (.bool false)))))]) (.seq (.reg none [Oo 11 (.load true 3 (.t 5)), Oo 12 (.call 190 [.t 11]), Om 13 12, Og 14 13 true (.fadr 0 (.t 9)), Og 15 13 true (.load false 1 (.t 14)), Og 16 13 true (.call 189 [.t 15]), Oo 17 (.pick (.t 13) (.t 16) (.d (.p (.s (.bool false))))), Om 18 17, Og 19 18 true (.fadr 1 (.t 9)), Og 20 18 true (.load false 1 (.t 19)), Og 21 18 true (.iop .geq (.t 20) (.d (Ci 0))), Oo 22 (.pick (.t 18) (.t 21) (.d (.p (.s (.bool false))))), Om 23 22, Og 24 23 true (.fadr 1 (.t 9)), Og 25 23 true (.load false 1 (.t 24)), Og 26 23 true (.iop .leq (.t 25) (.d (Ci 10000))), Oo 27 (.pick (.t 23) (.t 26) (.d (.p (.s (.bool false))))), Om 28 27, Og 29 28 true (.fadr 3 (.t 9)), Og 30 28 true (.load false 1 (.t 29)), Og 31 28 true (.lenL (.t 30)), Og 32 28 true (.iop .leq (.t 31) (.d (Ci 4))), Oo 33 (.pick (.t 28) (.t 32) (.d (.p (.s (.bool false))))), Om 34 33, Og 35 34 true (.fadr 3 (.t 9)), Og 36 34 true (.load false 1 (.t 35)), Og 37 34 true (.mov (.t 2)), Og 38 34 true (.call 233 [.t 36, .t 37]), Oo 39 (.pick (.t 34) (.t 38) (.d (.p (.s (.bool false))))), Om 40 39, Og 41 40 true (.load true 3 (.t 5)), Og 42 40 true (.fadr 4 (.t 9)), Og 43 40 true (.load false 1 (.t 42)), Og 44 40 true (.call 260 [.t 41, .t 43]), Oo 45 (.pick (.t 40) (.t 44) (.d (.p (.s (.bool false))))), Om 46 45, Og 47 46 true (.mov (.t 1)), Og 48 46 true (.fadr 5 (.t 9)), Og 49 46 true (.load false 1 (.t 48)), Og 50 46 true (.call 261 [.t 47, .t 49]), Oo 51 (.pick (.t 46) (.t 50) (.d (.p (.s (.bool false))))), Om 52 51, Og 53 52 true (.fadr 6 (.t 9)), Og 54 52 true (.load false 1 (.t 53)), Og 55 52 true (.iop .geq (.t 54) (.d (Ci (-1)))), Oo 56 (.pick (.t 52) (.t 55) (.d (.p (.s (.bool false))))), Om 57 56, Og 58 57 true (.fadr 6 (.t 9)), Og 59 57 true (.load false 1 (.t 58)), Og 60 57 true (.mov (.t 3)), Og 61 57 true (.iop .lss (.t 59) (.t 60)), Oo 62 (.pick (.t 57) (.t 61) (.d (.p (.s (.bool false))))), Om 10 62]) .ret)), [.tmp 10]⟩
theorem c_ref13_Right : comp Tryz.prog G0 238 = some m_ref13_Right := by kernel_rfl
theorem q_ref13_Right : Q0 238 := mCall_pure rfl
def m_ref14_Right : MF := ⟨90, (.seq (.reg none [Oo 3 (.box (.t 1)), Oo 4 (.mov (.d (.p (.s (.bool false)))))]) (.seq (.seq (.reg none [Of 11 0 3, Ol 12 11, Oo 13 (.call 189 [.t 12]), Oo 14 (.un .not (.t 13)), Om 15 14, Og 16 15 false (.fadr 1 (.t 3)), Og 17 15 false (.load false 1 (.t 16)), Og 18 15 false (.lenL (.t 17)), Og 19 15 false (.iop .lss (.t 18) (.d (Ci 1))), Oo 20 (.pick (.t 15) (.d (.p (.s (.bool true)))) (.t 19)), Om 21 20, Og 22 21 false (.fadr 1 (.t 3)), Og 23 21 false (.load false 1 (.t 22)), Og 24 21 false (.lenL (.t 23)), Og 25 21 false (.iop .gtr (.t 24) (.d (Ci 4))), Oo 26 (.pick (.t 21) (.d (.p (.s (.bool true)))) (.t 25))]) (.cond (.t 26) (.seq (.reg none [Oo 4 (.mov (.d (.p (.s (.bool false)))))]) .ret) .skip)) (.seq (.seq (.reg none [Oo 5 (.mov (.d (Ci 0)))]) (.block 0 (.loop (.seq (.seq (.reg none [Om 27 5, Of 28 1 3, Ol 29 28, Ok 30 29, Oo 31 (.iop .lss (.t 27) (.t 30))]) (.cond (.t 31) .skip (.exit 0))) (.seq (.block 1 (.seq (.reg none [Of 34 1 3, Ol 35 34, Om 36 5, Oo 37 (.iadrS 1 (.t 35) (.t 36)), Oo 38 (.load true 1 (.t 37)), Oo 6 (.alloc [.nil]), Ou (.store 1 (.t 6) (.t 38))]) (.seq (.seq (.reg none [Of 39 0 6, Ol 40 39, Ok 41 40, Oo 42 (.iop .lss (.t 41) (.d (Ci 1))), Om 43 42, Og 44 43 false (.fadr 0 (.t 6)), Og 45 43 false (.load false 1 (.t 44)), Og 46 43 false (.lenL (.t 45)), Og 47 43 false (.iop .gtr (.t 46) (.d (Ci 4))), Oo 48 (.pick (.t 43) (.d (.p (.s (.bool true)))) (.t 47))]) (.cond (.t 48) (.seq (.reg none [Oo 4 (.mov (.d (.p (.s (.bool false)))))]) .ret) .skip)) (.seq (.reg none [Oo 7 (.mov (.d .nil))]) (.seq (.reg none [Oo 8 (.mov (.d (Ci 0)))]) (.block 2 (.loop (.seq (.seq (.reg none [Om 49 8, Of 50 0 6, Ol 51 50, Ok 52 51, Oo 53 (.iop .lss (.t 49) (.t 52))]) (.cond (.t 53) .skip (.exit 2))) (.seq (.block 3 (.seq (.reg none [Of 56 0 6, Ol 57 56, Om 58 8, Oo 59 (.iadrS 1 (.t 57) (.t 58)), Ol 60 59, Om 9 60]) (.seq (.seq (.reg none [Om 61 9, Ok 62 61, Oo 63 (.iop .lss (.t 62) (.d (Ci 1))), Om 64 63, Og 65 64 false (.mov (.t 9)), Og 66 64 false (.lenL (.t 65)), Og 67 64 false (.iop .gtr (.t 66) (.d (Ci 8))), Oo 68 (.pick (.t 64) (.d (.p (.s (.bool true)))) (.t 67)), Om 69 68, Og 70 69 false (.mov (.t 9)), Og 71 69 false (.mov (.t 0)), Og 72 69 false (.call 233 [.t 70, .t 71]), Og 73 69 false (.un .not (.t 72)), Oo 74 (.pick (.t 69) (.d (.p (.s (.bool true)))) (.t 73))]) (.cond (.t 74) (.seq (.reg none [Oo 4 (.mov (.d (.p (.s (.bool false)))))]) .ret) .skip)) (.seq (.seq (.reg none [Oo 10 (.mov (.d (Ci 0)))]) (.block 4 (.loop (.seq (.seq (.reg none [Om 75 10, Om 76 9, Ok 77 76, Oo 78 (.iop .lss (.t 75) (.t 77))]) (.cond (.t 78) .skip (.exit 4))) (.seq (.block 5 (.seq (.reg none [Om 81 7, Om 82 9, Om 83 10, Oo 84 (.iadrS 1 (.t 82) (.t 83)), Ol 85 84, Oo 86 (.call 41 [.t 81, .t 85])]) (.cond (.t 86) (.seq (.reg none [Oo 4 (.mov (.d (.p (.s (.bool false)))))]) .ret) .skip))) (.reg none [Om 79 10, Oo 80 (.iop .add (.t 79) (.d (Ci 1))), Om 10 80])))))) (.reg none [Om 87 7, Om 88 9, Oo 89 (.app false none 8 (.t 87) (.t 88)), Om 7 89]))))) (.reg none [Om 54 8, Oo 55 (.iop .add (.t 54) (.d (Ci 1))), Om 8 55])))))))))) (.reg none [Om 32 5, Oo 33 (.iop .add (.t 32) (.d (Ci 1))), Om 5 33])))))) (.seq (.reg none [Oo 4 (.mov (.d (.p (.s (.bool true)))))]) .ret)))), [.tmp 4]⟩
theorem c_ref14_Right : comp Tryz.prog G0 181 = some m_ref14_Right := by kernel_rfl
theorem q_ref14_Right : Q0 181 := mCall_pure rfl
def m_ref17_student : MF := ⟨20, (.seq (.reg none [Oo 3 (.box (.t 1)), Oo 4 (.mov (.d (.p (.s (.bool false)))))]) (.seq (.reg none [Of 5 0 3, Ol 6 5, Oo 7 (.call 189 [.t 6]), Om 8 7, Og 9 8 true (.fadr 1 (.t 3)), Og 10 8 true (.load false 1 (.t 9)), Og 11 8 true (.lenL (.t 10)), Og 12 8 true (.iop .leq (.t 11) (.d (Ci 6))), Oo 13 (.pick (.t 8) (.t 12) (.d (.p (.s (.bool false))))), Om 14 13, Og 15 14 true (.fadr 1 (.t 3)), Og 16 14 true (.load false 1 (.t 15)), Og 17 14 true (.mov (.t 0)), Og 18 14 true (.call 233 [.t 16, .t 17]), Oo 19 (.pick (.t 14) (.t 18) (.d (.p (.s (.bool false))))), Om 4 19]) .ret)), [.tmp 4]⟩
theorem c_ref17_student : comp Tryz.prog G0 239 = some m_ref17_student := by kernel_rfl
theorem q_ref17_student : Q0 239 := mCall_pure rfl
def m_ref17_classes : MF := ⟨45, (.seq (.reg none [Oo 1 (.box (.t 0)), Oo 2 (.mov (.d (Ci 0)))]) (.seq (.reg none [Oo 3 (.mov (.d .nil))]) (.seq (.reg none [Oo 4 (.mov (.d .nil))]) (.seq (.seq (.reg none [Oo 5 (.mov (.d (Ci 0)))]) (.block 0 (.loop (.seq (.seq (.reg none [Om 6 5, Of 7 7 1, Ol 8 7, Ok 9 8, Oo 10 (.iop .lss (.t 6) (.t 9))]) (.cond (.t 10) .skip (.exit 0))) (.seq (.block 1 (.reg (some #[0, 0, 2, 0, 14, 30, 62, 126, 255, 0, 0, 1024, 0, 4096, 12288, 0, 32768, 98304, 0, 262144, 786432, 0, 2097152, 0, 14680064, 31457280, 67108351, 134217215, 268435455, 536870911, 1073741823]) [Om 13 3, Of 14 7 1, Ol 15 14, Om 16 5, Oo 17 (.iadrS 7 (.t 15) (.t 16)), Of 18 0 17, Ol 19 18, Oo 20 (.bldS false none 1 [.t 19]), Oo 21 (.app false none 16 (.t 13) (.t 20)), Om 22 4, Of 23 1 1, Oo 24 (.load true 3 (.t 23)), Of 25 4 1, Ol 26 25, Ok 27 26, Of 28 6 1, Ol 29 28, Ok 30 29, Of 31 7 1, Ol 32 31, Ok 33 32, Of 34 7 1, Ol 35 34, Om 36 5, Oo 37 (.iadrS 7 (.t 35) (.t 36)), Oo 38 (.load true 7 (.t 37)), Oo 39 (.call 238 [.t 24, .t 27, .t 30, .t 33, .t 38]), Oo 40 (.bldS false none 1 [.t 39]), Oo 41 (.app false none 1 (.t 22) (.t 40)), Om 3 21, Om 4 41])) (.reg none [Om 11 5, Oo 12 (.iop .add (.t 11) (.d (Ci 1))), Om 5 12])))))) (.seq (.reg none [Om 42 3, Om 43 4, Oo 44 (.call 236 [.t 42, .t 43, (.d (Ci 40))]), Om 2 44]) .ret))))), [.tmp 2]⟩
theorem c_ref17_classes : comp Tryz.prog G0 194 = some m_ref17_classes := by kernel_rfl
theorem q_ref17_classes : Q0 194 := mCall_pure rfl
theorem rclasses_res (p : VProblem) (hl : p.classes.length ≤ 1048576) (ok : VClass → Bool) (hok : ∀ x ∈ p.classes, res Tryz.prog G0 238 [p.grid.P, I (p.rooms.length : Int), I (p.persons.length : Int), I (p.classes.length : Int), x.P] = some (B (ok x))) : ∃ q, res Tryz.prog G0 194 [p.P] = some q ∧ ∃ k : Int, q = I k ∧ decide (0 ≤ k) = !goodB 40 ok (fun x => x.name) p.classes := by
  refine res_ex c_ref17_classes (Nat.le_of_ble_eq_true rfl) ?_
  simp only [m_ref17_classes, Oo, Ou, Og, Ci, Om, Of, Ol, Ok]
  repeat' (first | simp only [go_sem, Int.reduceLT, Int.reduceLE, Int.reduceNeg, Int.reduceEq, Nat.reduceAdd, Nat.reduceEqDiff, Nat.reduceLeDiff, Nat.reduceBEq, reduceIte, reduceCtorEq] | (with_reducible first | apply c1 | (first | apply c2 | apply c3) <;> (intro hc; simp only [hc]) | (first | apply c4 | apply c5) <;> (intro hc; rw [hc])))
  refine X_for 5 p.classes.length (fun i s => s.h.get 0 = some (.cells (DV.cells (.p p.P)) false) ∧ ((i = 0 ∧ s.t.get 3 = some .nil ∧ s.t.get 4 = some .nil) ∨ ∃ i1 i2, s.t.get 3 = some (.ow i1 ((p.classes.take i).map fun x => PDV.s (.string x.name))) ∧ s.t.get 4 = some (.ow i2 ((p.classes.take i).map fun x => B (ok x))) ∧ s.h.get i1 = some (.tip 1) ∧ s.h.get i2 = some (.tip 1) ∧ i1 < s.nx ∧ i2 < s.nx ∧ i1 ≠ i2 ∧ 0 < i1 ∧ 0 < i2)) 0 (by omega) ?_ (Nat.zero_le _) ⟨by simp only [go_sem, Int.reduceLT, Int.reduceLE, Int.reduceNeg, Int.reduceEq, Nat.reduceAdd, Nat.reduceEqDiff, Nat.reduceLeDiff, Nat.reduceBEq, reduceIte, reduceCtorEq], .inl ⟨rfl, by simp only [go_sem, Int.reduceLT, Int.reduceLE, Int.reduceNeg, Int.reduceEq, Nat.reduceAdd, Nat.reduceEqDiff, Nat.reduceLeDiff, Nat.reduceBEq, reduceIte, reduceCtorEq], by simp only [go_sem, Int.reduceLT, Int.reduceLE, Int.reduceNeg, Int.reduceEq, Nat.reduceAdd, Nat.reduceEqDiff, Nat.reduceLeDiff, Nat.reduceBEq, reduceIte, reduceCtorEq]⟩⟩ ?_
  · simp only [go_sem, Int.reduceLT, Int.reduceLE, Int.reduceNeg, Int.reduceEq, Nat.reduceAdd, Nat.reduceEqDiff, Nat.reduceLeDiff, Nat.reduceBEq, reduceIte, reduceCtorEq]; rfl
  intro i t h nx hf hi0 hi h5 hj
  obtain ⟨hh0, hj⟩ := hj
  dsimp only at hh0 hj
  have h1 := hf 1 rfl; simp only [PT.get_set, Nat.reduceEqDiff, if_true, if_false, reduceIte, PT.get_leaf] at h1
  clear hf
  have hfirst := first_res (p.classes.map fun x => x.name) (p.classes.map ok) (by simp) (by simpa using hl) 40
  rw [goodL_map, List.map_map, List.map_map] at hfirst
  obtain ⟨q, hq, k, rfl, hk⟩ := hfirst
  rcases Nat.lt_or_ge i p.classes.length with hlt | hge
  · obtain ⟨x, hx, _, htk⟩ := get_dec (l := p.classes) (i := i) (by simpa using hlt)
    have hm : x ∈ p.classes := List.mem_of_getElem? hx
    have hdl : decide ((i : Int) < (p.classes.length : Int)) = true := by simpa using hlt
    rcases hj with ⟨hi00, h3, h4⟩ | ⟨i1, i2, h3, h4, g1, g2, l1, l2, n12, p1, p2⟩
    · repeat' (first | simp only [go_sem, Int.reduceLT, Int.reduceLE, Int.reduceNeg, Int.reduceEq, Nat.reduceAdd, Nat.reduceEqDiff, Nat.reduceLeDiff, Nat.reduceBEq, reduceIte, reduceCtorEq, h1, h3, h4, h5, hh0, hx, hdl, q_ref13_Right, hok x hm, bldS_one one1_s, app_nil_one one1_s] | (with_reducible first | apply c1 | (first | apply c2 | apply c3) <;> (intro hc; simp only [hc]) | (first | apply c4 | apply c5) <;> (intro hc; rw [hc])))
      · rfl
      · simp [nqs, quietL, nqP, nqA, clash, meets]
      · have e1 : p.classes.take (i + 1) = [x] := by rw [htk, hi00]; rfl
        refine ⟨hlt, .inr ⟨nx + 13, nx + 33, by rw [e1]; rfl, by rw [e1]; rfl, by simp, by simp, by omega, by omega, by omega, by omega, by omega⟩⟩
    · repeat' (first | simp only [go_sem, Int.reduceLT, Int.reduceLE, Int.reduceNeg, Int.reduceEq, Nat.reduceAdd, Nat.reduceEqDiff, Nat.reduceLeDiff, Nat.reduceBEq, reduceIte, reduceCtorEq, h1, h3, h4, h5, hh0, hx, hdl, q_ref13_Right, hok x hm, bldS_one one1_s, app_ow_one (l := (p.classes.take i).map fun x => PDV.s (.string x.name)) (b := 16) (i := i1) (hv := one1_s) (hb := by simp; omega), app_ow_one (l := (p.classes.take i).map fun x => B (ok x)) (b := 1) (i := i2) (hv := one1_s) (hb := by simp; omega), g1, g2, show ¬ nx + 12 = i1 by omega, show ¬ nx + 13 = i1 by omega, show ¬ nx + 32 = i1 by omega, show ¬ nx + 33 = i1 by omega, show ¬ nx + 12 = i2 by omega, show ¬ nx + 13 = i2 by omega, show ¬ nx + 32 = i2 by omega, show ¬ nx + 33 = i2 by omega, show ¬ i1 = i2 from n12, show ¬ i1 = 0 by omega, show ¬ i2 = 0 by omega] | (with_reducible first | apply c1 | (first | apply c2 | apply c3) <;> (intro hc; simp only [hc]) | (first | apply c4 | apply c5) <;> (intro hc; rw [hc])))
      · rfl
      · simp [nqs, quietL, nqP, nqA, clash, meets]
        (repeat' apply And.intro) <;> first | omega | (right; (repeat' apply And.intro) <;> omega) | (left; rfl)
      · refine ⟨hlt, .inr ⟨nx + 13, nx + 33, by rw [htk]; simp, by rw [htk]; simp, by simp; try omega, by simp; try omega, by omega, by omega, by omega, by omega, by omega⟩⟩
  · have he : p.classes.take i = p.classes := List.take_of_length_le hge
    have hdl : decide ((i : Int) < (p.classes.length : Int)) = false := by simpa using hge
    rcases hj with ⟨hi00, h3, h4⟩ | ⟨i1, i2, h3, h4, g1, g2, l1, l2, n12, p1, p2⟩
    · have hz : p.classes = [] := List.eq_nil_of_length_eq_zero (by omega)
      have hq' : res Tryz.prog G0 236 [.lst [], .lst [], .s (.int .i64 40)] = some (I k) := by rw [hz] at hq; exact hq
      repeat' (first | simp only [go_sem, Int.reduceLT, Int.reduceLE, Int.reduceNeg, Int.reduceEq, Nat.reduceAdd, Nat.reduceEqDiff, Nat.reduceLeDiff, Nat.reduceBEq, reduceIte, reduceCtorEq, h1, h3, h4, h5, hh0, hdl, q_ref17_first, hq'] | (with_reducible first | apply c1 | (first | apply c2 | apply c3) <;> (intro hc; simp only [hc]) | (first | apply c4 | apply c5) <;> (intro hc; rw [hc])))
      exact ⟨k, rfl, hk⟩
    · rw [he] at h3 h4
      have hq' : res Tryz.prog G0 236 [.lst (p.classes.map fun x => PDV.s (.string x.name)), .lst (p.classes.map fun x => B (ok x)), .s (.int .i64 40)] = some (I k) := hq
      repeat' (first | simp only [go_sem, Int.reduceLT, Int.reduceLE, Int.reduceNeg, Int.reduceEq, Nat.reduceAdd, Nat.reduceEqDiff, Nat.reduceLeDiff, Nat.reduceBEq, reduceIte, reduceCtorEq, h1, h3, h4, h5, hh0, hdl, q_ref17_first, hq'] | (with_reducible first | apply c1 | (first | apply c2 | apply c3) <;> (intro hc; simp only [hc]) | (first | apply c4 | apply c5) <;> (intro hc; rw [hc])))
      exact ⟨k, rfl, hk⟩
def m_ref17_courses : MF := ⟨37, (.seq (.reg none [Oo 1 (.box (.t 0)), Oo 2 (.mov (.d (Ci 0)))]) (.seq (.reg none [Oo 3 (.mov (.d .nil))]) (.seq (.reg none [Oo 4 (.mov (.d .nil))]) (.seq (.seq (.reg none [Oo 5 (.mov (.d (Ci 0)))]) (.block 0 (.loop (.seq (.seq (.reg none [Om 6 5, Of 7 8 1, Ol 8 7, Ok 9 8, Oo 10 (.iop .lss (.t 6) (.t 9))]) (.cond (.t 10) .skip (.exit 0))) (.seq (.block 1 (.reg (some #[0, 0, 2, 0, 14, 30, 62, 126, 255, 0, 0, 1024, 3072, 0, 8192, 0, 57344, 122880, 261631, 523775, 1048575, 2097151, 4194303]) [Om 13 3, Of 14 8 1, Ol 15 14, Om 16 5, Oo 17 (.iadrS 2 (.t 15) (.t 16)), Of 18 0 17, Ol 19 18, Oo 20 (.bldS false none 1 [.t 19]), Oo 21 (.app false none 16 (.t 13) (.t 20)), Om 22 4, Of 23 7 1, Ol 24 23, Ok 25 24, Of 26 8 1, Ol 27 26, Om 28 5, Oo 29 (.iadrS 2 (.t 27) (.t 28)), Oo 30 (.load true 2 (.t 29)), Oo 31 (.call 181 [.t 25, .t 30]), Oo 32 (.bldS false none 1 [.t 31]), Oo 33 (.app false none 1 (.t 22) (.t 32)), Om 3 21, Om 4 33])) (.reg none [Om 11 5, Oo 12 (.iop .add (.t 11) (.d (Ci 1))), Om 5 12])))))) (.seq (.reg none [Om 34 3, Om 35 4, Oo 36 (.call 236 [.t 34, .t 35, (.d (Ci 16))]), Om 2 36]) .ret))))), [.tmp 2]⟩
theorem c_ref17_courses : comp Tryz.prog G0 195 = some m_ref17_courses := by kernel_rfl
theorem q_ref17_courses : Q0 195 := mCall_pure rfl
theorem rcourses_res (p : VProblem) (hl : p.courses.length ≤ 1048576) (ok : VCourse → Bool) (hok : ∀ x ∈ p.courses, res Tryz.prog G0 181 [I (p.classes.length : Int), x.P] = some (B (ok x))) : ∃ q, res Tryz.prog G0 195 [p.P] = some q ∧ ∃ k : Int, q = I k ∧ decide (0 ≤ k) = !goodB 16 ok (fun x => x.name) p.courses := by
  refine res_ex c_ref17_courses (Nat.le_of_ble_eq_true rfl) ?_
  simp only [m_ref17_courses, Oo, Ou, Og, Ci, Om, Of, Ol, Ok]
  repeat' (first | simp only [go_sem, Int.reduceLT, Int.reduceLE, Int.reduceNeg, Int.reduceEq, Nat.reduceAdd, Nat.reduceEqDiff, Nat.reduceLeDiff, Nat.reduceBEq, reduceIte, reduceCtorEq] | (with_reducible first | apply c1 | (first | apply c2 | apply c3) <;> (intro hc; simp only [hc]) | (first | apply c4 | apply c5) <;> (intro hc; rw [hc])))
  refine X_for 5 p.courses.length (fun i s => s.h.get 0 = some (.cells (DV.cells (.p p.P)) false) ∧ ((i = 0 ∧ s.t.get 3 = some .nil ∧ s.t.get 4 = some .nil) ∨ ∃ i1 i2, s.t.get 3 = some (.ow i1 ((p.courses.take i).map fun x => PDV.s (.string x.name))) ∧ s.t.get 4 = some (.ow i2 ((p.courses.take i).map fun x => B (ok x))) ∧ s.h.get i1 = some (.tip 1) ∧ s.h.get i2 = some (.tip 1) ∧ i1 < s.nx ∧ i2 < s.nx ∧ i1 ≠ i2 ∧ 0 < i1 ∧ 0 < i2)) 0 (by omega) ?_ (Nat.zero_le _) ⟨by simp only [go_sem, Int.reduceLT, Int.reduceLE, Int.reduceNeg, Int.reduceEq, Nat.reduceAdd, Nat.reduceEqDiff, Nat.reduceLeDiff, Nat.reduceBEq, reduceIte, reduceCtorEq], .inl ⟨rfl, by simp only [go_sem, Int.reduceLT, Int.reduceLE, Int.reduceNeg, Int.reduceEq, Nat.reduceAdd, Nat.reduceEqDiff, Nat.reduceLeDiff, Nat.reduceBEq, reduceIte, reduceCtorEq], by simp only [go_sem, Int.reduceLT, Int.reduceLE, Int.reduceNeg, Int.reduceEq, Nat.reduceAdd, Nat.reduceEqDiff, Nat.reduceLeDiff, Nat.reduceBEq, reduceIte, reduceCtorEq]⟩⟩ ?_
  · simp only [go_sem, Int.reduceLT, Int.reduceLE, Int.reduceNeg, Int.reduceEq, Nat.reduceAdd, Nat.reduceEqDiff, Nat.reduceLeDiff, Nat.reduceBEq, reduceIte, reduceCtorEq]; rfl
  intro i t h nx hf hi0 hi h5 hj
  obtain ⟨hh0, hj⟩ := hj
  dsimp only at hh0 hj
  have h1 := hf 1 rfl; simp only [PT.get_set, Nat.reduceEqDiff, if_true, if_false, reduceIte, PT.get_leaf] at h1
  clear hf
  have hfirst := first_res (p.courses.map fun x => x.name) (p.courses.map ok) (by simp) (by simpa using hl) 16
  rw [goodL_map, List.map_map, List.map_map] at hfirst
  obtain ⟨q, hq, k, rfl, hk⟩ := hfirst
  rcases Nat.lt_or_ge i p.courses.length with hlt | hge
  · obtain ⟨x, hx, _, htk⟩ := get_dec (l := p.courses) (i := i) (by simpa using hlt)
    have hm : x ∈ p.courses := List.mem_of_getElem? hx
    have hdl : decide ((i : Int) < (p.courses.length : Int)) = true := by simpa using hlt
    rcases hj with ⟨hi00, h3, h4⟩ | ⟨i1, i2, h3, h4, g1, g2, l1, l2, n12, p1, p2⟩
    · repeat' (first | simp only [go_sem, Int.reduceLT, Int.reduceLE, Int.reduceNeg, Int.reduceEq, Nat.reduceAdd, Nat.reduceEqDiff, Nat.reduceLeDiff, Nat.reduceBEq, reduceIte, reduceCtorEq, h1, h3, h4, h5, hh0, hx, hdl, q_ref14_Right, hok x hm, bldS_one one1_s, app_nil_one one1_s] | (with_reducible first | apply c1 | (first | apply c2 | apply c3) <;> (intro hc; simp only [hc]) | (first | apply c4 | apply c5) <;> (intro hc; rw [hc])))
      · rfl
      · simp [nqs, quietL, nqP, nqA, clash, meets]
      · have e1 : p.courses.take (i + 1) = [x] := by rw [htk, hi00]; rfl
        refine ⟨hlt, .inr ⟨nx + 13, nx + 25, by rw [e1]; rfl, by rw [e1]; rfl, by simp, by simp, by omega, by omega, by omega, by omega, by omega⟩⟩
    · repeat' (first | simp only [go_sem, Int.reduceLT, Int.reduceLE, Int.reduceNeg, Int.reduceEq, Nat.reduceAdd, Nat.reduceEqDiff, Nat.reduceLeDiff, Nat.reduceBEq, reduceIte, reduceCtorEq, h1, h3, h4, h5, hh0, hx, hdl, q_ref14_Right, hok x hm, bldS_one one1_s, app_ow_one (l := (p.courses.take i).map fun x => PDV.s (.string x.name)) (b := 16) (i := i1) (hv := one1_s) (hb := by simp; omega), app_ow_one (l := (p.courses.take i).map fun x => B (ok x)) (b := 1) (i := i2) (hv := one1_s) (hb := by simp; omega), g1, g2, show ¬ nx + 12 = i1 by omega, show ¬ nx + 13 = i1 by omega, show ¬ nx + 24 = i1 by omega, show ¬ nx + 25 = i1 by omega, show ¬ nx + 12 = i2 by omega, show ¬ nx + 13 = i2 by omega, show ¬ nx + 24 = i2 by omega, show ¬ nx + 25 = i2 by omega, show ¬ i1 = i2 from n12, show ¬ i1 = 0 by omega, show ¬ i2 = 0 by omega] | (with_reducible first | apply c1 | (first | apply c2 | apply c3) <;> (intro hc; simp only [hc]) | (first | apply c4 | apply c5) <;> (intro hc; rw [hc])))
      · rfl
      · simp [nqs, quietL, nqP, nqA, clash, meets]
        (repeat' apply And.intro) <;> first | omega | (right; (repeat' apply And.intro) <;> omega) | (left; rfl)
      · refine ⟨hlt, .inr ⟨nx + 13, nx + 25, by rw [htk]; simp, by rw [htk]; simp, by simp; try omega, by simp; try omega, by omega, by omega, by omega, by omega, by omega⟩⟩
  · have he : p.courses.take i = p.courses := List.take_of_length_le hge
    have hdl : decide ((i : Int) < (p.courses.length : Int)) = false := by simpa using hge
    rcases hj with ⟨hi00, h3, h4⟩ | ⟨i1, i2, h3, h4, g1, g2, l1, l2, n12, p1, p2⟩
    · have hz : p.courses = [] := List.eq_nil_of_length_eq_zero (by omega)
      have hq' : res Tryz.prog G0 236 [.lst [], .lst [], .s (.int .i64 16)] = some (I k) := by rw [hz] at hq; exact hq
      repeat' (first | simp only [go_sem, Int.reduceLT, Int.reduceLE, Int.reduceNeg, Int.reduceEq, Nat.reduceAdd, Nat.reduceEqDiff, Nat.reduceLeDiff, Nat.reduceBEq, reduceIte, reduceCtorEq, h1, h3, h4, h5, hh0, hdl, q_ref17_first, hq'] | (with_reducible first | apply c1 | (first | apply c2 | apply c3) <;> (intro hc; simp only [hc]) | (first | apply c4 | apply c5) <;> (intro hc; rw [hc])))
      exact ⟨k, rfl, hk⟩
    · rw [he] at h3 h4
      have hq' : res Tryz.prog G0 236 [.lst (p.courses.map fun x => PDV.s (.string x.name)), .lst (p.courses.map fun x => B (ok x)), .s (.int .i64 16)] = some (I k) := hq
      repeat' (first | simp only [go_sem, Int.reduceLT, Int.reduceLE, Int.reduceNeg, Int.reduceEq, Nat.reduceAdd, Nat.reduceEqDiff, Nat.reduceLeDiff, Nat.reduceBEq, reduceIte, reduceCtorEq, h1, h3, h4, h5, hh0, hdl, q_ref17_first, hq'] | (with_reducible first | apply c1 | (first | apply c2 | apply c3) <;> (intro hc; simp only [hc]) | (first | apply c4 | apply c5) <;> (intro hc; rw [hc])))
      exact ⟨k, rfl, hk⟩
def m_ref17_students : MF := ⟨37, (.seq (.reg none [Oo 1 (.box (.t 0)), Oo 2 (.mov (.d (Ci 0)))]) (.seq (.reg none [Oo 3 (.mov (.d .nil))]) (.seq (.reg none [Oo 4 (.mov (.d .nil))]) (.seq (.seq (.reg none [Oo 5 (.mov (.d (Ci 0)))]) (.block 0 (.loop (.seq (.seq (.reg none [Om 6 5, Of 7 9 1, Ol 8 7, Ok 9 8, Oo 10 (.iop .lss (.t 6) (.t 9))]) (.cond (.t 10) .skip (.exit 0))) (.seq (.block 1 (.reg (some #[0, 0, 2, 0, 14, 30, 62, 126, 255, 0, 0, 1024, 3072, 0, 8192, 0, 57344, 122880, 261631, 523775, 1048575, 2097151, 4194303]) [Om 13 3, Of 14 9 1, Ol 15 14, Om 16 5, Oo 17 (.iadrS 2 (.t 15) (.t 16)), Of 18 0 17, Ol 19 18, Oo 20 (.bldS false none 1 [.t 19]), Oo 21 (.app false none 16 (.t 13) (.t 20)), Om 22 4, Of 23 8 1, Ol 24 23, Ok 25 24, Of 26 9 1, Ol 27 26, Om 28 5, Oo 29 (.iadrS 2 (.t 27) (.t 28)), Oo 30 (.load true 2 (.t 29)), Oo 31 (.call 239 [.t 25, .t 30]), Oo 32 (.bldS false none 1 [.t 31]), Oo 33 (.app false none 1 (.t 22) (.t 32)), Om 3 21, Om 4 33])) (.reg none [Om 11 5, Oo 12 (.iop .add (.t 11) (.d (Ci 1))), Om 5 12])))))) (.seq (.reg none [Om 34 3, Om 35 4, Oo 36 (.call 236 [.t 34, .t 35, (.d (Ci 200))]), Om 2 36]) .ret))))), [.tmp 2]⟩
theorem c_ref17_students : comp Tryz.prog G0 196 = some m_ref17_students := by kernel_rfl
theorem q_ref17_students : Q0 196 := mCall_pure rfl
theorem rstudents_res (p : VProblem) (hl : p.students.length ≤ 1048576) (ok : VStudent → Bool) (hok : ∀ x ∈ p.students, res Tryz.prog G0 239 [I (p.courses.length : Int), x.P] = some (B (ok x))) : ∃ q, res Tryz.prog G0 196 [p.P] = some q ∧ ∃ k : Int, q = I k ∧ decide (0 ≤ k) = !goodB 200 ok (fun x => x.name) p.students := by
  refine res_ex c_ref17_students (Nat.le_of_ble_eq_true rfl) ?_
  simp only [m_ref17_students, Oo, Ou, Og, Ci, Om, Of, Ol, Ok]
  repeat' (first | simp only [go_sem, Int.reduceLT, Int.reduceLE, Int.reduceNeg, Int.reduceEq, Nat.reduceAdd, Nat.reduceEqDiff, Nat.reduceLeDiff, Nat.reduceBEq, reduceIte, reduceCtorEq] | (with_reducible first | apply c1 | (first | apply c2 | apply c3) <;> (intro hc; simp only [hc]) | (first | apply c4 | apply c5) <;> (intro hc; rw [hc])))
  refine X_for 5 p.students.length (fun i s => s.h.get 0 = some (.cells (DV.cells (.p p.P)) false) ∧ ((i = 0 ∧ s.t.get 3 = some .nil ∧ s.t.get 4 = some .nil) ∨ ∃ i1 i2, s.t.get 3 = some (.ow i1 ((p.students.take i).map fun x => PDV.s (.string x.name))) ∧ s.t.get 4 = some (.ow i2 ((p.students.take i).map fun x => B (ok x))) ∧ s.h.get i1 = some (.tip 1) ∧ s.h.get i2 = some (.tip 1) ∧ i1 < s.nx ∧ i2 < s.nx ∧ i1 ≠ i2 ∧ 0 < i1 ∧ 0 < i2)) 0 (by omega) ?_ (Nat.zero_le _) ⟨by simp only [go_sem, Int.reduceLT, Int.reduceLE, Int.reduceNeg, Int.reduceEq, Nat.reduceAdd, Nat.reduceEqDiff, Nat.reduceLeDiff, Nat.reduceBEq, reduceIte, reduceCtorEq], .inl ⟨rfl, by simp only [go_sem, Int.reduceLT, Int.reduceLE, Int.reduceNeg, Int.reduceEq, Nat.reduceAdd, Nat.reduceEqDiff, Nat.reduceLeDiff, Nat.reduceBEq, reduceIte, reduceCtorEq], by simp only [go_sem, Int.reduceLT, Int.reduceLE, Int.reduceNeg, Int.reduceEq, Nat.reduceAdd, Nat.reduceEqDiff, Nat.reduceLeDiff, Nat.reduceBEq, reduceIte, reduceCtorEq]⟩⟩ ?_
  · simp only [go_sem, Int.reduceLT, Int.reduceLE, Int.reduceNeg, Int.reduceEq, Nat.reduceAdd, Nat.reduceEqDiff, Nat.reduceLeDiff, Nat.reduceBEq, reduceIte, reduceCtorEq]; rfl
  intro i t h nx hf hi0 hi h5 hj
  obtain ⟨hh0, hj⟩ := hj
  dsimp only at hh0 hj
  have h1 := hf 1 rfl; simp only [PT.get_set, Nat.reduceEqDiff, if_true, if_false, reduceIte, PT.get_leaf] at h1
  clear hf
  have hfirst := first_res (p.students.map fun x => x.name) (p.students.map ok) (by simp) (by simpa using hl) 200
  rw [goodL_map, List.map_map, List.map_map] at hfirst
  obtain ⟨q, hq, k, rfl, hk⟩ := hfirst
  rcases Nat.lt_or_ge i p.students.length with hlt | hge
  · obtain ⟨x, hx, _, htk⟩ := get_dec (l := p.students) (i := i) (by simpa using hlt)
    have hm : x ∈ p.students := List.mem_of_getElem? hx
    have hdl : decide ((i : Int) < (p.students.length : Int)) = true := by simpa using hlt
    rcases hj with ⟨hi00, h3, h4⟩ | ⟨i1, i2, h3, h4, g1, g2, l1, l2, n12, p1, p2⟩
    · repeat' (first | simp only [go_sem, Int.reduceLT, Int.reduceLE, Int.reduceNeg, Int.reduceEq, Nat.reduceAdd, Nat.reduceEqDiff, Nat.reduceLeDiff, Nat.reduceBEq, reduceIte, reduceCtorEq, h1, h3, h4, h5, hh0, hx, hdl, q_ref17_student, hok x hm, bldS_one one1_s, app_nil_one one1_s] | (with_reducible first | apply c1 | (first | apply c2 | apply c3) <;> (intro hc; simp only [hc]) | (first | apply c4 | apply c5) <;> (intro hc; rw [hc])))
      · rfl
      · simp [nqs, quietL, nqP, nqA, clash, meets]
      · have e1 : p.students.take (i + 1) = [x] := by rw [htk, hi00]; rfl
        refine ⟨hlt, .inr ⟨nx + 13, nx + 25, by rw [e1]; rfl, by rw [e1]; rfl, by simp, by simp, by omega, by omega, by omega, by omega, by omega⟩⟩
    · repeat' (first | simp only [go_sem, Int.reduceLT, Int.reduceLE, Int.reduceNeg, Int.reduceEq, Nat.reduceAdd, Nat.reduceEqDiff, Nat.reduceLeDiff, Nat.reduceBEq, reduceIte, reduceCtorEq, h1, h3, h4, h5, hh0, hx, hdl, q_ref17_student, hok x hm, bldS_one one1_s, app_ow_one (l := (p.students.take i).map fun x => PDV.s (.string x.name)) (b := 16) (i := i1) (hv := one1_s) (hb := by simp; omega), app_ow_one (l := (p.students.take i).map fun x => B (ok x)) (b := 1) (i := i2) (hv := one1_s) (hb := by simp; omega), g1, g2, show ¬ nx + 12 = i1 by omega, show ¬ nx + 13 = i1 by omega, show ¬ nx + 24 = i1 by omega, show ¬ nx + 25 = i1 by omega, show ¬ nx + 12 = i2 by omega, show ¬ nx + 13 = i2 by omega, show ¬ nx + 24 = i2 by omega, show ¬ nx + 25 = i2 by omega, show ¬ i1 = i2 from n12, show ¬ i1 = 0 by omega, show ¬ i2 = 0 by omega] | (with_reducible first | apply c1 | (first | apply c2 | apply c3) <;> (intro hc; simp only [hc]) | (first | apply c4 | apply c5) <;> (intro hc; rw [hc])))
      · rfl
      · simp [nqs, quietL, nqP, nqA, clash, meets]
        (repeat' apply And.intro) <;> first | omega | (right; (repeat' apply And.intro) <;> omega) | (left; rfl)
      · refine ⟨hlt, .inr ⟨nx + 13, nx + 25, by rw [htk]; simp, by rw [htk]; simp, by simp; try omega, by simp; try omega, by omega, by omega, by omega, by omega, by omega⟩⟩
  · have he : p.students.take i = p.students := List.take_of_length_le hge
    have hdl : decide ((i : Int) < (p.students.length : Int)) = false := by simpa using hge
    rcases hj with ⟨hi00, h3, h4⟩ | ⟨i1, i2, h3, h4, g1, g2, l1, l2, n12, p1, p2⟩
    · have hz : p.students = [] := List.eq_nil_of_length_eq_zero (by omega)
      have hq' : res Tryz.prog G0 236 [.lst [], .lst [], .s (.int .i64 200)] = some (I k) := by rw [hz] at hq; exact hq
      repeat' (first | simp only [go_sem, Int.reduceLT, Int.reduceLE, Int.reduceNeg, Int.reduceEq, Nat.reduceAdd, Nat.reduceEqDiff, Nat.reduceLeDiff, Nat.reduceBEq, reduceIte, reduceCtorEq, h1, h3, h4, h5, hh0, hdl, q_ref17_first, hq'] | (with_reducible first | apply c1 | (first | apply c2 | apply c3) <;> (intro hc; simp only [hc]) | (first | apply c4 | apply c5) <;> (intro hc; rw [hc])))
      exact ⟨k, rfl, hk⟩
    · rw [he] at h3 h4
      have hq' : res Tryz.prog G0 236 [.lst (p.students.map fun x => PDV.s (.string x.name)), .lst (p.students.map fun x => B (ok x)), .s (.int .i64 200)] = some (I k) := hq
      repeat' (first | simp only [go_sem, Int.reduceLT, Int.reduceLE, Int.reduceNeg, Int.reduceEq, Nat.reduceAdd, Nat.reduceEqDiff, Nat.reduceLeDiff, Nat.reduceBEq, reduceIte, reduceCtorEq, h1, h3, h4, h5, hh0, hdl, q_ref17_first, hq'] | (with_reducible first | apply c1 | (first | apply c2 | apply c3) <;> (intro hc; simp only [hc]) | (first | apply c4 | apply c5) <;> (intro hc; rw [hc])))
      exact ⟨k, rfl, hk⟩
end Go.Proofs.YtddmnddocbmjnaaGreat.Dv
