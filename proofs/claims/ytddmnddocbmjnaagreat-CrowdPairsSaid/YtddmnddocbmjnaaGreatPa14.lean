/- Part 14 of the proof: CrowdPairs: whatever plain data comes in, the call returns true and leaves its arguments as they were. No condition. -/
import Derived.Test.YtddmnddocbmjnaaGreatPa13
import Derived.KernelRfl
set_option linter.all false
set_option linter.unusedVariables false
set_option linter.unusedSectionVars false
set_option linter.unusedSimpArgs false
namespace Go.Proofs.YtddmnddocbmjnaaGreat.Dv
def goodB {α : Type} (m : Nat) (ok : α → Bool) (nm : α → ByteArray) (l : List α) : Bool := decide (l.length ≤ m) && l.all ok && nodupB (l.map nm)
theorem goodB_long {α : Type} {m : Nat} {ok : α → Bool} {nm : α → ByteArray} {l : List α} (h : m < l.length) : goodB m ok nm l = false := by
  simp [goodB, Nat.not_le.2 h]
theorem goodB_bad {α : Type} {m : Nat} {ok : α → Bool} {nm : α → ByteArray} {l : List α} {x : α} (hx : x ∈ l) (h : ok x = false) : goodB m ok nm l = false := by
  have : l.all ok = false := by rw [List.all_eq_false]; exact ⟨x, hx, by simp [h]⟩
  simp [goodB, this]
theorem goodB_twice {α : Type} {m : Nat} {ok : α → Bool} {nm : α → ByteArray} {l : List α} {i : Nat} {x : α} (hx : l[i]? = some x) (h : nm x ∈ (l.take i).map nm) : goodB m ok nm l = false := by
  have : ¬ (l.map nm).Nodup := by
    intro hn
    have e : l.map nm = (l.take i).map nm ++ (l.drop i).map nm := by rw [← List.map_append, List.take_append_drop]
    rw [e, List.nodup_append] at hn
    have hd : nm x ∈ (l.drop i).map nm := by
      refine List.mem_map.2 ⟨x, ?_, rfl⟩
      refine List.mem_of_getElem? (i := 0) ?_
      rw [List.getElem?_drop]
      simpa using hx
    exact hn.2.2 _ h _ hd rfl
  have : nodupB (l.map nm) = false := by
    cases hh : nodupB (l.map nm) with
    | false => rfl
    | true => exact absurd (nodupB_iff.1 hh) this
  simp [goodB, this]
theorem goodB_ok {α : Type} {m : Nat} {ok : α → Bool} {nm : α → ByteArray} {l : List α} (h1 : l.length ≤ m) (h2 : ∀ x ∈ l, ok x = true) (h3 : (l.map nm).Nodup) : goodB m ok nm l = true := by
  simp only [goodB, Bool.and_eq_true, decide_eq_true_eq]
  exact ⟨⟨h1, List.all_eq_true.2 h2⟩, nodupB_iff.2 h3⟩
def m_problem_bad_api_Room_ : MF := ⟨48, (.seq (.reg none [Oo 8 (.mov (.d (Ci 0))), Oo 9 (.mov (.d (.p (.s (.bool false)))))]) (.seq (.reg none [Oo 13 .mkm, Om 10 13]) (.seq (.seq (.reg none [Om 14 0, Ok 15 14, Oo 16 (.mov (.d (Ci 0)))]) (.block 0 (.loop (.seq (.reg none [Oo 17 (.iop .lss (.t 16) (.t 15))]) (.seq (.cond (.t 17) .skip (.exit 0)) (.seq (.block 1 (.seq (.reg none [Om 18 16, Oo 19 (.iadrS 4 (.t 14) (.t 16)), Oo 20 (.load true 4 (.t 19)), Oo 12 (.alloc [(.p (.s (.string ⟨#[]⟩))), (Ci 0), (.p (.s (.int .u16 0))), .nil]), Om 11 18, Ou (.store 4 (.t 12) (.t 20))]) (.seq (.seq (.reg none [Om 21 11, Om 22 1, Oo 23 (.iop .eql (.t 21) (.t 22))]) (.cond (.t 23) (.seq (.reg none [Om 24 11, Om 8 24, Oo 9 (.mov (.d (.p (.s (.bool true)))))]) .ret) .skip)) (.seq (.seq (.reg none [Om 25 3, Oo 26 (.load true 4 (.t 12)), Oo 27 (.callv (.t 25) [.t 26]), Oo 28 (.un .not (.t 27)), Om 29 28, Og 30 29 false (.mov (.t 2)), Og 31 29 false (.nop .fn true (.t 30) (.d (.p (.s .nilFunc)))), Og 32 29 false (.mov (.t 31)), Og 33 32 true (.mov (.t 10)), Og 34 32 true (.mov (.t 2)), Og 35 32 true (.load true 4 (.t 12)), Og 36 32 true (.callv (.t 34) [.t 35]), Og 37 32 true (.lkp false [2] (.p (.s (.bool false))) false (.t 33) (.t 36)), Og 38 29 false (.pick (.t 32) (.t 37) (.d (.p (.s (.bool false))))), Oo 39 (.pick (.t 29) (.d (.p (.s (.bool true)))) (.t 38))]) (.cond (.t 39) (.seq (.reg none [Om 40 11, Om 8 40, Oo 9 (.mov (.d (.p (.s (.bool true)))))]) .ret) .skip)) (.seq (.reg none [Om 41 2, Oo 42 (.nop .fn true (.t 41) (.d (.p (.s .nilFunc))))]) (.cond (.t 42) (.reg none [Om 43 10, Om 44 2, Oo 45 (.load true 4 (.t 12)), Oo 46 (.callv (.t 44) [.t 45]), Ou (.mup false [2] (.t 43) (.t 46) (.d (.p (.s (.bool true)))))]) .skip)))))) (.reg none [Oo 47 (.iop .add (.t 16) (.d (Ci 1))), Om 16 47]))))))) (.seq (.reg none [Oo 8 (.mov (.d (Ci 0))), Oo 9 (.mov (.d (.p (.s (.bool false)))))]) .ret)))), [.tmp 8, .tmp 9]⟩
theorem c_problem_bad_api_Room_ : comp Tryz.prog G0 121 = some m_problem_bad_api_Room_ := by kernel_rfl
theorem q_problem_bad_api_Room_ : Q0 121 := mCall_pure rfl
theorem badRoom_res (l : List VRoom) (hl : l.length ≤ 1048576) (m : Nat) (nmc rc : PDV) (nm : VRoom → ByteArray) (ok : VRoom → Bool) (hn : ∀ x ∈ l, App Tryz.prog G0 nmc [x.P] (.s (.string (nm x)))) (hr : ∀ x ∈ l, App Tryz.prog G0 rc [x.P] (B (ok x))) (hnf : nopX .fn true (.p nmc) (.p (.s .nilFunc)) = some (.p (.s (.bool true)))) :
    ∃ q, res Tryz.prog G0 121 [.lst (l.map VRoom.P), I (m : Int), nmc, rc] = some q ∧ ∃ k : Int, q = .tup [I k, B (!goodB m ok nm l)] := by
  refine res_ex c_problem_bad_api_Room_ (Nat.le_of_ble_eq_true rfl) ?_
  simp only [m_problem_bad_api_Room_, Oo, Ou, Og, Ci, Om, Of, Ol, Ok]
  repeat' (first | simp only [go_sem, Int.reduceLT, Int.reduceLE, Int.reduceNeg, Int.reduceEq, Nat.reduceAdd, Nat.reduceEqDiff, Nat.reduceLeDiff, Nat.reduceBEq, reduceIte, reduceCtorEq] | (with_reducible first | apply c1 | (first | apply c2 | apply c3) <;> (intro hc; simp only [hc]) | (first | apply c4 | apply c5) <;> (intro hc; rw [hc])))
  refine X_for 16 l.length (fun i s => s.h.get 2 = some (.map (mapS strP ((l.take i).map nm))) ∧ s.t.get 10 = some (.mm 2) ∧ ((l.take i).map nm).Nodup ∧ (∀ x ∈ l.take i, ok x = true) ∧ i ≤ m) 0 (by omega) ?_ (Nat.zero_le _) ⟨by simp only [go_sem, Int.reduceLT, Int.reduceLE, Int.reduceNeg, Int.reduceEq, Nat.reduceAdd, Nat.reduceEqDiff, Nat.reduceLeDiff, Nat.reduceBEq, reduceIte, reduceCtorEq]; rfl, by simp only [go_sem, Int.reduceLT, Int.reduceLE, Int.reduceNeg, Int.reduceEq, Nat.reduceAdd, Nat.reduceEqDiff, Nat.reduceLeDiff, Nat.reduceBEq, reduceIte, reduceCtorEq], by simp, by simp, Nat.zero_le _⟩ ?_
  · simp only [go_sem, Int.reduceLT, Int.reduceLE, Int.reduceNeg, Int.reduceEq, Nat.reduceAdd, Nat.reduceEqDiff, Nat.reduceLeDiff, Nat.reduceBEq, reduceIte, reduceCtorEq]; rfl
  intro i t h nx hf hi0 hi h16 hj
  obtain ⟨hh, h10, hnd, hok, him⟩ := hj
  dsimp only at hh h10
  have h0 := hf 0 rfl; simp only [PT.get_set, Nat.reduceEqDiff, if_true, if_false, reduceIte, PT.get_leaf] at h0; have h1 := hf 1 rfl; simp only [PT.get_set, Nat.reduceEqDiff, if_true, if_false, reduceIte, PT.get_leaf] at h1; have h2 := hf 2 rfl; simp only [PT.get_set, Nat.reduceEqDiff, if_true, if_false, reduceIte, PT.get_leaf] at h2; have h3 := hf 3 rfl; simp only [PT.get_set, Nat.reduceEqDiff, if_true, if_false, reduceIte, PT.get_leaf] at h3; have h14 := hf 14 rfl; simp only [PT.get_set, Nat.reduceEqDiff, if_true, if_false, reduceIte, PT.get_leaf] at h14; have h15 := hf 15 rfl; simp only [PT.get_set, Nat.reduceEqDiff, if_true, if_false, reduceIte, PT.get_leaf] at h15
  have h1' := h1
  clear hf h1
  rcases Nat.lt_or_ge i l.length with hlt | hge
  · obtain ⟨x, hx, _, htk⟩ := get_dec (l := l) (i := i) (by simpa using hlt)
    have hm : x ∈ l := List.mem_of_getElem? hx
    have hdl : decide ((i : Int) < (l.length : Int)) = true := by simpa using hlt
    by_cases h1 : i = m
    · repeat' (first | simp only [go_sem, Int.reduceLT, Int.reduceLE, Int.reduceNeg, Int.reduceEq, Nat.reduceAdd, Nat.reduceEqDiff, Nat.reduceLeDiff, Nat.reduceBEq, reduceIte, reduceCtorEq, h0, h1', h2, h3, h10, h14, h15, h16, hh, hx, hdl, show decide ((i : Int) = (m : Int)) = true by (simp; omega)] | (with_reducible first | apply c1 | (first | apply c2 | apply c3) <;> (intro hc; simp only [hc]) | (first | apply c4 | apply c5) <;> (intro hc; rw [hc])))
      refine ⟨(i : Int), ?_⟩
      rw [goodB_long (by omega)]
      rfl
    have hdm : decide ((i : Int) = (m : Int)) = false := by simp; omega
    cases hox : ok x with
    | false =>
      repeat' (first | simp only [go_sem, Int.reduceLT, Int.reduceLE, Int.reduceNeg, Int.reduceEq, Nat.reduceAdd, Nat.reduceEqDiff, Nat.reduceLeDiff, Nat.reduceBEq, reduceIte, reduceCtorEq, h0, h1', h2, h3, h10, h14, h15, h16, hh, hx, hdl, hdm, callv_1 (hr x hm), hox] | (with_reducible first | apply c1 | (first | apply c2 | apply c3) <;> (intro hc; simp only [hc]) | (first | apply c4 | apply c5) <;> (intro hc; rw [hc])))
      refine ⟨(i : Int), ?_⟩
      rw [goodB_bad hm hox]
      rfl
    | true =>
      cases hmem : memB (nm x) ((l.take i).map nm) with
      | true =>
        repeat' (first | simp only [go_sem, Int.reduceLT, Int.reduceLE, Int.reduceNeg, Int.reduceEq, Nat.reduceAdd, Nat.reduceEqDiff, Nat.reduceLeDiff, Nat.reduceBEq, reduceIte, reduceCtorEq, h0, h1', h2, h3, h10, h14, h15, h16, hh, hx, hdl, hdm, callv_1 (hr x hm), hox, callv_1 (hn x hm), hnf, lkp_str hnd, hmem] | (with_reducible first | apply c1 | (first | apply c2 | apply c3) <;> (intro hc; simp only [hc]) | (first | apply c4 | apply c5) <;> (intro hc; rw [hc])))
        refine ⟨(i : Int), ?_⟩
        rw [goodB_twice hx (memB_iff.1 hmem)]
        rfl
      | false =>
        repeat' (first | simp only [go_sem, Int.reduceLT, Int.reduceLE, Int.reduceNeg, Int.reduceEq, Nat.reduceAdd, Nat.reduceEqDiff, Nat.reduceLeDiff, Nat.reduceBEq, reduceIte, reduceCtorEq, h0, h1', h2, h3, h10, h14, h15, h16, hh, hx, hdl, hdm, callv_1 (hr x hm), hox, callv_1 (hn x hm), hnf, lkp_str hnd, mup_str hnd (memB_not.1 hmem), hmem] | (with_reducible first | apply c1 | (first | apply c2 | apply c3) <;> (intro hc; simp only [hc]) | (first | apply c4 | apply c5) <;> (intro hc; rw [hc])))
        refine ⟨hlt, ?_, ?_, ?_, by omega⟩
        · rw [htk]; simp [mapS]
        · rw [htk, List.map_append, List.map_singleton]
          exact nodup_snoc.2 ⟨hnd, memB_not.1 hmem⟩
        · intro y hy
          rw [htk, List.mem_append, List.mem_singleton] at hy
          rcases hy with hy | rfl
          · exact hok y hy
          · exact hox
  · have he : l.take i = l := List.take_of_length_le hge
    rw [he] at hnd hok
    repeat' (first | simp only [go_sem, Int.reduceLT, Int.reduceLE, Int.reduceNeg, Int.reduceEq, Nat.reduceAdd, Nat.reduceEqDiff, Nat.reduceLeDiff, Nat.reduceBEq, reduceIte, reduceCtorEq, h0, h1', h2, h3, h14, h15, h16, show decide ((i : Int) < (l.length : Int)) = false by simpa using hge] | (with_reducible first | apply c1 | (first | apply c2 | apply c3) <;> (intro hc; simp only [hc]) | (first | apply c4 | apply c5) <;> (intro hc; rw [hc])))
    refine ⟨0, ?_⟩
    rw [goodB_ok (by omega) hok hnd]
    rfl
def m_problem_bad_api_Person_ : MF := ⟨48, (.seq (.reg none [Oo 8 (.mov (.d (Ci 0))), Oo 9 (.mov (.d (.p (.s (.bool false)))))]) (.seq (.reg none [Oo 13 .mkm, Om 10 13]) (.seq (.seq (.reg none [Om 14 0, Ok 15 14, Oo 16 (.mov (.d (Ci 0)))]) (.block 0 (.loop (.seq (.reg none [Oo 17 (.iop .lss (.t 16) (.t 15))]) (.seq (.cond (.t 17) .skip (.exit 0)) (.seq (.block 1 (.seq (.reg none [Om 18 16, Oo 19 (.iadrS 2 (.t 14) (.t 16)), Oo 20 (.load true 2 (.t 19)), Oo 12 (.alloc [(.p (.s (.string ⟨#[]⟩))), .nil]), Om 11 18, Ou (.store 2 (.t 12) (.t 20))]) (.seq (.seq (.reg none [Om 21 11, Om 22 1, Oo 23 (.iop .eql (.t 21) (.t 22))]) (.cond (.t 23) (.seq (.reg none [Om 24 11, Om 8 24, Oo 9 (.mov (.d (.p (.s (.bool true)))))]) .ret) .skip)) (.seq (.seq (.reg none [Om 25 3, Oo 26 (.load true 2 (.t 12)), Oo 27 (.callv (.t 25) [.t 26]), Oo 28 (.un .not (.t 27)), Om 29 28, Og 30 29 false (.mov (.t 2)), Og 31 29 false (.nop .fn true (.t 30) (.d (.p (.s .nilFunc)))), Og 32 29 false (.mov (.t 31)), Og 33 32 true (.mov (.t 10)), Og 34 32 true (.mov (.t 2)), Og 35 32 true (.load true 2 (.t 12)), Og 36 32 true (.callv (.t 34) [.t 35]), Og 37 32 true (.lkp false [2] (.p (.s (.bool false))) false (.t 33) (.t 36)), Og 38 29 false (.pick (.t 32) (.t 37) (.d (.p (.s (.bool false))))), Oo 39 (.pick (.t 29) (.d (.p (.s (.bool true)))) (.t 38))]) (.cond (.t 39) (.seq (.reg none [Om 40 11, Om 8 40, Oo 9 (.mov (.d (.p (.s (.bool true)))))]) .ret) .skip)) (.seq (.reg none [Om 41 2, Oo 42 (.nop .fn true (.t 41) (.d (.p (.s .nilFunc))))]) (.cond (.t 42) (.reg none [Om 43 10, Om 44 2, Oo 45 (.load true 2 (.t 12)), Oo 46 (.callv (.t 44) [.t 45]), Ou (.mup false [2] (.t 43) (.t 46) (.d (.p (.s (.bool true)))))]) .skip)))))) (.reg none [Oo 47 (.iop .add (.t 16) (.d (Ci 1))), Om 16 47]))))))) (.seq (.reg none [Oo 8 (.mov (.d (Ci 0))), Oo 9 (.mov (.d (.p (.s (.bool false)))))]) .ret)))), [.tmp 8, .tmp 9]⟩
theorem c_problem_bad_api_Person_ : comp Tryz.prog G0 126 = some m_problem_bad_api_Person_ := by kernel_rfl
theorem q_problem_bad_api_Person_ : Q0 126 := mCall_pure rfl
theorem badPerson_res (l : List VPerson) (hl : l.length ≤ 1048576) (m : Nat) (nmc rc : PDV) (nm : VPerson → ByteArray) (ok : VPerson → Bool) (hn : ∀ x ∈ l, App Tryz.prog G0 nmc [x.P] (.s (.string (nm x)))) (hr : ∀ x ∈ l, App Tryz.prog G0 rc [x.P] (B (ok x))) (hnf : nopX .fn true (.p nmc) (.p (.s .nilFunc)) = some (.p (.s (.bool true)))) :
    ∃ q, res Tryz.prog G0 126 [.lst (l.map VPerson.P), I (m : Int), nmc, rc] = some q ∧ ∃ k : Int, q = .tup [I k, B (!goodB m ok nm l)] := by
  refine res_ex c_problem_bad_api_Person_ (Nat.le_of_ble_eq_true rfl) ?_
  simp only [m_problem_bad_api_Person_, Oo, Ou, Og, Ci, Om, Of, Ol, Ok]
  repeat' (first | simp only [go_sem, Int.reduceLT, Int.reduceLE, Int.reduceNeg, Int.reduceEq, Nat.reduceAdd, Nat.reduceEqDiff, Nat.reduceLeDiff, Nat.reduceBEq, reduceIte, reduceCtorEq] | (with_reducible first | apply c1 | (first | apply c2 | apply c3) <;> (intro hc; simp only [hc]) | (first | apply c4 | apply c5) <;> (intro hc; rw [hc])))
  refine X_for 16 l.length (fun i s => s.h.get 2 = some (.map (mapS strP ((l.take i).map nm))) ∧ s.t.get 10 = some (.mm 2) ∧ ((l.take i).map nm).Nodup ∧ (∀ x ∈ l.take i, ok x = true) ∧ i ≤ m) 0 (by omega) ?_ (Nat.zero_le _) ⟨by simp only [go_sem, Int.reduceLT, Int.reduceLE, Int.reduceNeg, Int.reduceEq, Nat.reduceAdd, Nat.reduceEqDiff, Nat.reduceLeDiff, Nat.reduceBEq, reduceIte, reduceCtorEq]; rfl, by simp only [go_sem, Int.reduceLT, Int.reduceLE, Int.reduceNeg, Int.reduceEq, Nat.reduceAdd, Nat.reduceEqDiff, Nat.reduceLeDiff, Nat.reduceBEq, reduceIte, reduceCtorEq], by simp, by simp, Nat.zero_le _⟩ ?_
  · simp only [go_sem, Int.reduceLT, Int.reduceLE, Int.reduceNeg, Int.reduceEq, Nat.reduceAdd, Nat.reduceEqDiff, Nat.reduceLeDiff, Nat.reduceBEq, reduceIte, reduceCtorEq]; rfl
  intro i t h nx hf hi0 hi h16 hj
  obtain ⟨hh, h10, hnd, hok, him⟩ := hj
  dsimp only at hh h10
  have h0 := hf 0 rfl; simp only [PT.get_set, Nat.reduceEqDiff, if_true, if_false, reduceIte, PT.get_leaf] at h0; have h1 := hf 1 rfl; simp only [PT.get_set, Nat.reduceEqDiff, if_true, if_false, reduceIte, PT.get_leaf] at h1; have h2 := hf 2 rfl; simp only [PT.get_set, Nat.reduceEqDiff, if_true, if_false, reduceIte, PT.get_leaf] at h2; have h3 := hf 3 rfl; simp only [PT.get_set, Nat.reduceEqDiff, if_true, if_false, reduceIte, PT.get_leaf] at h3; have h14 := hf 14 rfl; simp only [PT.get_set, Nat.reduceEqDiff, if_true, if_false, reduceIte, PT.get_leaf] at h14; have h15 := hf 15 rfl; simp only [PT.get_set, Nat.reduceEqDiff, if_true, if_false, reduceIte, PT.get_leaf] at h15
  have h1' := h1
  clear hf h1
  rcases Nat.lt_or_ge i l.length with hlt | hge
  · obtain ⟨x, hx, _, htk⟩ := get_dec (l := l) (i := i) (by simpa using hlt)
    have hm : x ∈ l := List.mem_of_getElem? hx
    have hdl : decide ((i : Int) < (l.length : Int)) = true := by simpa using hlt
    by_cases h1 : i = m
    · repeat' (first | simp only [go_sem, Int.reduceLT, Int.reduceLE, Int.reduceNeg, Int.reduceEq, Nat.reduceAdd, Nat.reduceEqDiff, Nat.reduceLeDiff, Nat.reduceBEq, reduceIte, reduceCtorEq, h0, h1', h2, h3, h10, h14, h15, h16, hh, hx, hdl, show decide ((i : Int) = (m : Int)) = true by (simp; omega)] | (with_reducible first | apply c1 | (first | apply c2 | apply c3) <;> (intro hc; simp only [hc]) | (first | apply c4 | apply c5) <;> (intro hc; rw [hc])))
      refine ⟨(i : Int), ?_⟩
      rw [goodB_long (by omega)]
      rfl
    have hdm : decide ((i : Int) = (m : Int)) = false := by simp; omega
    cases hox : ok x with
    | false =>
      repeat' (first | simp only [go_sem, Int.reduceLT, Int.reduceLE, Int.reduceNeg, Int.reduceEq, Nat.reduceAdd, Nat.reduceEqDiff, Nat.reduceLeDiff, Nat.reduceBEq, reduceIte, reduceCtorEq, h0, h1', h2, h3, h10, h14, h15, h16, hh, hx, hdl, hdm, callv_1 (hr x hm), hox] | (with_reducible first | apply c1 | (first | apply c2 | apply c3) <;> (intro hc; simp only [hc]) | (first | apply c4 | apply c5) <;> (intro hc; rw [hc])))
      refine ⟨(i : Int), ?_⟩
      rw [goodB_bad hm hox]
      rfl
    | true =>
      cases hmem : memB (nm x) ((l.take i).map nm) with
      | true =>
        repeat' (first | simp only [go_sem, Int.reduceLT, Int.reduceLE, Int.reduceNeg, Int.reduceEq, Nat.reduceAdd, Nat.reduceEqDiff, Nat.reduceLeDiff, Nat.reduceBEq, reduceIte, reduceCtorEq, h0, h1', h2, h3, h10, h14, h15, h16, hh, hx, hdl, hdm, callv_1 (hr x hm), hox, callv_1 (hn x hm), hnf, lkp_str hnd, hmem] | (with_reducible first | apply c1 | (first | apply c2 | apply c3) <;> (intro hc; simp only [hc]) | (first | apply c4 | apply c5) <;> (intro hc; rw [hc])))
        refine ⟨(i : Int), ?_⟩
        rw [goodB_twice hx (memB_iff.1 hmem)]
        rfl
      | false =>
        repeat' (first | simp only [go_sem, Int.reduceLT, Int.reduceLE, Int.reduceNeg, Int.reduceEq, Nat.reduceAdd, Nat.reduceEqDiff, Nat.reduceLeDiff, Nat.reduceBEq, reduceIte, reduceCtorEq, h0, h1', h2, h3, h10, h14, h15, h16, hh, hx, hdl, hdm, callv_1 (hr x hm), hox, callv_1 (hn x hm), hnf, lkp_str hnd, mup_str hnd (memB_not.1 hmem), hmem] | (with_reducible first | apply c1 | (first | apply c2 | apply c3) <;> (intro hc; simp only [hc]) | (first | apply c4 | apply c5) <;> (intro hc; rw [hc])))
        refine ⟨hlt, ?_, ?_, ?_, by omega⟩
        · rw [htk]; simp [mapS]
        · rw [htk, List.map_append, List.map_singleton]
          exact nodup_snoc.2 ⟨hnd, memB_not.1 hmem⟩
        · intro y hy
          rw [htk, List.mem_append, List.mem_singleton] at hy
          rcases hy with hy | rfl
          · exact hok y hy
          · exact hox
  · have he : l.take i = l := List.take_of_length_le hge
    rw [he] at hnd hok
    repeat' (first | simp only [go_sem, Int.reduceLT, Int.reduceLE, Int.reduceNeg, Int.reduceEq, Nat.reduceAdd, Nat.reduceEqDiff, Nat.reduceLeDiff, Nat.reduceBEq, reduceIte, reduceCtorEq, h0, h1', h2, h3, h14, h15, h16, show decide ((i : Int) < (l.length : Int)) = false by simpa using hge] | (with_reducible first | apply c1 | (first | apply c2 | apply c3) <;> (intro hc; simp only [hc]) | (first | apply c4 | apply c5) <;> (intro hc; rw [hc])))
    refine ⟨0, ?_⟩
    rw [goodB_ok (by omega) hok hnd]
    rfl
def m_problem_bad_api_Class_ : MF := ⟨48, (.seq (.reg none [Oo 8 (.mov (.d (Ci 0))), Oo 9 (.mov (.d (.p (.s (.bool false)))))]) (.seq (.reg none [Oo 13 .mkm, Om 10 13]) (.seq (.seq (.reg none [Om 14 0, Ok 15 14, Oo 16 (.mov (.d (Ci 0)))]) (.block 0 (.loop (.seq (.reg none [Oo 17 (.iop .lss (.t 16) (.t 15))]) (.seq (.cond (.t 17) .skip (.exit 0)) (.seq (.block 1 (.seq (.reg none [Om 18 16, Oo 19 (.iadrS 7 (.t 14) (.t 16)), Oo 20 (.load true 7 (.t 19)), Oo 12 (.alloc [(.p (.s (.string ⟨#[]⟩))), (Ci 0), (.p (.s (.int .u16 0))), .nil, .nil, .nil, (Ci 0)]), Om 11 18, Ou (.store 7 (.t 12) (.t 20))]) (.seq (.seq (.reg none [Om 21 11, Om 22 1, Oo 23 (.iop .eql (.t 21) (.t 22))]) (.cond (.t 23) (.seq (.reg none [Om 24 11, Om 8 24, Oo 9 (.mov (.d (.p (.s (.bool true)))))]) .ret) .skip)) (.seq (.seq (.reg none [Om 25 3, Oo 26 (.load true 7 (.t 12)), Oo 27 (.callv (.t 25) [.t 26]), Oo 28 (.un .not (.t 27)), Om 29 28, Og 30 29 false (.mov (.t 2)), Og 31 29 false (.nop .fn true (.t 30) (.d (.p (.s .nilFunc)))), Og 32 29 false (.mov (.t 31)), Og 33 32 true (.mov (.t 10)), Og 34 32 true (.mov (.t 2)), Og 35 32 true (.load true 7 (.t 12)), Og 36 32 true (.callv (.t 34) [.t 35]), Og 37 32 true (.lkp false [2] (.p (.s (.bool false))) false (.t 33) (.t 36)), Og 38 29 false (.pick (.t 32) (.t 37) (.d (.p (.s (.bool false))))), Oo 39 (.pick (.t 29) (.d (.p (.s (.bool true)))) (.t 38))]) (.cond (.t 39) (.seq (.reg none [Om 40 11, Om 8 40, Oo 9 (.mov (.d (.p (.s (.bool true)))))]) .ret) .skip)) (.seq (.reg none [Om 41 2, Oo 42 (.nop .fn true (.t 41) (.d (.p (.s .nilFunc))))]) (.cond (.t 42) (.reg none [Om 43 10, Om 44 2, Oo 45 (.load true 7 (.t 12)), Oo 46 (.callv (.t 44) [.t 45]), Ou (.mup false [2] (.t 43) (.t 46) (.d (.p (.s (.bool true)))))]) .skip)))))) (.reg none [Oo 47 (.iop .add (.t 16) (.d (Ci 1))), Om 16 47]))))))) (.seq (.reg none [Oo 8 (.mov (.d (Ci 0))), Oo 9 (.mov (.d (.p (.s (.bool false)))))]) .ret)))), [.tmp 8, .tmp 9]⟩
theorem c_problem_bad_api_Class_ : comp Tryz.prog G0 130 = some m_problem_bad_api_Class_ := by kernel_rfl
theorem q_problem_bad_api_Class_ : Q0 130 := mCall_pure rfl
theorem badClass_res (l : List VClass) (hl : l.length ≤ 1048576) (m : Nat) (nmc rc : PDV) (nm : VClass → ByteArray) (ok : VClass → Bool) (hn : ∀ x ∈ l, App Tryz.prog G0 nmc [x.P] (.s (.string (nm x)))) (hr : ∀ x ∈ l, App Tryz.prog G0 rc [x.P] (B (ok x))) (hnf : nopX .fn true (.p nmc) (.p (.s .nilFunc)) = some (.p (.s (.bool true)))) :
    ∃ q, res Tryz.prog G0 130 [.lst (l.map VClass.P), I (m : Int), nmc, rc] = some q ∧ ∃ k : Int, q = .tup [I k, B (!goodB m ok nm l)] := by
  refine res_ex c_problem_bad_api_Class_ (Nat.le_of_ble_eq_true rfl) ?_
  simp only [m_problem_bad_api_Class_, Oo, Ou, Og, Ci, Om, Of, Ol, Ok]
  repeat' (first | simp only [go_sem, Int.reduceLT, Int.reduceLE, Int.reduceNeg, Int.reduceEq, Nat.reduceAdd, Nat.reduceEqDiff, Nat.reduceLeDiff, Nat.reduceBEq, reduceIte, reduceCtorEq] | (with_reducible first | apply c1 | (first | apply c2 | apply c3) <;> (intro hc; simp only [hc]) | (first | apply c4 | apply c5) <;> (intro hc; rw [hc])))
  refine X_for 16 l.length (fun i s => s.h.get 2 = some (.map (mapS strP ((l.take i).map nm))) ∧ s.t.get 10 = some (.mm 2) ∧ ((l.take i).map nm).Nodup ∧ (∀ x ∈ l.take i, ok x = true) ∧ i ≤ m) 0 (by omega) ?_ (Nat.zero_le _) ⟨by simp only [go_sem, Int.reduceLT, Int.reduceLE, Int.reduceNeg, Int.reduceEq, Nat.reduceAdd, Nat.reduceEqDiff, Nat.reduceLeDiff, Nat.reduceBEq, reduceIte, reduceCtorEq]; rfl, by simp only [go_sem, Int.reduceLT, Int.reduceLE, Int.reduceNeg, Int.reduceEq, Nat.reduceAdd, Nat.reduceEqDiff, Nat.reduceLeDiff, Nat.reduceBEq, reduceIte, reduceCtorEq], by simp, by simp, Nat.zero_le _⟩ ?_
  · simp only [go_sem, Int.reduceLT, Int.reduceLE, Int.reduceNeg, Int.reduceEq, Nat.reduceAdd, Nat.reduceEqDiff, Nat.reduceLeDiff, Nat.reduceBEq, reduceIte, reduceCtorEq]; rfl
  intro i t h nx hf hi0 hi h16 hj
  obtain ⟨hh, h10, hnd, hok, him⟩ := hj
  dsimp only at hh h10
  have h0 := hf 0 rfl; simp only [PT.get_set, Nat.reduceEqDiff, if_true, if_false, reduceIte, PT.get_leaf] at h0; have h1 := hf 1 rfl; simp only [PT.get_set, Nat.reduceEqDiff, if_true, if_false, reduceIte, PT.get_leaf] at h1; have h2 := hf 2 rfl; simp only [PT.get_set, Nat.reduceEqDiff, if_true, if_false, reduceIte, PT.get_leaf] at h2; have h3 := hf 3 rfl; simp only [PT.get_set, Nat.reduceEqDiff, if_true, if_false, reduceIte, PT.get_leaf] at h3; have h14 := hf 14 rfl; simp only [PT.get_set, Nat.reduceEqDiff, if_true, if_false, reduceIte, PT.get_leaf] at h14; have h15 := hf 15 rfl; simp only [PT.get_set, Nat.reduceEqDiff, if_true, if_false, reduceIte, PT.get_leaf] at h15
  have h1' := h1
  clear hf h1
  rcases Nat.lt_or_ge i l.length with hlt | hge
  · obtain ⟨x, hx, _, htk⟩ := get_dec (l := l) (i := i) (by simpa using hlt)
    have hm : x ∈ l := List.mem_of_getElem? hx
    have hdl : decide ((i : Int) < (l.length : Int)) = true := by simpa using hlt
    by_cases h1 : i = m
    · repeat' (first | simp only [go_sem, Int.reduceLT, Int.reduceLE, Int.reduceNeg, Int.reduceEq, Nat.reduceAdd, Nat.reduceEqDiff, Nat.reduceLeDiff, Nat.reduceBEq, reduceIte, reduceCtorEq, h0, h1', h2, h3, h10, h14, h15, h16, hh, hx, hdl, show decide ((i : Int) = (m : Int)) = true by (simp; omega)] | (with_reducible first | apply c1 | (first | apply c2 | apply c3) <;> (intro hc; simp only [hc]) | (first | apply c4 | apply c5) <;> (intro hc; rw [hc])))
      refine ⟨(i : Int), ?_⟩
      rw [goodB_long (by omega)]
      rfl
    have hdm : decide ((i : Int) = (m : Int)) = false := by simp; omega
    cases hox : ok x with
    | false =>
      repeat' (first | simp only [go_sem, Int.reduceLT, Int.reduceLE, Int.reduceNeg, Int.reduceEq, Nat.reduceAdd, Nat.reduceEqDiff, Nat.reduceLeDiff, Nat.reduceBEq, reduceIte, reduceCtorEq, h0, h1', h2, h3, h10, h14, h15, h16, hh, hx, hdl, hdm, callv_1 (hr x hm), hox] | (with_reducible first | apply c1 | (first | apply c2 | apply c3) <;> (intro hc; simp only [hc]) | (first | apply c4 | apply c5) <;> (intro hc; rw [hc])))
      refine ⟨(i : Int), ?_⟩
      rw [goodB_bad hm hox]
      rfl
    | true =>
      cases hmem : memB (nm x) ((l.take i).map nm) with
      | true =>
        repeat' (first | simp only [go_sem, Int.reduceLT, Int.reduceLE, Int.reduceNeg, Int.reduceEq, Nat.reduceAdd, Nat.reduceEqDiff, Nat.reduceLeDiff, Nat.reduceBEq, reduceIte, reduceCtorEq, h0, h1', h2, h3, h10, h14, h15, h16, hh, hx, hdl, hdm, callv_1 (hr x hm), hox, callv_1 (hn x hm), hnf, lkp_str hnd, hmem] | (with_reducible first | apply c1 | (first | apply c2 | apply c3) <;> (intro hc; simp only [hc]) | (first | apply c4 | apply c5) <;> (intro hc; rw [hc])))
        refine ⟨(i : Int), ?_⟩
        rw [goodB_twice hx (memB_iff.1 hmem)]
        rfl
      | false =>
        repeat' (first | simp only [go_sem, Int.reduceLT, Int.reduceLE, Int.reduceNeg, Int.reduceEq, Nat.reduceAdd, Nat.reduceEqDiff, Nat.reduceLeDiff, Nat.reduceBEq, reduceIte, reduceCtorEq, h0, h1', h2, h3, h10, h14, h15, h16, hh, hx, hdl, hdm, callv_1 (hr x hm), hox, callv_1 (hn x hm), hnf, lkp_str hnd, mup_str hnd (memB_not.1 hmem), hmem] | (with_reducible first | apply c1 | (first | apply c2 | apply c3) <;> (intro hc; simp only [hc]) | (first | apply c4 | apply c5) <;> (intro hc; rw [hc])))
        refine ⟨hlt, ?_, ?_, ?_, by omega⟩
        · rw [htk]; simp [mapS]
        · rw [htk, List.map_append, List.map_singleton]
          exact nodup_snoc.2 ⟨hnd, memB_not.1 hmem⟩
        · intro y hy
          rw [htk, List.mem_append, List.mem_singleton] at hy
          rcases hy with hy | rfl
          · exact hok y hy
          · exact hox
  · have he : l.take i = l := List.take_of_length_le hge
    rw [he] at hnd hok
    repeat' (first | simp only [go_sem, Int.reduceLT, Int.reduceLE, Int.reduceNeg, Int.reduceEq, Nat.reduceAdd, Nat.reduceEqDiff, Nat.reduceLeDiff, Nat.reduceBEq, reduceIte, reduceCtorEq, h0, h1', h2, h3, h14, h15, h16, show decide ((i : Int) < (l.length : Int)) = false by simpa using hge] | (with_reducible first | apply c1 | (first | apply c2 | apply c3) <;> (intro hc; simp only [hc]) | (first | apply c4 | apply c5) <;> (intro hc; rw [hc])))
    refine ⟨0, ?_⟩
    rw [goodB_ok (by omega) hok hnd]
    rfl
def m_problem_bad_api_Course_ : MF := ⟨48, (.seq (.reg none [Oo 8 (.mov (.d (Ci 0))), Oo 9 (.mov (.d (.p (.s (.bool false)))))]) (.seq (.reg none [Oo 13 .mkm, Om 10 13]) (.seq (.seq (.reg none [Om 14 0, Ok 15 14, Oo 16 (.mov (.d (Ci 0)))]) (.block 0 (.loop (.seq (.reg none [Oo 17 (.iop .lss (.t 16) (.t 15))]) (.seq (.cond (.t 17) .skip (.exit 0)) (.seq (.block 1 (.seq (.reg none [Om 18 16, Oo 19 (.iadrS 2 (.t 14) (.t 16)), Oo 20 (.load true 2 (.t 19)), Oo 12 (.alloc [(.p (.s (.string ⟨#[]⟩))), .nil]), Om 11 18, Ou (.store 2 (.t 12) (.t 20))]) (.seq (.seq (.reg none [Om 21 11, Om 22 1, Oo 23 (.iop .eql (.t 21) (.t 22))]) (.cond (.t 23) (.seq (.reg none [Om 24 11, Om 8 24, Oo 9 (.mov (.d (.p (.s (.bool true)))))]) .ret) .skip)) (.seq (.seq (.reg none [Om 25 3, Oo 26 (.load true 2 (.t 12)), Oo 27 (.callv (.t 25) [.t 26]), Oo 28 (.un .not (.t 27)), Om 29 28, Og 30 29 false (.mov (.t 2)), Og 31 29 false (.nop .fn true (.t 30) (.d (.p (.s .nilFunc)))), Og 32 29 false (.mov (.t 31)), Og 33 32 true (.mov (.t 10)), Og 34 32 true (.mov (.t 2)), Og 35 32 true (.load true 2 (.t 12)), Og 36 32 true (.callv (.t 34) [.t 35]), Og 37 32 true (.lkp false [2] (.p (.s (.bool false))) false (.t 33) (.t 36)), Og 38 29 false (.pick (.t 32) (.t 37) (.d (.p (.s (.bool false))))), Oo 39 (.pick (.t 29) (.d (.p (.s (.bool true)))) (.t 38))]) (.cond (.t 39) (.seq (.reg none [Om 40 11, Om 8 40, Oo 9 (.mov (.d (.p (.s (.bool true)))))]) .ret) .skip)) (.seq (.reg none [Om 41 2, Oo 42 (.nop .fn true (.t 41) (.d (.p (.s .nilFunc))))]) (.cond (.t 42) (.reg none [Om 43 10, Om 44 2, Oo 45 (.load true 2 (.t 12)), Oo 46 (.callv (.t 44) [.t 45]), Ou (.mup false [2] (.t 43) (.t 46) (.d (.p (.s (.bool true)))))]) .skip)))))) (.reg none [Oo 47 (.iop .add (.t 16) (.d (Ci 1))), Om 16 47]))))))) (.seq (.reg none [Oo 8 (.mov (.d (Ci 0))), Oo 9 (.mov (.d (.p (.s (.bool false)))))]) .ret)))), [.tmp 8, .tmp 9]⟩
theorem c_problem_bad_api_Course_ : comp Tryz.prog G0 134 = some m_problem_bad_api_Course_ := by kernel_rfl
theorem q_problem_bad_api_Course_ : Q0 134 := mCall_pure rfl
theorem badCourse_res (l : List VCourse) (hl : l.length ≤ 1048576) (m : Nat) (nmc rc : PDV) (nm : VCourse → ByteArray) (ok : VCourse → Bool) (hn : ∀ x ∈ l, App Tryz.prog G0 nmc [x.P] (.s (.string (nm x)))) (hr : ∀ x ∈ l, App Tryz.prog G0 rc [x.P] (B (ok x))) (hnf : nopX .fn true (.p nmc) (.p (.s .nilFunc)) = some (.p (.s (.bool true)))) :
    ∃ q, res Tryz.prog G0 134 [.lst (l.map VCourse.P), I (m : Int), nmc, rc] = some q ∧ ∃ k : Int, q = .tup [I k, B (!goodB m ok nm l)] := by
  refine res_ex c_problem_bad_api_Course_ (Nat.le_of_ble_eq_true rfl) ?_
  simp only [m_problem_bad_api_Course_, Oo, Ou, Og, Ci, Om, Of, Ol, Ok]
  repeat' (first | simp only [go_sem, Int.reduceLT, Int.reduceLE, Int.reduceNeg, Int.reduceEq, Nat.reduceAdd, Nat.reduceEqDiff, Nat.reduceLeDiff, Nat.reduceBEq, reduceIte, reduceCtorEq] | (with_reducible first | apply c1 | (first | apply c2 | apply c3) <;> (intro hc; simp only [hc]) | (first | apply c4 | apply c5) <;> (intro hc; rw [hc])))
  refine X_for 16 l.length (fun i s => s.h.get 2 = some (.map (mapS strP ((l.take i).map nm))) ∧ s.t.get 10 = some (.mm 2) ∧ ((l.take i).map nm).Nodup ∧ (∀ x ∈ l.take i, ok x = true) ∧ i ≤ m) 0 (by omega) ?_ (Nat.zero_le _) ⟨by simp only [go_sem, Int.reduceLT, Int.reduceLE, Int.reduceNeg, Int.reduceEq, Nat.reduceAdd, Nat.reduceEqDiff, Nat.reduceLeDiff, Nat.reduceBEq, reduceIte, reduceCtorEq]; rfl, by simp only [go_sem, Int.reduceLT, Int.reduceLE, Int.reduceNeg, Int.reduceEq, Nat.reduceAdd, Nat.reduceEqDiff, Nat.reduceLeDiff, Nat.reduceBEq, reduceIte, reduceCtorEq], by simp, by simp, Nat.zero_le _⟩ ?_
  · simp only [go_sem, Int.reduceLT, Int.reduceLE, Int.reduceNeg, Int.reduceEq, Nat.reduceAdd, Nat.reduceEqDiff, Nat.reduceLeDiff, Nat.reduceBEq, reduceIte, reduceCtorEq]; rfl
  intro i t h nx hf hi0 hi h16 hj
  obtain ⟨hh, h10, hnd, hok, him⟩ := hj
  dsimp only at hh h10
  have h0 := hf 0 rfl; simp only [PT.get_set, Nat.reduceEqDiff, if_true, if_false, reduceIte, PT.get_leaf] at h0; have h1 := hf 1 rfl; simp only [PT.get_set, Nat.reduceEqDiff, if_true, if_false, reduceIte, PT.get_leaf] at h1; have h2 := hf 2 rfl; simp only [PT.get_set, Nat.reduceEqDiff, if_true, if_false, reduceIte, PT.get_leaf] at h2; have h3 := hf 3 rfl; simp only [PT.get_set, Nat.reduceEqDiff, if_true, if_false, reduceIte, PT.get_leaf] at h3; have h14 := hf 14 rfl; simp only [PT.get_set, Nat.reduceEqDiff, if_true, if_false, reduceIte, PT.get_leaf] at h14; have h15 := hf 15 rfl; simp only [PT.get_set, Nat.reduceEqDiff, if_true, if_false, reduceIte, PT.get_leaf] at h15
  have h1' := h1
  clear hf h1
  rcases Nat.lt_or_ge i l.length with hlt | hge
  · obtain ⟨x, hx, _, htk⟩ := get_dec (l := l) (i := i) (by simpa using hlt)
    have hm : x ∈ l := List.mem_of_getElem? hx
    have hdl : decide ((i : Int) < (l.length : Int)) = true := by simpa using hlt
    by_cases h1 : i = m
    · repeat' (first | simp only [go_sem, Int.reduceLT, Int.reduceLE, Int.reduceNeg, Int.reduceEq, Nat.reduceAdd, Nat.reduceEqDiff, Nat.reduceLeDiff, Nat.reduceBEq, reduceIte, reduceCtorEq, h0, h1', h2, h3, h10, h14, h15, h16, hh, hx, hdl, show decide ((i : Int) = (m : Int)) = true by (simp; omega)] | (with_reducible first | apply c1 | (first | apply c2 | apply c3) <;> (intro hc; simp only [hc]) | (first | apply c4 | apply c5) <;> (intro hc; rw [hc])))
      refine ⟨(i : Int), ?_⟩
      rw [goodB_long (by omega)]
      rfl
    have hdm : decide ((i : Int) = (m : Int)) = false := by simp; omega
    cases hox : ok x with
    | false =>
      repeat' (first | simp only [go_sem, Int.reduceLT, Int.reduceLE, Int.reduceNeg, Int.reduceEq, Nat.reduceAdd, Nat.reduceEqDiff, Nat.reduceLeDiff, Nat.reduceBEq, reduceIte, reduceCtorEq, h0, h1', h2, h3, h10, h14, h15, h16, hh, hx, hdl, hdm, callv_1 (hr x hm), hox] | (with_reducible first | apply c1 | (first | apply c2 | apply c3) <;> (intro hc; simp only [hc]) | (first | apply c4 | apply c5) <;> (intro hc; rw [hc])))
      refine ⟨(i : Int), ?_⟩
      rw [goodB_bad hm hox]
      rfl
    | true =>
      cases hmem : memB (nm x) ((l.take i).map nm) with
      | true =>
        repeat' (first | simp only [go_sem, Int.reduceLT, Int.reduceLE, Int.reduceNeg, Int.reduceEq, Nat.reduceAdd, Nat.reduceEqDiff, Nat.reduceLeDiff, Nat.reduceBEq, reduceIte, reduceCtorEq, h0, h1', h2, h3, h10, h14, h15, h16, hh, hx, hdl, hdm, callv_1 (hr x hm), hox, callv_1 (hn x hm), hnf, lkp_str hnd, hmem] | (with_reducible first | apply c1 | (first | apply c2 | apply c3) <;> (intro hc; simp only [hc]) | (first | apply c4 | apply c5) <;> (intro hc; rw [hc])))
        refine ⟨(i : Int), ?_⟩
        rw [goodB_twice hx (memB_iff.1 hmem)]
        rfl
      | false =>
        repeat' (first | simp only [go_sem, Int.reduceLT, Int.reduceLE, Int.reduceNeg, Int.reduceEq, Nat.reduceAdd, Nat.reduceEqDiff, Nat.reduceLeDiff, Nat.reduceBEq, reduceIte, reduceCtorEq, h0, h1', h2, h3, h10, h14, h15, h16, hh, hx, hdl, hdm, callv_1 (hr x hm), hox, callv_1 (hn x hm), hnf, lkp_str hnd, mup_str hnd (memB_not.1 hmem), hmem] | (with_reducible first | apply c1 | (first | apply c2 | apply c3) <;> (intro hc; simp only [hc]) | (first | apply c4 | apply c5) <;> (intro hc; rw [hc])))
        refine ⟨hlt, ?_, ?_, ?_, by omega⟩
        · rw [htk]; simp [mapS]
        · rw [htk, List.map_append, List.map_singleton]
          exact nodup_snoc.2 ⟨hnd, memB_not.1 hmem⟩
        · intro y hy
          rw [htk, List.mem_append, List.mem_singleton] at hy
          rcases hy with hy | rfl
          · exact hok y hy
          · exact hox
  · have he : l.take i = l := List.take_of_length_le hge
    rw [he] at hnd hok
    repeat' (first | simp only [go_sem, Int.reduceLT, Int.reduceLE, Int.reduceNeg, Int.reduceEq, Nat.reduceAdd, Nat.reduceEqDiff, Nat.reduceLeDiff, Nat.reduceBEq, reduceIte, reduceCtorEq, h0, h1', h2, h3, h14, h15, h16, show decide ((i : Int) < (l.length : Int)) = false by simpa using hge] | (with_reducible first | apply c1 | (first | apply c2 | apply c3) <;> (intro hc; simp only [hc]) | (first | apply c4 | apply c5) <;> (intro hc; rw [hc])))
    refine ⟨0, ?_⟩
    rw [goodB_ok (by omega) hok hnd]
    rfl
def m_problem_bad_api_Student_ : MF := ⟨48, (.seq (.reg none [Oo 8 (.mov (.d (Ci 0))), Oo 9 (.mov (.d (.p (.s (.bool false)))))]) (.seq (.reg none [Oo 13 .mkm, Om 10 13]) (.seq (.seq (.reg none [Om 14 0, Ok 15 14, Oo 16 (.mov (.d (Ci 0)))]) (.block 0 (.loop (.seq (.reg none [Oo 17 (.iop .lss (.t 16) (.t 15))]) (.seq (.cond (.t 17) .skip (.exit 0)) (.seq (.block 1 (.seq (.reg none [Om 18 16, Oo 19 (.iadrS 2 (.t 14) (.t 16)), Oo 20 (.load true 2 (.t 19)), Oo 12 (.alloc [(.p (.s (.string ⟨#[]⟩))), .nil]), Om 11 18, Ou (.store 2 (.t 12) (.t 20))]) (.seq (.seq (.reg none [Om 21 11, Om 22 1, Oo 23 (.iop .eql (.t 21) (.t 22))]) (.cond (.t 23) (.seq (.reg none [Om 24 11, Om 8 24, Oo 9 (.mov (.d (.p (.s (.bool true)))))]) .ret) .skip)) (.seq (.seq (.reg none [Om 25 3, Oo 26 (.load true 2 (.t 12)), Oo 27 (.callv (.t 25) [.t 26]), Oo 28 (.un .not (.t 27)), Om 29 28, Og 30 29 false (.mov (.t 2)), Og 31 29 false (.nop .fn true (.t 30) (.d (.p (.s .nilFunc)))), Og 32 29 false (.mov (.t 31)), Og 33 32 true (.mov (.t 10)), Og 34 32 true (.mov (.t 2)), Og 35 32 true (.load true 2 (.t 12)), Og 36 32 true (.callv (.t 34) [.t 35]), Og 37 32 true (.lkp false [2] (.p (.s (.bool false))) false (.t 33) (.t 36)), Og 38 29 false (.pick (.t 32) (.t 37) (.d (.p (.s (.bool false))))), Oo 39 (.pick (.t 29) (.d (.p (.s (.bool true)))) (.t 38))]) (.cond (.t 39) (.seq (.reg none [Om 40 11, Om 8 40, Oo 9 (.mov (.d (.p (.s (.bool true)))))]) .ret) .skip)) (.seq (.reg none [Om 41 2, Oo 42 (.nop .fn true (.t 41) (.d (.p (.s .nilFunc))))]) (.cond (.t 42) (.reg none [Om 43 10, Om 44 2, Oo 45 (.load true 2 (.t 12)), Oo 46 (.callv (.t 44) [.t 45]), Ou (.mup false [2] (.t 43) (.t 46) (.d (.p (.s (.bool true)))))]) .skip)))))) (.reg none [Oo 47 (.iop .add (.t 16) (.d (Ci 1))), Om 16 47]))))))) (.seq (.reg none [Oo 8 (.mov (.d (Ci 0))), Oo 9 (.mov (.d (.p (.s (.bool false)))))]) .ret)))), [.tmp 8, .tmp 9]⟩
theorem c_problem_bad_api_Student_ : comp Tryz.prog G0 138 = some m_problem_bad_api_Student_ := by kernel_rfl
theorem q_problem_bad_api_Student_ : Q0 138 := mCall_pure rfl
theorem badStudent_res (l : List VStudent) (hl : l.length ≤ 1048576) (m : Nat) (nmc rc : PDV) (nm : VStudent → ByteArray) (ok : VStudent → Bool) (hn : ∀ x ∈ l, App Tryz.prog G0 nmc [x.P] (.s (.string (nm x)))) (hr : ∀ x ∈ l, App Tryz.prog G0 rc [x.P] (B (ok x))) (hnf : nopX .fn true (.p nmc) (.p (.s .nilFunc)) = some (.p (.s (.bool true)))) :
    ∃ q, res Tryz.prog G0 138 [.lst (l.map VStudent.P), I (m : Int), nmc, rc] = some q ∧ ∃ k : Int, q = .tup [I k, B (!goodB m ok nm l)] := by
  refine res_ex c_problem_bad_api_Student_ (Nat.le_of_ble_eq_true rfl) ?_
  simp only [m_problem_bad_api_Student_, Oo, Ou, Og, Ci, Om, Of, Ol, Ok]
  repeat' (first | simp only [go_sem, Int.reduceLT, Int.reduceLE, Int.reduceNeg, Int.reduceEq, Nat.reduceAdd, Nat.reduceEqDiff, Nat.reduceLeDiff, Nat.reduceBEq, reduceIte, reduceCtorEq] | (with_reducible first | apply c1 | (first | apply c2 | apply c3) <;> (intro hc; simp only [hc]) | (first | apply c4 | apply c5) <;> (intro hc; rw [hc])))
  refine X_for 16 l.length (fun i s => s.h.get 2 = some (.map (mapS strP ((l.take i).map nm))) ∧ s.t.get 10 = some (.mm 2) ∧ ((l.take i).map nm).Nodup ∧ (∀ x ∈ l.take i, ok x = true) ∧ i ≤ m) 0 (by omega) ?_ (Nat.zero_le _) ⟨by simp only [go_sem, Int.reduceLT, Int.reduceLE, Int.reduceNeg, Int.reduceEq, Nat.reduceAdd, Nat.reduceEqDiff, Nat.reduceLeDiff, Nat.reduceBEq, reduceIte, reduceCtorEq]; rfl, by simp only [go_sem, Int.reduceLT, Int.reduceLE, Int.reduceNeg, Int.reduceEq, Nat.reduceAdd, Nat.reduceEqDiff, Nat.reduceLeDiff, Nat.reduceBEq, reduceIte, reduceCtorEq], by simp, by simp, Nat.zero_le _⟩ ?_
  · simp only [go_sem, Int.reduceLT, Int.reduceLE, Int.reduceNeg, Int.reduceEq, Nat.reduceAdd, Nat.reduceEqDiff, Nat.reduceLeDiff, Nat.reduceBEq, reduceIte, reduceCtorEq]; rfl
  intro i t h nx hf hi0 hi h16 hj
  obtain ⟨hh, h10, hnd, hok, him⟩ := hj
  dsimp only at hh h10
  have h0 := hf 0 rfl; simp only [PT.get_set, Nat.reduceEqDiff, if_true, if_false, reduceIte, PT.get_leaf] at h0; have h1 := hf 1 rfl; simp only [PT.get_set, Nat.reduceEqDiff, if_true, if_false, reduceIte, PT.get_leaf] at h1; have h2 := hf 2 rfl; simp only [PT.get_set, Nat.reduceEqDiff, if_true, if_false, reduceIte, PT.get_leaf] at h2; have h3 := hf 3 rfl; simp only [PT.get_set, Nat.reduceEqDiff, if_true, if_false, reduceIte, PT.get_leaf] at h3; have h14 := hf 14 rfl; simp only [PT.get_set, Nat.reduceEqDiff, if_true, if_false, reduceIte, PT.get_leaf] at h14; have h15 := hf 15 rfl; simp only [PT.get_set, Nat.reduceEqDiff, if_true, if_false, reduceIte, PT.get_leaf] at h15
  have h1' := h1
  clear hf h1
  rcases Nat.lt_or_ge i l.length with hlt | hge
  · obtain ⟨x, hx, _, htk⟩ := get_dec (l := l) (i := i) (by simpa using hlt)
    have hm : x ∈ l := List.mem_of_getElem? hx
    have hdl : decide ((i : Int) < (l.length : Int)) = true := by simpa using hlt
    by_cases h1 : i = m
    · repeat' (first | simp only [go_sem, Int.reduceLT, Int.reduceLE, Int.reduceNeg, Int.reduceEq, Nat.reduceAdd, Nat.reduceEqDiff, Nat.reduceLeDiff, Nat.reduceBEq, reduceIte, reduceCtorEq, h0, h1', h2, h3, h10, h14, h15, h16, hh, hx, hdl, show decide ((i : Int) = (m : Int)) = true by (simp; omega)] | (with_reducible first | apply c1 | (first | apply c2 | apply c3) <;> (intro hc; simp only [hc]) | (first | apply c4 | apply c5) <;> (intro hc; rw [hc])))
      refine ⟨(i : Int), ?_⟩
      rw [goodB_long (by omega)]
      rfl
    have hdm : decide ((i : Int) = (m : Int)) = false := by simp; omega
    cases hox : ok x with
    | false =>
      repeat' (first | simp only [go_sem, Int.reduceLT, Int.reduceLE, Int.reduceNeg, Int.reduceEq, Nat.reduceAdd, Nat.reduceEqDiff, Nat.reduceLeDiff, Nat.reduceBEq, reduceIte, reduceCtorEq, h0, h1', h2, h3, h10, h14, h15, h16, hh, hx, hdl, hdm, callv_1 (hr x hm), hox] | (with_reducible first | apply c1 | (first | apply c2 | apply c3) <;> (intro hc; simp only [hc]) | (first | apply c4 | apply c5) <;> (intro hc; rw [hc])))
      refine ⟨(i : Int), ?_⟩
      rw [goodB_bad hm hox]
      rfl
    | true =>
      cases hmem : memB (nm x) ((l.take i).map nm) with
      | true =>
        repeat' (first | simp only [go_sem, Int.reduceLT, Int.reduceLE, Int.reduceNeg, Int.reduceEq, Nat.reduceAdd, Nat.reduceEqDiff, Nat.reduceLeDiff, Nat.reduceBEq, reduceIte, reduceCtorEq, h0, h1', h2, h3, h10, h14, h15, h16, hh, hx, hdl, hdm, callv_1 (hr x hm), hox, callv_1 (hn x hm), hnf, lkp_str hnd, hmem] | (with_reducible first | apply c1 | (first | apply c2 | apply c3) <;> (intro hc; simp only [hc]) | (first | apply c4 | apply c5) <;> (intro hc; rw [hc])))
        refine ⟨(i : Int), ?_⟩
        rw [goodB_twice hx (memB_iff.1 hmem)]
        rfl
      | false =>
        repeat' (first | simp only [go_sem, Int.reduceLT, Int.reduceLE, Int.reduceNeg, Int.reduceEq, Nat.reduceAdd, Nat.reduceEqDiff, Nat.reduceLeDiff, Nat.reduceBEq, reduceIte, reduceCtorEq, h0, h1', h2, h3, h10, h14, h15, h16, hh, hx, hdl, hdm, callv_1 (hr x hm), hox, callv_1 (hn x hm), hnf, lkp_str hnd, mup_str hnd (memB_not.1 hmem), hmem] | (with_reducible first | apply c1 | (first | apply c2 | apply c3) <;> (intro hc; simp only [hc]) | (first | apply c4 | apply c5) <;> (intro hc; rw [hc])))
        refine ⟨hlt, ?_, ?_, ?_, by omega⟩
        · rw [htk]; simp [mapS]
        · rw [htk, List.map_append, List.map_singleton]
          exact nodup_snoc.2 ⟨hnd, memB_not.1 hmem⟩
        · intro y hy
          rw [htk, List.mem_append, List.mem_singleton] at hy
          rcases hy with hy | rfl
          · exact hok y hy
          · exact hox
  · have he : l.take i = l := List.take_of_length_le hge
    rw [he] at hnd hok
    repeat' (first | simp only [go_sem, Int.reduceLT, Int.reduceLE, Int.reduceNeg, Int.reduceEq, Nat.reduceAdd, Nat.reduceEqDiff, Nat.reduceLeDiff, Nat.reduceBEq, reduceIte, reduceCtorEq, h0, h1', h2, h3, h14, h15, h16, show decide ((i : Int) < (l.length : Int)) = false by simpa using hge] | (with_reducible first | apply c1 | (first | apply c2 | apply c3) <;> (intro hc; simp only [hc]) | (first | apply c4 | apply c5) <;> (intro hc; rw [hc])))
    refine ⟨0, ?_⟩
    rw [goodB_ok (by omega) hok hnd]
    rfl
end Go.Proofs.YtddmnddocbmjnaaGreat.Dv
