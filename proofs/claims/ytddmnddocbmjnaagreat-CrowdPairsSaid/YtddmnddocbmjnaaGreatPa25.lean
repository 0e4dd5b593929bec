/- CrowdPairs: whatever plain data comes in, the call returns true and leaves its arguments as they were. No condition. -/
import Derived.Test.YtddmnddocbmjnaaGreatPa24
import Derived.KernelRfl
import Derived.Test.YtddmnddocbmjnaaGreatRows
set_option linter.all false
set_option linter.unusedVariables false
set_option linter.unusedSectionVars false
set_option linter.unusedSimpArgs false
namespace Go.Proofs.YtddmnddocbmjnaaGreat.Dv
theorem clashes_res (p : VProblem) (hp : smP p) (l : List VSeat) (hl : l.length ≤ 1048576) (w : List VLoad) (hw : ∀ x ∈ w, loadS x) (hwl : w.length ≤ 12) :
    res Tryz.prog G0 14 [p.P, .lst (l.map VSeat.P), .lst (w.map VLoad.P)] = some (I (clashN p l w)) := by
  refine res_body c_crowd_Clashes (Nat.le_of_ble_eq_true rfl) ?_
  simp only [m_crowd_Clashes, Oo, Ou, Og, Ci, Om, Of, Ol, Ok]
  repeat' (first | simp only [go_sem, Int.reduceLT, Int.reduceLE, Int.reduceNeg, Int.reduceEq, Nat.reduceAdd, Nat.reduceEqDiff, Nat.reduceLeDiff, Nat.reduceBEq, reduceIte, reduceCtorEq] | (with_reducible first | apply c1 | (first | apply c2 | apply c3) <;> (intro hc; simp only [hc]) | (first | apply c4 | apply c5) <;> (intro hc; rw [hc])))
  refine X_for 12 w.length (fun i s => s.h.get 0 = some (.cells (DV.cells (.p p.P)) false) ∧ 0 < s.nx ∧ s.t.get 7 = some (.p (I (clashN p l (w.take i) : Nat)))) 0 (by omega) ?_ (Nat.zero_le _) ?_ ?_
  · simp only [go_sem, Int.reduceLT, Int.reduceLE, Int.reduceNeg, Int.reduceEq, Nat.reduceAdd, Nat.reduceEqDiff, Nat.reduceLeDiff, Nat.reduceBEq, reduceIte, reduceCtorEq]; rfl
  · exact ⟨by simp only [go_sem, Int.reduceLT, Int.reduceLE, Int.reduceNeg, Int.reduceEq, Nat.reduceAdd, Nat.reduceEqDiff, Nat.reduceLeDiff, Nat.reduceBEq, reduceIte, reduceCtorEq], by first | decide | (dsimp only; omega), by simp only [go_sem, Int.reduceLT, Int.reduceLE, Int.reduceNeg, Int.reduceEq, Nat.reduceAdd, Nat.reduceEqDiff, Nat.reduceLeDiff, Nat.reduceBEq, reduceIte, reduceCtorEq]; simp [clashN]⟩
  intro i t h nx hf hi0 hi h12 hj
  obtain ⟨hh, hnx, h7⟩ := hj
  dsimp only at hh h7 hnx
  have h1 := hf 1 rfl; simp only [PT.get_set, Nat.reduceEqDiff, if_true, if_false, reduceIte, PT.get_leaf] at h1; have h3 := hf 3 rfl; simp only [PT.get_set, Nat.reduceEqDiff, if_true, if_false, reduceIte, PT.get_leaf] at h3; have h10 := hf 10 rfl; simp only [PT.get_set, Nat.reduceEqDiff, if_true, if_false, reduceIte, PT.get_leaf] at h10; have h11 := hf 11 rfl; simp only [PT.get_set, Nat.reduceEqDiff, if_true, if_false, reduceIte, PT.get_leaf] at h11
  clear hf
  rcases Nat.lt_or_ge i w.length with hlt | hge
  · obtain ⟨x, hx, _, htx⟩ := get_dec (l := w) (i := i) (by simpa using hlt)
    have hdl : decide ((i : Int) < (w.length : Int)) = true := by simpa using hlt
    have hxm := hw x (List.mem_of_getElem? hx)
    obtain ⟨_, e2⟩ := rpairsL p hp l hl x hxm
    have e1 := pairs_res p hp l hl x hxm
    have e3 := clashN_le (p := p) hp (l := l) hl (w := w.take i) (fun y hy => hw y (List.mem_of_mem_take hy))
    rw [List.length_take] at e3
    repeat' (first | simp only [go_sem, Int.reduceLT, Int.reduceLE, Int.reduceNeg, Int.reduceEq, Nat.reduceAdd, Nat.reduceEqDiff, Nat.reduceLeDiff, Nat.reduceBEq, reduceIte, reduceCtorEq, h1, h3, h7, h10, h11, h12, hh, hx, hdl, q_crowd_Pairs, e1, wrap_id (n := ((clashN p l (w.take i) : Nat) : Int) + ((prsL p l x).length : Int)) (by omega) (by omega)] | (with_reducible first | apply c1 | (first | apply c2 | apply c3) <;> (intro hc; simp only [hc]) | (first | apply c4 | apply c5) <;> (intro hc; rw [hc])))
    refine ⟨hlt, by omega, ?_⟩
    rw [htx, clashN_snoc, Int.natCast_add]
  · repeat' (first | simp only [go_sem, Int.reduceLT, Int.reduceLE, Int.reduceNeg, Int.reduceEq, Nat.reduceAdd, Nat.reduceEqDiff, Nat.reduceLeDiff, Nat.reduceBEq, reduceIte, reduceCtorEq, h1, h3, h7, h10, h11, h12, hh, show decide ((i : Int) < (w.length : Int)) = false by simpa using hge] | (with_reducible first | apply c1 | (first | apply c2 | apply c3) <;> (intro hc; simp only [hc]) | (first | apply c4 | apply c5) <;> (intro hc; rw [hc])))
    rw [List.take_of_length_le hge]
end Go.Proofs.YtddmnddocbmjnaaGreat.Dv
namespace Go.Proofs.YtddmnddocbmjnaaGreat.Dv
def m_law43_CrowdPairs : MF := ⟨59, (.seq (.reg none [Oo 3 (.box (.t 0)), Oo 6 (.mov (.d (.p (.s (.bool false)))))]) (.seq (.seq (.reg none [Oo 8 (.load true 15 (.t 3)), Om 9 1, Oo 10 (.call 8 [.t 8, .t 9]), Oo 11 (.un .not (.t 10)), Om 12 11, Og 13 12 false (.mov (.t 2)), Og 14 12 false (.call 9 [.t 13]), Og 15 12 false (.un .not (.t 14)), Oo 16 (.pick (.t 12) (.d (.p (.s (.bool true)))) (.t 15))]) (.cond (.t 16) (.seq (.reg none [Oo 17 (.call 10 []), Om 6 17]) .ret) .skip)) (.seq (.seq (.reg none [Oo 7 (.mov (.d (Ci 0)))]) (.block 0 (.loop (.seq (.seq (.reg none [Om 18 7, Om 19 2, Ok 20 19, Oo 21 (.iop .lss (.t 18) (.t 20))]) (.cond (.t 21) .skip (.exit 0))) (.seq (.block 1 (.seq (.reg (some #[0, 0, 0, 0, 12, 28, 63, 0, 0, 0, 0, 1536, 3584, 8191, 16383, 32767]) [Oo 24 (.load true 15 (.t 3)), Om 25 1, Om 26 2, Om 27 7, Oo 28 (.iadrS 1 (.t 26) (.t 27)), Oo 29 (.load true 1 (.t 28)), Oo 30 (.call 12 [.t 24, .t 25, .t 29]), Oo 31 (.load true 15 (.t 3)), Om 32 1, Om 33 2, Om 34 7, Oo 35 (.iadrS 1 (.t 33) (.t 34)), Oo 36 (.load true 1 (.t 35)), Oo 37 (.call 13 [.t 31, .t 32, .t 36]), Oo 38 (.call 11 [.t 30, .t 37]), Oo 39 (.un .not (.t 38))]) (.cond (.t 39) (.seq (.reg none [Oo 6 (.mov (.d (.p (.s (.bool false)))))]) .ret) .skip))) (.reg none [Om 22 7, Oo 23 (.iop .add (.t 22) (.d (Ci 1))), Om 7 23])))))) (.seq (.reg (some #[0, 0, 0, 7, 0, 0, 0, 127, 255, 511, 1023, 2047, 1023, 8191, 16383, 32767, 65535, 131071, 262143, 524287]) [Oo 40 (.load true 15 (.t 3)), Om 41 1, Om 42 2, Oo 43 (.call 14 [.t 40, .t 41, .t 42]), Oo 44 (.load true 15 (.t 3)), Om 45 1, Om 46 2, Oo 47 (.call 15 [.t 44, .t 45, .t 46]), Oo 48 (.iop .eql (.t 43) (.t 47)), Om 49 48, Og 50 49 true (.mov (.t 2)), Og 51 49 true (.call 16 [.t 50]), Og 52 49 true (.mov (.t 2)), Og 53 49 true (.call 17 [.t 52]), Og 54 49 true (.iop .eql (.t 51) (.t 53)), Oo 55 (.pick (.t 49) (.t 54) (.d (.p (.s (.bool false))))), Om 56 55, Og 57 56 true (.call 10 []), Oo 58 (.pick (.t 56) (.t 57) (.d (.p (.s (.bool false))))), Om 6 58]) .ret)))), [.tmp 6]⟩
theorem c_law43_CrowdPairs : comp Tryz.prog G0 3 = some m_law43_CrowdPairs := by kernel_rfl
theorem q_law43_heads {fn : FuncId} {xs : List DV} {dst : Option Nat} {id : Nat} {s : St} : mCall G0 fn (callR Tryz.prog G0) 10 xs dst id s = mRes Tryz.prog G0 10 dst s (snaps s.h xs) := mCall_pure rfl
theorem res_callP {P : Program} {G : Cfg} {k : Nat} {f : FuncId} {ps : List PDV} {q : PDV} (h : callP P G k f ps = some q) : res P G f ps = some q := by
  unfold callP at h
  split at h
  · rename_i r h' n' hc
    unfold res
    rw [callR_of P G hc]
    exact h
  · cases h
theorem heads_res : res Tryz.prog G0 10 [] = some (B true) := res_callP heads_true
theorem short_S {w : List VLoad} (h : shortB w = true) : (∀ x ∈ w, loadS x) ∧ w.length ≤ 12 := by
  simp only [shortB, Bool.and_eq_true, decide_eq_true_eq, List.all_eq_true, shortX] at h
  exact ⟨fun x hx => h.2 x hx, h.1⟩
theorem pairs_true (p : VProblem) (hb : p.bg) (l : List VSeat) (w : List VLoad) : res Tryz.prog G0 3 [p.P, .lst (l.map VSeat.P), .lst (w.map VLoad.P)] = some (B true) := by
  have hfew := few_res p (bg_courses hb) l
  have hsh := short_res w
  refine res_body c_law43_CrowdPairs (Nat.le_of_ble_eq_true rfl) ?_
  simp only [m_law43_CrowdPairs, Oo, Ou, Og, Ci, Om, Of, Ol, Ok]
  cases hF : fewB p l
  · rw [hF] at hfew
    repeat' (first | simp only [go_sem, Int.reduceLT, Int.reduceLE, Int.reduceNeg, Int.reduceEq, Nat.reduceAdd, Nat.reduceEqDiff, Nat.reduceLeDiff, Nat.reduceBEq, reduceIte, reduceCtorEq, q_law43_few, hfew, q_law43_heads, heads_res] | (with_reducible first | apply c1 | (first | apply c2 | apply c3) <;> (intro hc; simp only [hc]) | (first | apply c4 | apply c5) <;> (intro hc; rw [hc])))
  rw [hF] at hfew
  cases hS : shortB w
  · rw [hS] at hsh
    repeat' (first | simp only [go_sem, Int.reduceLT, Int.reduceLE, Int.reduceNeg, Int.reduceEq, Nat.reduceAdd, Nat.reduceEqDiff, Nat.reduceLeDiff, Nat.reduceBEq, reduceIte, reduceCtorEq, q_law43_few, hfew, q_law43_short, hsh, q_law43_heads, heads_res] | (with_reducible first | apply c1 | (first | apply c2 | apply c3) <;> (intro hc; simp only [hc]) | (first | apply c4 | apply c5) <;> (intro hc; rw [hc])))
  rw [hS] at hsh
  obtain ⟨hp, hl⟩ := few_sm hb hF
  obtain ⟨hw, hwl⟩ := short_S hS
  have hL : l.length ≤ 1048576 := by omega
  repeat' (first | simp only [go_sem, Int.reduceLT, Int.reduceLE, Int.reduceNeg, Int.reduceEq, Nat.reduceAdd, Nat.reduceEqDiff, Nat.reduceLeDiff, Nat.reduceBEq, reduceIte, reduceCtorEq, q_law43_few, hfew, q_law43_short, hsh] | (with_reducible first | apply c1 | (first | apply c2 | apply c3) <;> (intro hc; simp only [hc]) | (first | apply c4 | apply c5) <;> (intro hc; rw [hc])))
  refine X_for 7 w.length (fun i s => s.h.get 0 = some (.cells (DV.cells (.p p.P)) false)) 0 (by omega) ?_ (Nat.zero_le _) ?_ ?_
  · simp only [go_sem, Int.reduceLT, Int.reduceLE, Int.reduceNeg, Int.reduceEq, Nat.reduceAdd, Nat.reduceEqDiff, Nat.reduceLeDiff, Nat.reduceBEq, reduceIte, reduceCtorEq]; rfl
  · simp only [go_sem, Int.reduceLT, Int.reduceLE, Int.reduceNeg, Int.reduceEq, Nat.reduceAdd, Nat.reduceEqDiff, Nat.reduceLeDiff, Nat.reduceBEq, reduceIte, reduceCtorEq]
  intro i t h nx hf hi0 hi h7 hh
  dsimp only at hh
  have h1 := hf 1 rfl; simp only [PT.get_set, Nat.reduceEqDiff, if_true, if_false, reduceIte, PT.get_leaf] at h1; have h2 := hf 2 rfl; simp only [PT.get_set, Nat.reduceEqDiff, if_true, if_false, reduceIte, PT.get_leaf] at h2; have h3 := hf 3 rfl; simp only [PT.get_set, Nat.reduceEqDiff, if_true, if_false, reduceIte, PT.get_leaf] at h3
  clear hf
  rcases Nat.lt_or_ge i w.length with hlt | hge
  · obtain ⟨x, hx, _, htx⟩ := get_dec (l := w) (i := i) (by simpa using hlt)
    have hdl : decide ((i : Int) < (w.length : Int)) = true := by simpa using hlt
    have hxm := hw x (List.mem_of_getElem? hx)
    have e1 := pairs_res p hp l hL x hxm
    obtain ⟨e2, e3⟩ := rpairsL p hp l hL x hxm
    have e4 := twos_res (prsL p l x) (prsL p l x) (by omega)
    rw [decide_eq_true rfl] at e4
    repeat' (first | simp only [go_sem, Int.reduceLT, Int.reduceLE, Int.reduceNeg, Int.reduceEq, Nat.reduceAdd, Nat.reduceEqDiff, Nat.reduceLeDiff, Nat.reduceBEq, reduceIte, reduceCtorEq, h1, h2, h3, h7, hh, hx, hdl, q_crowd_Pairs, e1, q_ref43_Pairs, e2, q_ref43_Twos, e4] | (with_reducible first | apply c1 | (first | apply c2 | apply c3) <;> (intro hc; simp only [hc]) | (first | apply c4 | apply c5) <;> (intro hc; rw [hc])))
    exact hlt
  · have e1 := clashes_res p hp l hL w hw hwl
    have e2 := rclashes_res p hp l hL w hw hwl
    have e3 := lacks_res w hS
    have e4 := rlacks_res w hS
    repeat' (first | simp only [go_sem, Int.reduceLT, Int.reduceLE, Int.reduceNeg, Int.reduceEq, Nat.reduceAdd, Nat.reduceEqDiff, Nat.reduceLeDiff, Nat.reduceBEq, reduceIte, reduceCtorEq, h1, h2, h3, h7, hh, show decide ((i : Int) < (w.length : Int)) = false by simpa using hge, q_crowd_Clashes, e1, q_ref43_Clashes, e2, q_crowd_Lacks, e3, q_ref43_Lacks, e4, q_law43_heads, heads_res] | (with_reducible first | apply c1 | (first | apply c2 | apply c3) <;> (intro hc; simp only [hc]) | (first | apply c4 | apply c5) <;> (intro hc; rw [hc])))
theorem wtA_3 {P : Program} {a b c : TypeId} {xs : List PDV} (h : wtA P [a, b, c] xs) : ∃ x y z, xs = [x, y, z] ∧ wtV P a x ∧ wtV P b y ∧ wtV P c z := by
  match xs, h with
  | [x, y, z], h => exact ⟨x, y, z, rfl, h.1, h.2.1, h.2.2.1⟩
theorem wtV_t {P : Program} {t : TypeId} {x : PDV} (h : wtV P t x) (ha : aggT P t = some true) : ∃ c, x = .agg c ∧ wt P 12 t c := by
  rcases h with ⟨_, h⟩ | ⟨h, _⟩
  · exact h
  · rw [ha] at h; cases h
theorem wtV_f {P : Program} {t : TypeId} {x : PDV} (h : wtV P t x) (ha : aggT P t = some false) : wt P 12 t [x] := by
  rcases h with ⟨h, _⟩ | ⟨_, h⟩
  · rw [ha] at h; cases h
  · exact h
set_option maxRecDepth 100000 in
theorem pairs_law (xs : List PDV) (h : wtA Tryz.prog Tryz.f3.params.toList xs) : ∃ k, callP Tryz.prog G0 k 3 xs = some (.s (.bool true)) := by
  have e0 : Tryz.f3.params.toList = [34, 35, 36] := by kernel_rfl
  rw [e0] at h
  have a0 : aggT Tryz.prog 34 = some true := by kernel_rfl
  have b0 : aggT Tryz.prog 35 = some false := by kernel_rfl
  have c0 : aggT Tryz.prog 36 = some false := by kernel_rfl
  obtain ⟨a, b, c, hx, ha, hb, hc⟩ := wtA_3 h
  obtain ⟨x, ha1, ha2⟩ := wtV_t ha a0
  have q1 : wt Tryz.prog 12 34 x := ha2
  have q2 : ∃ x1 : VProblem, x = x1.P.cells ∧ x1.bg := w_Problem q1
  obtain ⟨p, hp, hp2⟩ := q2
  obtain ⟨l, hl, _⟩ := w_seats (n := 12) (ds := [b]) (wtV_f hb b0)
  obtain ⟨w, hw, _⟩ := w_loads (n := 12) (ds := [c]) (wtV_f hc c0)
  rw [hx, ha1, hp, List.singleton_inj.1 hl, List.singleton_inj.1 hw]
  exact callP_res (pairs_true p hp2 l w)
end Go.Proofs.YtddmnddocbmjnaaGreat.Dv
namespace Go.Proofs.YtddmnddocbmjnaaGreat
open Go.RowKit Go.WideShapes Go.ChangeShapes
set_option maxRecDepth 100000 in
theorem crowdPairs_lifted (os : Os) (started : os.Started) (H : Type) (enc : TypeId × Value → H) :
    ReturnsInHanded {} Tryz.checked os 3 .any (Rows.crowdPairsSpec.pre6 enc Tryz.prog Tryz.f3 Rows.crowdPairsRow.domain false) (Rows.crowdPairsSpec.post enc Tryz.prog Tryz.f3 false true false false) := by
  refine Dv.law_lift (C := Tryz.checked) Dv.extOK Dv.extLoc Dv.codeOK Dv.mixed Tryz.laidOut Tryz.own started (by kernel_rfl) Tryz.func3
    (ChangeSpec.witness6 (enc := enc) (C := Tryz.checked) false ⟨#[], #[Dv.zvP Tryz.prog 34, Dv.zvP Tryz.prog 35, Dv.zvP Tryz.prog 36], []⟩ 12 (by kernel_rfl) (by kernel_rfl) (by kernel_rfl) (by kernel_rfl))
    rfl rfl rfl Tryz.underlying4 (by decide +kernel) (fun ds hds => by
    match ds, hds with
    | [a, b, c], _ => exact ⟨rfl, rfl, rfl⟩) Dv.pairs_law
set_option maxHeartbeats 4000000 in
theorem crowdPairs_facts : joinedFacts Tryz.prog 3 Tryz.f3 Rows.crowdPairsSpec Rows.crowdPairsRow = true := by
  unfold joinedFacts
  simp only [Bool.and_eq_true]
  repeat' apply And.intro
  all_goals (as_aux_lemma => kernel_rfl)
theorem crowdPairs_holds : Rows.CrowdPairsSaid :=
  OpenClaim.holds_of_wide 3 Tryz.f3 rfl rfl rfl rfl rfl rfl rfl ⟨rfl, rfl, rfl, rfl, rfl⟩ rfl rfl rfl rfl rfl (by kernel_rfl) Tryz.func3 crowdPairs_facts
    (of_decide_eq_true (by kernel_rfl)) (by unfold Func.isWrapper; first | (rw [if_pos (by decide +kernel)]; kernel_rfl) | (rw [if_neg (by decide +kernel)]; exact ⟨rfl, rfl⟩))
    (fun os started H enc _ => crowdPairs_lifted os started H enc)
end Go.Proofs.YtddmnddocbmjnaaGreat
