/- Part 23 of the proof: CrowdPairs: whatever plain data comes in, the call returns true and leaves its arguments as they were. No condition. -/
import Derived.Test.YtddmnddocbmjnaaGreatPa22
import Derived.KernelRfl
set_option linter.all false
set_option linter.unusedVariables false
set_option linter.unusedSectionVars false
set_option linter.unusedSimpArgs false
namespace Go.Proofs.YtddmnddocbmjnaaGreat.Dv
def m_slices_Grow_Lint_int_ : MF := ⟨27, (.seq (.reg none [Oo 4 (.mov (.d .nil))]) (.seq (.seq (.reg none [Om 5 1, Oo 6 (.iop .lss (.t 5) (.d (Ci 0)))]) (.cond (.t 6) (.reg none [Oo 7 .stop, Ou .stop]) .skip)) (.seq (.seq (.reg none [Om 8 1, Om 9 0, Oo 10 (.cap (.t 9)), Om 11 0, Ok 12 11, Oo 13 (.iop .sub (.t 10) (.t 12)), Oo 14 (.iop .sub (.t 8) (.t 13)), Om 1 14]) (.seq (.reg none [Om 15 1, Oo 16 (.iop .gtr (.t 15) (.d (Ci 0)))]) (.cond (.t 16) (.reg none [Om 17 0, Om 18 0, Oo 19 (.cap (.t 18)), Oo 20 (.ssl 1 (.t 17) none (some (.t 19)) none), Om 21 1, Oo 22 (.appz true none 8 [(Ci 0)] (.t 20) (.t 21)), Om 23 0, Ok 24 23, Oo 25 (.ssl 1 (.t 22) none (some (.t 24)) none), Om 0 25]) .skip))) (.seq (.reg none [Om 26 0, Om 4 26]) .ret)))), [.tmp 4]⟩
theorem c_slices_Grow_Lint_int_ : comp Tryz.prog G0 93 = some m_slices_Grow_Lint_int_ := by kernel_rfl
def m_slices_Concat_Lint_int_ : MF := ⟨36, (.seq (.reg none [Oo 2 (.mov (.d .nil))]) (.seq (.reg none [Oo 3 (.mov (.d (Ci 0)))]) (.seq (.seq (.reg none [Om 9 0, Ok 10 9, Oo 11 (.mov (.d (Ci 0)))]) (.block 0 (.loop (.seq (.reg none [Oo 12 (.iop .lss (.t 11) (.t 10))]) (.seq (.cond (.t 12) .skip (.exit 0)) (.seq (.block 1 (.seq (.reg none [Oo 13 (.iadrS 1 (.t 9) (.t 11)), Ol 14 13, Om 5 14]) (.seq (.reg none [Om 15 3, Om 16 5, Ok 17 16, Oo 18 (.iop .add (.t 15) (.t 17)), Om 3 18]) (.seq (.reg none [Om 19 3, Oo 20 (.iop .lss (.t 19) (.d (Ci 0)))]) (.cond (.t 20) (.reg none [Oo 21 .stop, Ou .stop]) .skip))))) (.reg none [Oo 22 (.iop .add (.t 11) (.d (Ci 1))), Om 11 22]))))))) (.seq (.reg none [Om 23 3, Oo 24 (.call 93 [(.d .nil), .t 23]), Om 6 24]) (.seq (.seq (.reg none [Om 25 0, Ok 26 25, Oo 27 (.mov (.d (Ci 0)))]) (.block 2 (.loop (.seq (.reg none [Oo 28 (.iop .lss (.t 27) (.t 26))]) (.seq (.cond (.t 28) .skip (.exit 2)) (.seq (.block 3 (.seq (.reg none [Oo 29 (.iadrS 1 (.t 25) (.t 27)), Ol 30 29, Om 8 30]) (.reg none [Om 31 6, Om 32 8, Oo 33 (.app true none 8 (.t 31) (.t 32)), Om 6 33]))) (.reg none [Oo 34 (.iop .add (.t 27) (.d (Ci 1))), Om 27 34]))))))) (.seq (.reg none [Om 35 6, Om 2 35]) .ret)))))), [.tmp 2]⟩
theorem c_slices_Concat_Lint_int_ : comp Tryz.prog G0 57 = some m_slices_Concat_Lint_int_ := by kernel_rfl
def m_crowd_classes : MF := ⟨11, (.seq (.reg none [Oo 1 (.box (.t 0)), Oo 2 (.mov (.d .nil))]) (.seq (.reg none [Of 4 0 1, Ol 5 4, Oo 6 (.call 57 [.t 5]), Om 3 6]) (.seq (.reg none [Om 7 3, Oo 8 (.call 58 [.t 7])]) (.seq (.reg none [Om 9 3, Oo 10 (.call 59 [.t 9]), Om 2 10]) .ret)))), [.tmp 2]⟩
theorem c_crowd_classes : comp Tryz.prog G0 32 = some m_crowd_classes := by kernel_rfl
theorem q_crowd_classes : Q0 32 := mCall_pure rfl
theorem mCall_ref {P : Program} {G : Cfg} {fn g : FuncId} (hm : G.mode fn g = .ref) {xs : List DV} {dst : Option Nat} {id : Nat} {s : St} {r : DV} {h' : PT AObj} {n' : Nat} (hc : callR P G g xs s.h s.nx = some (r, h', n')) : mCall G fn (callR P G) g xs dst id s = some (⟨putD s.t dst r, h', n'⟩, { ran := true, big := true }) := by
  unfold mCall
  simp only [hm, hc]
theorem opsK_ref {P : Program} {G : Cfg} {fn g : FuncId} (hm : G.mode fn g = .ref) {xs : List DV} {dst : Option Nat} {idc id : Nat} {s : St} {os : List MO} {dr : Option (Array Nat)} {lg : List Log} {Q : DX → St → Prop} {R : DV → PT AObj → Nat → Prop} (hc : ∃ r h' n', callR P G g xs s.h s.nx = some (r, h', n') ∧ R r h' n') (hk : ∀ r h' n', R r h' n' → Ops P G fn os id dr ({ ran := true, big := true } :: lg) ⟨putD s.t dst r, h', n'⟩ Q) : opsK P G fn os id dr lg Q (mCall G fn (callR P G) g xs dst idc s) := by
  obtain ⟨r, h', n', h1, h2⟩ := hc
  rw [mCall_ref hm h1]
  exact hk r h' n' h2
theorem mCall_ext {P : Program} {G : Cfg} {fn g : FuncId} (hm : G.mode fn g = .ext) {F : ExtF} (hF : G.ext g = some F) {xs : List DV} {dst : Option Nat} {id : Nat} {s : St} {e : Eff} (he : F xs s.h id = some e) : mCall G fn (callR P G) g xs dst id s = effS dst s (some e) := by
  unfold mCall
  simp only [hm, hF, he]
theorem mCall_ownA {P : Program} {G : Cfg} {fn g : FuncId} (hm : G.mode fn g = .ownA) {xs : List DV} {dst : Option Nat} {id : Nat} {s : St} {ps : List PDV} {rd : List Nat} (hs : snaps s.h xs = some (ps, rd)) {r : DV} {h1 : PT AObj} {n1 : Nat} (hc : callR P G g (ps.map .p) .leaf 0 = some (r, h1, n1)) {e : Eff} (he : own true h1 r id rd (freeze s.h rd) = some e) : mCall G fn (callR P G) g xs dst id s = effS dst s (some e) := by
  unfold mCall
  simp only [hm]
  unfold callE
  simp only [hs, hc, he]
theorem cap_nil : capX .nil = some (.p (.s (.int .i64 0))) := rfl
theorem lenL_nil : lenLX .nil = some (.p (.s (.int .i64 0))) := rfl
theorem ssl_nil0 : sslX 1 .nil none (some (.p (.s (.int .i64 0)))) none = some .nil := rfl
theorem ssl_to0 {id n av : Nat} : sslX 1 (.ms id 0 n av none) none (some (.p (.s (.int .i64 0)))) none = some (.ms id 0 0 av none) := ssl_to (k := 0) (Nat.zero_le _)
theorem appz_nil {n : Nat} {id : Nat} {h : PT AObj} (h0 : 0 < n) (hn : n ≤ 1048576) : appzX true none 8 [.p (.s (.int .i64 0))] .nil (.p (.s (.int .i64 (n : Int)))) h id = some { dv := .ms id 0 n n none, rd := [], up := [(id, some (.cells (CI (List.replicate n 0)) false))] } := by
  simp only [appzX, zsrc]
  rw [if_pos ⟨by omega, by omega, by rw [Int.toNat_natCast]; omega⟩]
  simp only [Int.toNat_natCast, if_neg (Nat.ne_of_gt h0)]
  rw [if_pos (by omega), zeros_CI]
  rfl
theorem grow_X (n : Nat) (hn : n ≤ 1048576) (h : PT AObj) (nx : Nat) : ∃ r h' n', callR Tryz.prog G0 93 [.nil, .p (I (n : Int))] h nx = some (r, h', n') ∧ ((n = 0 ∧ r = .nil) ∨ (0 < n ∧ ∃ i, r = .ms i 0 0 n none ∧ h'.get i = some (.cells (CI (List.replicate n 0)) false))) := by
  refine callR_body c_slices_Grow_Lint_int_ (Nat.le_of_ble_eq_true rfl) (R := fun r h' _ => (n = 0 ∧ r = .nil) ∨ (0 < n ∧ ∃ i, r = .ms i 0 0 n none ∧ h'.get i = some (.cells (CI (List.replicate n 0)) false))) ?_
  simp only [m_slices_Grow_Lint_int_, Oo, Ou, Og, Ci, Om, Of, Ol, Ok]
  rcases Nat.eq_zero_or_pos n with h0 | h0
  · subst h0
    repeat' (first | simp only [go_sem, Int.reduceLT, Int.reduceLE, Int.reduceNeg, Int.reduceEq, Nat.reduceAdd, Nat.reduceEqDiff, Nat.reduceLeDiff, Nat.reduceBEq, reduceIte, reduceCtorEq, cap_nil, lenL_nil, show decide (((0 : Nat) : Int) < 0) = false by simp, show IntKind.wrap .i64 (0 - 0 : Int) = 0 by decide, show IntKind.wrap .i64 (((0 : Nat) : Int) - 0) = 0 by decide, show decide ((0 : Int) < 0) = false by simp] | (with_reducible first | apply c1 | (first | apply c2 | apply c3) <;> (intro hc; simp only [hc]) | (first | apply c4 | apply c5) <;> (intro hc; rw [hc])))
    exact .inl trivial
  · repeat' (first | simp only [go_sem, Int.reduceLT, Int.reduceLE, Int.reduceNeg, Int.reduceEq, Nat.reduceAdd, Nat.reduceEqDiff, Nat.reduceLeDiff, Nat.reduceBEq, reduceIte, reduceCtorEq, cap_nil, lenL_nil, show decide ((n : Int) < 0) = false by simp, show IntKind.wrap .i64 (0 - 0 : Int) = 0 by decide, show IntKind.wrap .i64 ((n : Int) - 0) = (n : Int) by (rw [wrap_id (by omega) (by omega)]; omega), show decide ((0 : Int) < (n : Int)) = true by (simp only [decide_eq_true_eq]; omega), ssl_nil0, appz_nil h0 hn, ssl_to0] | (with_reducible first | apply c1 | (first | apply c2 | apply c3) <;> (intro hc; simp only [hc]) | (first | apply c4 | apply c5) <;> (intro hc; rw [hc])))
    exact .inr ⟨h0, _, rfl, by simp [PT.get_set]⟩
theorem flatC_I (xs : List Int) : flatC (xs.map I) = CI xs := by
  have : (xs.map I).flatMap PDV.cells = xs.map I := by
    induction xs with
    | nil => rfl
    | cons a l ih => simp only [List.map_cons, List.flatMap_cons, ih]; rfl
  simp [flatC, this, CI]
theorem src_L {xs : List Int} {h : PT AObj} : src h (esK none) (.p (.lst (xs.map I))) = some (CI xs, xs.length, []) := by
  have : szOk (esK none) (xs.map I) = true := szOk_I
  simp only [src, this, if_true, flatC_I, List.length_map]
theorem app_ms {i off len av : Nat} {c xs : List Int} {id : Nat} {h : PT AObj} (hg : h.get i = some (.cells (CI c) false)) (h1 : len + xs.length ≤ av) (h2 : off + (len + xs.length) ≤ c.length) : appX true none 8 (.ms i off len av none) (.p (.lst (xs.map I))) h id = some { dv := .ms i off (len + xs.length) av none, rd := [i], up := [(i, some (.cells (setAt (CI c) (off + len) (CI xs)) false))] } := by
  simp only [appX, src_L, if_true, hg]
  rw [if_pos h1]
  have e : esK none = 1 := rfl
  simp only [e, Nat.mul_one]
  rw [if_pos (by rw [CI_len]; omega)]
theorem app_nil_e {id : Nat} {h : PT AObj} : appX true none 8 .nil (.p (.lst [])) h id = some { dv := .nil, rd := [], up := [] } := rfl
theorem setAt_CI {c xs : List Int} {o : Nat} : setAt (CI c) o (CI xs) = CI (c.take o ++ xs ++ c.drop (o + xs.length)) := by simp [setAt, CI]
theorem grow_step {a r : List Int} {n : Nat} (h : a.length + r.length ≤ n) : (a ++ List.replicate (n - a.length) 0).take a.length ++ r ++ (a ++ List.replicate (n - a.length) 0).drop (a.length + r.length) = (a ++ r) ++ List.replicate (n - (a ++ r).length) 0 := by
  have e1 : (a ++ List.replicate (n - a.length) (0 : Int)).take a.length = a := List.take_left
  rw [e1, ← List.drop_drop, List.drop_left, List.drop_replicate, List.length_append]
  congr 2
  omega
theorem concat_X (rows : List (List Int)) (hr : rows.length ≤ 4096) (hl : rows.flatten.length ≤ 1048576) : ∃ r h' n', callR Tryz.prog G0 57 [.p (LL rows)] .leaf 0 = some (r, h', n') ∧ ((rows.flatten = [] ∧ r = .nil) ∨ (rows.flatten ≠ [] ∧ ∃ i, r = .ms i 0 rows.flatten.length rows.flatten.length none ∧ h'.get i = some (.cells (CI rows.flatten) false))) := by
  refine callR_body c_slices_Concat_Lint_int_ (Nat.le_of_ble_eq_true rfl) (R := fun r h' _ => (rows.flatten = [] ∧ r = .nil) ∨ (rows.flatten ≠ [] ∧ ∃ i, r = .ms i 0 rows.flatten.length rows.flatten.length none ∧ h'.get i = some (.cells (CI rows.flatten) false))) ?_
  simp only [m_slices_Concat_Lint_int_, Oo, Ou, Og, Ci, Om, Of, Ol, Ok, LL]
  have hpre : ∀ i, (rows.take i).flatten.length ≤ rows.flatten.length := fun i => by
    conv => rhs; rw [← List.take_append_drop i rows, List.flatten_append, List.length_append]
    omega
  repeat' (first | simp only [go_sem, Int.reduceLT, Int.reduceLE, Int.reduceNeg, Int.reduceEq, Nat.reduceAdd, Nat.reduceEqDiff, Nat.reduceLeDiff, Nat.reduceBEq, reduceIte, reduceCtorEq] | (with_reducible first | apply c1 | (first | apply c2 | apply c3) <;> (intro hc; simp only [hc]) | (first | apply c4 | apply c5) <;> (intro hc; rw [hc])))
  refine X_for 11 rows.length (fun i s => s.t.get 3 = some (.p (I (((rows.take i).flatten.length : Nat) : Int)))) 0 (by omega) ?_ (Nat.zero_le _) ?_ ?_
  · simp only [go_sem, Int.reduceLT, Int.reduceLE, Int.reduceNeg, Int.reduceEq, Nat.reduceAdd, Nat.reduceEqDiff, Nat.reduceLeDiff, Nat.reduceBEq, reduceIte, reduceCtorEq]; rfl
  · simp only [go_sem, Int.reduceLT, Int.reduceLE, Int.reduceNeg, Int.reduceEq, Nat.reduceAdd, Nat.reduceEqDiff, Nat.reduceLeDiff, Nat.reduceBEq, reduceIte, reduceCtorEq]; simp
  intro i t h nx hf hi0 hi h11 hj
  dsimp only at hj
  have h0 := hf 0 rfl; simp only [PT.get_set, Nat.reduceEqDiff, if_true, if_false, reduceIte, PT.get_leaf] at h0; have h9 := hf 9 rfl; simp only [PT.get_set, Nat.reduceEqDiff, if_true, if_false, reduceIte, PT.get_leaf] at h9; have h10 := hf 10 rfl; simp only [PT.get_set, Nat.reduceEqDiff, if_true, if_false, reduceIte, PT.get_leaf] at h10
  clear hf
  rcases Nat.lt_or_ge i rows.length with hlt | hge
  · obtain ⟨r, hr', _, htk⟩ := get_dec (l := rows) (i := i) (by simpa using hlt)
    have hdl : decide ((i : Int) < (rows.length : Int)) = true := by simpa using hlt
    have hnext : (rows.take (i + 1)).flatten.length = (rows.take i).flatten.length + r.length := by rw [htk]; simp
    have hb := hpre (i + 1)
    rw [hnext] at hb
    have hw : IntKind.wrap .i64 (((rows.take i).flatten.length : Int) + (r.length : Int)) = (((rows.take (i + 1)).flatten.length : Nat) : Int) := by
      rw [wrap_id (by omega) (by omega), hnext]; omega
    repeat' (first | simp only [go_sem, Int.reduceLT, Int.reduceLE, Int.reduceNeg, Int.reduceEq, Nat.reduceAdd, Nat.reduceEqDiff, Nat.reduceLeDiff, Nat.reduceBEq, reduceIte, reduceCtorEq, h0, h9, h10, h11, hj, hr', hdl, hw, show decide ((((rows.take (i + 1)).flatten.length : Nat) : Int) < 0) = false by (simp only [decide_eq_false_iff_not]; omega)] | (with_reducible first | apply c1 | (first | apply c2 | apply c3) <;> (intro hc; simp only [hc]) | (first | apply c4 | apply c5) <;> (intro hc; rw [hc])))
    exact hlt
  rw [List.take_of_length_le hge] at hj
  obtain ⟨g, h1, n1, hcall, hgr⟩ := grow_X rows.flatten.length hl h (nx + 4)
  have hq : ∀ {fn : FuncId} {dst : Option Nat} {id : Nat} {t' : PT DV}, mCall G0 fn (callR Tryz.prog G0) 93 [.nil, .p (.s (.int .i64 ((rows.flatten.length : Nat) : Int)))] dst id ⟨t', h, nx + 4⟩ = some (⟨putD t' dst g, h1, n1⟩, { ran := true, big := true }) := mCall_ref rfl hcall
  rcases hgr with ⟨hn0, rfl⟩ | ⟨hn0, id, rfl, hg1⟩
  · have hne : rows.flatten = [] := List.length_eq_zero_iff.1 hn0
    have hall : ∀ r ∈ rows, r = [] := fun r hr' => by
      rw [List.flatten_eq_nil_iff] at hne
      exact hne r hr'
    repeat' (first | simp only [go_sem, Int.reduceLT, Int.reduceLE, Int.reduceNeg, Int.reduceEq, Nat.reduceAdd, Nat.reduceEqDiff, Nat.reduceLeDiff, Nat.reduceBEq, reduceIte, reduceCtorEq, h0, h9, h10, h11, hj, show decide ((i : Int) < (rows.length : Int)) = false by simpa using hge, hq] | (with_reducible first | apply c1 | (first | apply c2 | apply c3) <;> (intro hc; simp only [hc]) | (first | apply c4 | apply c5) <;> (intro hc; rw [hc])))
    refine X_for 27 rows.length (fun i s => s.t.get 6 = some .nil) 0 (by omega) ?_ (Nat.zero_le _) ?_ ?_
    · simp only [go_sem, Int.reduceLT, Int.reduceLE, Int.reduceNeg, Int.reduceEq, Nat.reduceAdd, Nat.reduceEqDiff, Nat.reduceLeDiff, Nat.reduceBEq, reduceIte, reduceCtorEq]; rfl
    · simp only [go_sem, Int.reduceLT, Int.reduceLE, Int.reduceNeg, Int.reduceEq, Nat.reduceAdd, Nat.reduceEqDiff, Nat.reduceLeDiff, Nat.reduceBEq, reduceIte, reduceCtorEq]
    intro i2 t2 h2 nx2 hf hi0 hi h27 hj2
    dsimp only at hj2
    have f25 := hf 25 rfl; have f26 := hf 26 rfl
    simp only [PT.get_set, Nat.reduceEqDiff, if_true, if_false, reduceIte, h0] at f25 f26
    clear hf
    rcases Nat.lt_or_ge i2 rows.length with hlt | hge2
    · obtain ⟨r, hr', _, htk⟩ := get_dec (l := rows) (i := i2) (by simpa using hlt)
      have hre := hall r (List.mem_of_getElem? hr')
      subst hre
      have hdl : decide ((i2 : Int) < (rows.length : Int)) = true := by simpa using hlt
      repeat' (first | simp only [go_sem, Int.reduceLT, Int.reduceLE, Int.reduceNeg, Int.reduceEq, Nat.reduceAdd, Nat.reduceEqDiff, Nat.reduceLeDiff, Nat.reduceBEq, reduceIte, reduceCtorEq, f25, f26, h27, hj2, hr', hdl, app_nil_e] | (with_reducible first | apply c1 | (first | apply c2 | apply c3) <;> (intro hc; simp only [hc]) | (first | apply c4 | apply c5) <;> (intro hc; rw [hc])))
      exact hlt
    · repeat' (first | simp only [go_sem, Int.reduceLT, Int.reduceLE, Int.reduceNeg, Int.reduceEq, Nat.reduceAdd, Nat.reduceEqDiff, Nat.reduceLeDiff, Nat.reduceBEq, reduceIte, reduceCtorEq, f25, f26, h27, hj2, show decide ((i2 : Int) < (rows.length : Int)) = false by simpa using hge2] | (with_reducible first | apply c1 | (first | apply c2 | apply c3) <;> (intro hc; simp only [hc]) | (first | apply c4 | apply c5) <;> (intro hc; rw [hc])))
      exact .inl hne
  · have hne : rows.flatten ≠ [] := List.length_pos_iff.1 hn0
    repeat' (first | simp only [go_sem, Int.reduceLT, Int.reduceLE, Int.reduceNeg, Int.reduceEq, Nat.reduceAdd, Nat.reduceEqDiff, Nat.reduceLeDiff, Nat.reduceBEq, reduceIte, reduceCtorEq, h0, h9, h10, h11, hj, show decide ((i : Int) < (rows.length : Int)) = false by simpa using hge, hq] | (with_reducible first | apply c1 | (first | apply c2 | apply c3) <;> (intro hc; simp only [hc]) | (first | apply c4 | apply c5) <;> (intro hc; rw [hc])))
    refine X_for 27 rows.length (fun i s => s.t.get 6 = some (.ms id 0 (rows.take i).flatten.length rows.flatten.length none) ∧ s.h.get id = some (.cells (CI ((rows.take i).flatten ++ List.replicate (rows.flatten.length - (rows.take i).flatten.length) 0)) false)) 0 (by omega) ?_ (Nat.zero_le _) ?_ ?_
    · simp only [go_sem, Int.reduceLT, Int.reduceLE, Int.reduceNeg, Int.reduceEq, Nat.reduceAdd, Nat.reduceEqDiff, Nat.reduceLeDiff, Nat.reduceBEq, reduceIte, reduceCtorEq]; rfl
    · exact ⟨by simp only [go_sem, Int.reduceLT, Int.reduceLE, Int.reduceNeg, Int.reduceEq, Nat.reduceAdd, Nat.reduceEqDiff, Nat.reduceLeDiff, Nat.reduceBEq, reduceIte, reduceCtorEq]; simp, by simp only [go_sem, Int.reduceLT, Int.reduceLE, Int.reduceNeg, Int.reduceEq, Nat.reduceAdd, Nat.reduceEqDiff, Nat.reduceLeDiff, Nat.reduceBEq, reduceIte, reduceCtorEq, hg1]; simp⟩
    intro i2 t2 h2 nx2 hf hi0 hi h27 hj2
    obtain ⟨h6, hh2⟩ := hj2
    dsimp only at h6 hh2
    have f25 := hf 25 rfl; have f26 := hf 26 rfl
    simp only [PT.get_set, Nat.reduceEqDiff, if_true, if_false, reduceIte, h0] at f25 f26
    clear hf
    rcases Nat.lt_or_ge i2 rows.length with hlt | hge2
    · obtain ⟨r, hr', _, htk⟩ := get_dec (l := rows) (i := i2) (by simpa using hlt)
      have hdl : decide ((i2 : Int) < (rows.length : Int)) = true := by simpa using hlt
      have hnext : (rows.take (i2 + 1)).flatten = (rows.take i2).flatten ++ r := by rw [htk]; simp
      have hb := hpre (i2 + 1)
      rw [hnext, List.length_append] at hb
      have happ := fun id' => app_ms (i := id) (off := 0) (len := (rows.take i2).flatten.length) (av := rows.flatten.length) (xs := r) (id := id') hh2 hb (by rw [List.length_append, List.length_replicate]; omega)
      repeat' (first | simp only [go_sem, Int.reduceLT, Int.reduceLE, Int.reduceNeg, Int.reduceEq, Nat.reduceAdd, Nat.reduceEqDiff, Nat.reduceLeDiff, Nat.reduceBEq, reduceIte, reduceCtorEq, f25, f26, h27, h6, hr', hdl, happ] | (with_reducible first | apply c1 | (first | apply c2 | apply c3) <;> (intro hc; simp only [hc]) | (first | apply c4 | apply c5) <;> (intro hc; rw [hc])))
      refine ⟨hlt, ?_, ?_⟩
      · rw [hnext, List.length_append]
      · rw [setAt_CI, hnext, grow_step hb]
    · rw [List.take_of_length_le hge2] at h6 hh2
      repeat' (first | simp only [go_sem, Int.reduceLT, Int.reduceLE, Int.reduceNeg, Int.reduceEq, Nat.reduceAdd, Nat.reduceEqDiff, Nat.reduceLeDiff, Nat.reduceBEq, reduceIte, reduceCtorEq, f25, f26, h27, h6, show decide ((i2 : Int) < (rows.length : Int)) = false by simpa using hge2] | (with_reducible first | apply c1 | (first | apply c2 | apply c3) <;> (intro hc; simp only [hc]) | (first | apply c4 | apply c5) <;> (intro hc; rw [hc])))
      exact .inr ⟨hne, id, rfl, by rw [hh2]; simp⟩
theorem intsL_CI (l : List Int) : intsL (CI l) = some l := by
  induction l with
  | nil => rfl
  | cons a l ih =>
    have : CI (a :: l) = .p (.s (.int .i64 a)) :: CI l := rfl
    rw [this]
    simp only [intsL, ih]
theorem sortX_CI {l : List Int} {i id : Nat} {h : PT AObj} (hl : l.length ≤ 4096) (hg : h.get i = some (.cells (CI l) false)) : sortX [.ms i 0 l.length l.length none] h id = some { dv := .p (.tup []), rd := [i], up := [(i, some (.cells (CI (isort l)) false))] } := by
  simp only [sortX, hg]
  rw [if_pos ⟨by simp [CI], hl⟩]
  have e : ((CI l).drop 0).take l.length = CI l := by rw [List.drop_zero, List.take_of_length_le (by simp [CI])]
  rw [e, intsL_CI]
  simp only
  congr 5
  have : ((isort l).map fun n => DV.p (.s (.int .i64 n))) = CI (isort l) := rfl
  rw [this]
  have e2 := setAt_CI (c := l) (xs := isort l) (o := 0)
  rw [e2]
  simp [isort_len]
theorem snaps_CI {h : PT AObj} (l : List Int) : snaps h (CI l) = some (l.map I, []) := by
  have : CI l = (l.map I).map .p := by simp [CI]
  rw [this, snaps_p]
theorem own_CI {h1 : PT AObj} {i id n : Nat} {l : List Int} {rd : List Nat} {fz : List (Nat × Option AObj)} (hg : h1.get i = some (.cells (CI l) false)) : own true h1 (.ms i 0 n n none) id rd fz = some { dv := .ms id 0 n n none, rd := rd, up := fz ++ [(id, some (.cells (CI l) false))] } := by
  simp only [own, hg, snaps_CI]
  simp [CI]
theorem own_nil {h1 : PT AObj} {id : Nat} {rd : List Nat} {fz : List (Nat × Option AObj)} : own true h1 .nil id rd fz = some { dv := .nil, rd := rd, up := fz } := rfl
theorem compact_nil (h : PT AObj) (nx : Nat) : ∃ h' n', callR Tryz.prog G0 59 [.nil] h nx = some (.nil, h', n') := by
  obtain ⟨r, h', n', h1, h2⟩ := callR_body c_slices_Compact_Lint_int_ (xs := [.nil]) (h := h) (nx := nx) (Nat.le_of_ble_eq_true rfl) (R := fun r h' _ => r = .nil) (by
    simp only [m_slices_Compact_Lint_int_, Oo, Ou, Og, Ci, Om, Of, Ol, Ok]
    repeat' (first | simp only [go_sem, Int.reduceLT, Int.reduceLE, Int.reduceNeg, Int.reduceEq, Nat.reduceAdd, Nat.reduceEqDiff, Nat.reduceLeDiff, Nat.reduceBEq, reduceIte, reduceCtorEq, lenL_nil, show decide ((0 : Int) < 2) = true by decide] | (with_reducible first | apply c1 | (first | apply c2 | apply c3) <;> (intro hc; simp only [hc]) | (first | apply c4 | apply c5) <;> (intro hc; rw [hc]))))
  subst h2
  exact ⟨h', n', h1⟩
theorem compact_R {l : List Int} (hl : l.length ≤ 4096) {h : PT AObj} {i nx : Nat} (hg : h.get i = some (.cells (CI l) false)) : ∃ r h' n', callR Tryz.prog G0 59 [.ms i 0 l.length l.length none] h nx = some (r, h', n') ∧ ∃ j, ∃ rest, r = .ms j 0 (dd l).length l.length none ∧ h'.get j = some (.cells (CI (dd l ++ rest)) false) := by
  obtain ⟨r, h', n', k1, rest, k2, k3⟩ := compact_X l hl h i nx hg
  exact ⟨r, h', n', k1, i, rest, k2, k3⟩
theorem snap_ms {h : PT AObj} {i k av : Nat} {l rest : List Int} (hk : k = l.length) (hg : h.get i = some (.cells (CI (l ++ rest)) false)) : snap h (.ms i 0 k av none) = some (L l, [i]) := by
  subst hk
  have e : ((CI (l ++ rest)).drop 0).take (l.length * (none : Option Nat).getD 1) = (l.map I).map .p := by
    simp [CI]
  unfold snap
  rw [snapF]
  simp only [hg]
  rw [e, snapL_p]
  simp
theorem classes_res (x : VLoad) (hx : loadS x) : res Tryz.prog G0 32 [x.P] = some (L (allL x)) := by
  have hxl := hx
  obtain ⟨x1, x2⟩ := hx
  obtain ⟨_, hall, hal64⟩ := rallL x hxl
  have hfl : x.classes.flatten.length ≤ 64 := by
    have : ∀ l : List (List Int), l.length ≤ 8 → (∀ r ∈ l, r.length ≤ 8) → l.flatten.length ≤ 8 * l.length := by
      intro l
      induction l with
      | nil => simp
      | cons r l ih =>
        intro h1 h2
        have := ih (by simp at h1; omega) (fun r' hr => h2 r' (by simp [hr]))
        have h3 := h2 r (by simp)
        simp only [List.flatten_cons, List.length_append, List.length_cons]
        omega
    have := this _ x1 x2
    omega
  have hdd : dd (isort x.classes.flatten) = allL x := by
    obtain ⟨d1, d2⟩ := dd_sorted (isort_sorted x.classes.flatten)
    refine all_unique d1 hall.1 (fun y => ?_)
    rw [d2, hall.2, (isort_perm _).mem_iff]
  refine res_body c_crowd_classes (Nat.le_of_ble_eq_true rfl) ?_
  simp only [m_crowd_classes, Oo, Ou, Og, Ci, Om, Of, Ol, Ok]
  obtain ⟨r, h1, n1, hc, hr⟩ := concat_X x.classes (by omega) (by omega)
  rcases hr with ⟨hn, rfl⟩ | ⟨hn, i, rfl, hg⟩
  · have hq : ∀ {fn : FuncId} {dst : Option Nat} {id : Nat} {s : St}, mCall G0 fn (callR Tryz.prog G0) 57 [.p (.lst (x.classes.map L))] dst id s = effS dst s (some { dv := .nil, rd := [], up := [] }) := fun {fn dst id s} => mCall_ownA rfl (ps := [LL x.classes]) (rd := []) rfl hc own_nil
    have hq2 : ∀ {fn : FuncId} {dst : Option Nat} {id : Nat} {s : St}, mCall G0 fn (callR Tryz.prog G0) 58 [.nil] dst id s = effS dst s (some { dv := .p (.tup []), rd := [], up := [] }) := fun {fn dst id s} => mCall_ext rfl rfl rfl
    have hnil : allL x = [] := by rw [← hdd, hn]; rfl
    repeat' (first | simp only [go_sem, Int.reduceLT, Int.reduceLE, Int.reduceNeg, Int.reduceEq, Nat.reduceAdd, Nat.reduceEqDiff, Nat.reduceLeDiff, Nat.reduceBEq, reduceIte, reduceCtorEq, hq, hq2] | (with_reducible first | apply c1 | (first | apply c2 | apply c3) <;> (intro hc; simp only [hc]) | (first | apply c4 | apply c5) <;> (intro hc; rw [hc])))
    refine opsK_ref (R := fun r _ _ => r = .nil) rfl (by obtain ⟨h', n', h1⟩ := compact_nil _ _; exact ⟨_, h', n', h1, rfl⟩) ?_
    rintro r h' n' rfl
    repeat' (first | simp only [go_sem, Int.reduceLT, Int.reduceLE, Int.reduceNeg, Int.reduceEq, Nat.reduceAdd, Nat.reduceEqDiff, Nat.reduceLeDiff, Nat.reduceBEq, reduceIte, reduceCtorEq] | (with_reducible first | apply c1 | (first | apply c2 | apply c3) <;> (intro hc; simp only [hc]) | (first | apply c4 | apply c5) <;> (intro hc; rw [hc])))
    rw [hnil]
    rfl
  · have hq : ∀ {fn : FuncId} {dst : Option Nat} {id : Nat} {s : St}, mCall G0 fn (callR Tryz.prog G0) 57 [.p (.lst (x.classes.map L))] dst id s = effS dst s (some { dv := .ms id 0 x.classes.flatten.length x.classes.flatten.length none, rd := [], up := [(id, some (.cells (CI x.classes.flatten) false))] }) := fun {fn dst id s} => mCall_ownA rfl (ps := [LL x.classes]) (rd := []) rfl hc (own_CI hg)
    have hq2 : ∀ {fn : FuncId} {dst : Option Nat} {id j : Nat} {s : St} (hgs : s.h.get j = some (.cells (CI x.classes.flatten) false)), mCall G0 fn (callR Tryz.prog G0) 58 [.ms j 0 x.classes.flatten.length x.classes.flatten.length none] dst id s = effS dst s (some { dv := .p (.tup []), rd := [j], up := [(j, some (.cells (CI (isort x.classes.flatten)) false))] }) := fun {fn dst id j s} hgs => mCall_ext rfl rfl (sortX_CI (by omega) hgs)
    repeat' (first | simp only [go_sem, Int.reduceLT, Int.reduceLE, Int.reduceNeg, Int.reduceEq, Nat.reduceAdd, Nat.reduceEqDiff, Nat.reduceLeDiff, Nat.reduceBEq, reduceIte, reduceCtorEq, hq] | (with_reducible first | apply c1 | (first | apply c2 | apply c3) <;> (intro hc; simp only [hc]) | (first | apply c4 | apply c5) <;> (intro hc; rw [hc])))
    rw [hq2 (by simp [PT.get_set])]
    repeat' (first | simp only [go_sem, Int.reduceLT, Int.reduceLE, Int.reduceNeg, Int.reduceEq, Nat.reduceAdd, Nat.reduceEqDiff, Nat.reduceLeDiff, Nat.reduceBEq, reduceIte, reduceCtorEq] | (with_reducible first | apply c1 | (first | apply c2 | apply c3) <;> (intro hc; simp only [hc]) | (first | apply c4 | apply c5) <;> (intro hc; rw [hc])))
    refine opsK_ref (R := fun r h' _ => ∃ i, ∃ rest, r = .ms i 0 (dd (isort x.classes.flatten)).length x.classes.flatten.length none ∧ h'.get i = some (.cells (CI (dd (isort x.classes.flatten) ++ rest)) false)) rfl ?_ ?_
    · rw [← isort_len x.classes.flatten]
      exact compact_R (by rw [isort_len]; omega) (by simp [PT.get_set])
    rintro r h' n' ⟨i, rest, rfl, hg'⟩
    repeat' (first | simp only [go_sem, Int.reduceLT, Int.reduceLE, Int.reduceNeg, Int.reduceEq, Nat.reduceAdd, Nat.reduceEqDiff, Nat.reduceLeDiff, Nat.reduceBEq, reduceIte, reduceCtorEq] | (with_reducible first | apply c1 | (first | apply c2 | apply c3) <;> (intro hc; simp only [hc]) | (first | apply c4 | apply c5) <;> (intro hc; rw [hc])))
    rw [snap_ms rfl hg', hdd]
    rfl
end Go.Proofs.YtddmnddocbmjnaaGreat.Dv
namespace Go.Proofs.YtddmnddocbmjnaaGreat.Dv
def m_crowd_Pairs : MF := ⟨55, (.seq (.reg none [Oo 3 (.box (.t 0)), Oo 5 (.box (.t 2)), Oo 6 (.mov (.d .nil))]) (.seq (.reg none [Oo 7 (.mov (.d .nil))]) (.seq (.reg none [Oo 15 (.bld [(Ci 0), (Ci 0)] [(0, 1, (.d (Ci (-1)))), (1, 1, (.d (Ci (-1))))]), Oo 8 (.alloc [(Ci 0), (Ci 0)]), Ou (.store 2 (.t 8) (.t 15))]) (.seq (.reg none [Oo 16 (.load true 1 (.t 5)), Oo 17 (.call 32 [.t 16]), Om 9 17]) (.seq (.seq (.reg none [Om 18 9, Ok 19 18, Oo 20 (.mov (.d (Ci 0)))]) (.block 0 (.loop (.seq (.reg none [Oo 21 (.iop .lss (.t 20) (.t 19))]) (.seq (.cond (.t 21) .skip (.exit 0)) (.seq (.block 1 (.seq (.reg none [Om 22 20, Oo 23 (.iadrS 1 (.t 18) (.t 20)), Ol 24 23, Om 10 22, Om 11 24]) (.seq (.reg none [Om 25 9, Om 26 10, Oo 27 (.iop .add (.t 26) (.d (Ci 1))), Oo 28 (.ssl 1 (.t 25) (some (.t 27)) none none), Ok 29 28, Oo 30 (.mov (.d (Ci 0)))]) (.block 2 (.loop (.seq (.reg none [Oo 31 (.iop .lss (.t 30) (.t 29))]) (.seq (.cond (.t 31) .skip (.exit 2)) (.seq (.block 3 (.seq (.reg none [Oo 32 (.iadrS 1 (.t 28) (.t 30)), Ol 33 32, Om 13 33]) (.seq (.reg none [Om 34 11, Om 35 13, Oo 36 (.bld [(Ci 0), (Ci 0)] [(0, 1, (.t 34)), (1, 1, (.t 35))]), Oo 14 (.alloc [(Ci 0), (Ci 0)]), Ou (.store 2 (.t 14) (.t 36))]) (.seq (.reg none [Oo 37 (.load true 2 (.t 14)), Oo 38 (.load true 2 (.t 8)), Oo 39 (.aop [0, 0] true (.t 37) (.t 38)), Om 40 39, Og 41 40 true (.load true 15 (.t 3)), Og 42 40 true (.mov (.t 1)), Og 43 40 true (.mov (.t 11)), Og 44 40 true (.mov (.t 13)), Og 45 40 true (.call 33 [.t 41, .t 42, .t 43, .t 44]), Oo 46 (.pick (.t 40) (.t 45) (.d (.p (.s (.bool false)))))]) (.cond (.t 46) (.seq (.reg none [Om 47 7, Oo 48 (.load true 2 (.t 14)), Oo 49 (.bldS false (some 2) 1 [.t 48]), Oo 50 (.app false (some 2) 16 (.t 47) (.t 49)), Om 7 50]) (.reg none [Oo 51 (.load true 2 (.t 14)), Ou (.store 2 (.t 8) (.t 51))])) .skip))))) (.reg none [Oo 52 (.iop .add (.t 30) (.d (Ci 1))), Om 30 52]))))))))) (.reg none [Oo 53 (.iop .add (.t 20) (.d (Ci 1))), Om 20 53]))))))) (.seq (.reg none [Om 54 7, Om 6 54]) .ret)))))), [.tmp 6]⟩
theorem c_crowd_Pairs : comp Tryz.prog G0 12 = some m_crowd_Pairs := by kernel_rfl
theorem q_crowd_Pairs : Q0 12 := mCall_pure rfl
def m_crowd_Clashes : MF := ⟨25, (.seq (.reg none [Oo 3 (.box (.t 0)), Oo 6 (.mov (.d (Ci 0)))]) (.seq (.reg none [Oo 7 (.mov (.d (Ci 0)))]) (.seq (.seq (.reg none [Om 10 2, Ok 11 10, Oo 12 (.mov (.d (Ci 0)))]) (.block 0 (.loop (.seq (.reg none [Oo 13 (.iop .lss (.t 12) (.t 11))]) (.seq (.cond (.t 13) .skip (.exit 0)) (.seq (.block 1 (.seq (.reg none [Oo 14 (.iadrS 1 (.t 10) (.t 12)), Oo 15 (.load true 1 (.t 14)), Oo 9 (.alloc [.nil]), Ou (.store 1 (.t 9) (.t 15))]) (.reg none [Om 16 7, Oo 17 (.load true 15 (.t 3)), Om 18 1, Oo 19 (.load true 1 (.t 9)), Oo 20 (.call 12 [.t 17, .t 18, .t 19]), Ok 21 20, Oo 22 (.iop .add (.t 16) (.t 21)), Om 7 22]))) (.reg none [Oo 23 (.iop .add (.t 12) (.d (Ci 1))), Om 12 23]))))))) (.seq (.reg none [Om 24 7, Om 6 24]) .ret)))), [.tmp 6]⟩
theorem c_crowd_Clashes : comp Tryz.prog G0 14 = some m_crowd_Clashes := by kernel_rfl
theorem q_crowd_Clashes : Q0 14 := mCall_pure rfl
theorem pairs_fresh {f : Int → Int → Bool} {k : List Int} (hk : k.Pairwise (· < ·)) {i m : Nat} {a b : Int} (him : i + 1 ≤ m) (ha : k[i]? = some a) (hb : k[m]? = some b) : (a, b) ∉ pairsN f k i ++ rowN f k i m := by
  have hget : ∀ {x y : Nat} {u v : Int}, x < y → k[x]? = some u → k[y]? = some v → u < v := fun {x y u v} hxy hu hv => by
    obtain ⟨h1, e1⟩ := List.getElem?_eq_some_iff.1 hu
    obtain ⟨h2, e2⟩ := List.getElem?_eq_some_iff.1 hv
    have := List.pairwise_iff_getElem.1 hk x y h1 h2 hxy
    rwa [e1, e2] at this
  intro h
  rw [List.mem_append] at h
  rcases h with h | h
  · simp only [pairsN, List.mem_flatMap, List.mem_range, rowN, List.mem_map] at h
    obtain ⟨j, hj, c, _, he⟩ := h
    have hjl : j < k.length := by have := (List.getElem?_eq_some_iff.1 ha).1; omega
    have h2 : k[j]? = some k[j] := List.getElem?_eq_getElem hjl
    have := hget hj h2 ha
    simp only [h2, Option.getD_some, Prod.mk.injEq] at he
    omega
  · simp only [rowN, List.mem_map, List.mem_filter] at h
    obtain ⟨c, ⟨hc, _⟩, he⟩ := h
    simp only [Prod.mk.injEq] at he
    obtain ⟨_, rfl⟩ := he
    obtain ⟨j, hj⟩ := List.getElem?_of_mem hc
    rw [List.getElem?_drop, List.getElem?_take] at hj
    split at hj
    · rename_i hlt
      have := hget hlt hj hb
      omega
    · cases hj
theorem app_nil_pr {x : Int × Int} {j id : Nat} {h : PT AObj} : appX false (some 2) 16 .nil (.ow j [pr x]) h id = some { dv := .ow id [pr x], rd := [], up := [(id, some (.tip 2))] } := rfl
theorem aop_pr {a b c d : Int} (h : (a, b) ≠ (c, d)) : aopX [0, 0] true (.p (.agg [.s (.int .i64 a), .s (.int .i64 b)])) (.p (.agg [.s (.int .i64 c), .s (.int .i64 d)])) = some (.p (.s (.bool true))) := by
  have := pr_aop (n := true) (x := (a, b)) (y := (c, d))
  simp only [pr] at this
  rw [this, decide_eq_false h]
  rfl
def OwnP (d : DV) (ls : List (Int × Int)) (s : St) : Prop := (d = .nil ∧ ls = []) ∨ (∃ j, d = .ow j (ls.map pr) ∧ s.h.get j = some (.tip 2) ∧ 5 < j ∧ j < s.nx)
theorem ownP_snap {d : DV} {ls : List (Int × Int)} {s : St} (h : OwnP d ls s) (h' : PT AObj) : snap h' d = some (.lst (ls.map pr), []) := by
  rcases h with ⟨rfl, rfl⟩ | ⟨j, rfl, _⟩ <;> rfl
theorem ownP_mono {d : DV} {ls : List (Int × Int)} {t t' : PT DV} {h h' : PT AObj} {nx nx' : Nat} (hd : OwnP d ls ⟨t, h, nx⟩) (hh : ∀ j, 5 < j → j < nx → h'.get j = h.get j) (hn : nx ≤ nx') : OwnP d ls ⟨t', h', nx'⟩ := by
  rcases hd with hd | ⟨j, e1, e2, e3, e4⟩
  · exact .inl hd
  · exact .inr ⟨j, e1, (hh j e3 e4).trans e2, e3, Nat.lt_of_lt_of_le e4 hn⟩
theorem pairs_res (p : VProblem) (hp : smP p) (l : List VSeat) (hl : l.length ≤ 1048576) (x : VLoad) (hx : loadS x) :
    res Tryz.prog G0 12 [p.P, .lst (l.map VSeat.P), x.P] = some (.lst ((prsL p l x).map pr)) := by
  obtain ⟨_, hall, hal64⟩ := rallL x hx
  have hcl := classes_res x hx
  have hinc := hall.1
  unfold prsL
  generalize hk : allL x = k at *
  refine res_body c_crowd_Pairs (Nat.le_of_ble_eq_true rfl) ?_
  simp only [m_crowd_Pairs, Oo, Ou, Og, Ci, Om, Of, Ol, Ok]
  repeat' (first | simp only [go_sem, Int.reduceLT, Int.reduceLE, Int.reduceNeg, Int.reduceEq, Nat.reduceAdd, Nat.reduceEqDiff, Nat.reduceLeDiff, Nat.reduceBEq, reduceIte, reduceCtorEq, q_crowd_classes, hcl] | (with_reducible first | apply c1 | (first | apply c2 | apply c3) <;> (intro hc; simp only [hc]) | (first | apply c4 | apply c5) <;> (intro hc; rw [hc])))
  refine X_for 20 k.length (fun i s => s.h.get 0 = some (.cells (DV.cells (.p p.P)) false) ∧ 5 < s.nx ∧ (∃ la lb : Int, s.h.get 5 = some (.cells [.p (I la), .p (I lb)] false) ∧ (la = lb ∨ (la, lb) ∈ pairsN (clashB p l) k i)) ∧ ∃ d, s.t.get 7 = some d ∧ OwnP d (pairsN (clashB p l) k i) s ∧ (pairsN (clashB p l) k i).length ≤ 64 * i) 0 (by omega) ?_ (Nat.zero_le _) ?_ ?_
  · simp only [go_sem, Int.reduceLT, Int.reduceLE, Int.reduceNeg, Int.reduceEq, Nat.reduceAdd, Nat.reduceEqDiff, Nat.reduceLeDiff, Nat.reduceBEq, reduceIte, reduceCtorEq]; rfl
  · refine ⟨by simp only [go_sem, Int.reduceLT, Int.reduceLE, Int.reduceNeg, Int.reduceEq, Nat.reduceAdd, Nat.reduceEqDiff, Nat.reduceLeDiff, Nat.reduceBEq, reduceIte, reduceCtorEq], by first | decide | (dsimp only; omega), ⟨-1, -1, by simp only [go_sem, Int.reduceLT, Int.reduceLE, Int.reduceNeg, Int.reduceEq, Nat.reduceAdd, Nat.reduceEqDiff, Nat.reduceLeDiff, Nat.reduceBEq, reduceIte, reduceCtorEq] <;> rfl, .inl rfl⟩, .nil, by simp only [go_sem, Int.reduceLT, Int.reduceLE, Int.reduceNeg, Int.reduceEq, Nat.reduceAdd, Nat.reduceEqDiff, Nat.reduceLeDiff, Nat.reduceBEq, reduceIte, reduceCtorEq], .inl ⟨rfl, rfl⟩, by simp [pairsN]⟩
  intro i t h nx hf hi0 hi h20 hj
  obtain ⟨hh, hnx, ⟨la, lb, h5, hlast⟩, d, h7, hd, hlen⟩ := hj
  dsimp only at hh hnx h5 h7
  have h1 := hf 1 rfl; simp only [PT.get_set, Nat.reduceEqDiff, if_true, if_false, reduceIte, PT.get_leaf] at h1; have h3 := hf 3 rfl; simp only [PT.get_set, Nat.reduceEqDiff, if_true, if_false, reduceIte, PT.get_leaf] at h3; have h8 := hf 8 rfl; simp only [PT.get_set, Nat.reduceEqDiff, if_true, if_false, reduceIte, PT.get_leaf] at h8; have h9 := hf 9 rfl; simp only [PT.get_set, Nat.reduceEqDiff, if_true, if_false, reduceIte, PT.get_leaf] at h9; have h18 := hf 18 rfl; simp only [PT.get_set, Nat.reduceEqDiff, if_true, if_false, reduceIte, PT.get_leaf] at h18; have h19 := hf 19 rfl; simp only [PT.get_set, Nat.reduceEqDiff, if_true, if_false, reduceIte, PT.get_leaf] at h19
  clear hf
  rcases Nat.lt_or_ge i k.length with hlt | hge
  · obtain ⟨a, ha, _, _⟩ := get_dec (l := k) (i := i) (by simpa using hlt)
    have hdl : decide ((i : Int) < (k.length : Int)) = true := by simpa using hlt
    have hss : sslX 1 (.p (.lst (k.map I))) (some (.p (.s (.int .i64 ((i : Int) + 1))))) none none = some (.p (.lst ((k.drop (i + 1)).map I))) := by
      have := ssl_drop (l := k) (i := i + 1)
      rw [if_pos (show i + 1 ≤ k.length from hlt)] at this
      exact this
    repeat' (first | simp only [go_sem, Int.reduceLT, Int.reduceLE, Int.reduceNeg, Int.reduceEq, Nat.reduceAdd, Nat.reduceEqDiff, Nat.reduceLeDiff, Nat.reduceBEq, reduceIte, reduceCtorEq, h1, h3, h7, h8, h9, h18, h19, h20, ha, hdl, wrap_id (n := (i : Int) + 1) (by omega) (by omega), hss] | (with_reducible first | apply c1 | (first | apply c2 | apply c3) <;> (intro hc; simp only [hc]) | (first | apply c4 | apply c5) <;> (intro hc; rw [hc])))
    refine X_for 30 (k.length - (i + 1)) (fun m s => s.h.get 0 = some (.cells (DV.cells (.p p.P)) false) ∧ 5 < s.nx ∧ (∃ la lb : Int, s.h.get 5 = some (.cells [.p (I la), .p (I lb)] false) ∧ (la = lb ∨ (la, lb) ∈ pairsN (clashB p l) k i ++ rowN (clashB p l) k i (i + 1 + m))) ∧ ∃ d, s.t.get 7 = some d ∧ OwnP d (pairsN (clashB p l) k i ++ rowN (clashB p l) k i (i + 1 + m)) s ∧ (pairsN (clashB p l) k i ++ rowN (clashB p l) k i (i + 1 + m)).length ≤ 64 * i + m) 0 (by omega) ?_ (Nat.zero_le _) ?_ ?_
    · simp only [go_sem, Int.reduceLT, Int.reduceLE, Int.reduceNeg, Int.reduceEq, Nat.reduceAdd, Nat.reduceEqDiff, Nat.reduceLeDiff, Nat.reduceBEq, reduceIte, reduceCtorEq]; rfl
    · have hr0 : rowN (clashB p l) k i (i + 1) = [] := by simp [rowN]
      simp only [Nat.add_zero, hr0, List.append_nil]
      refine ⟨by simp only [go_sem, Int.reduceLT, Int.reduceLE, Int.reduceNeg, Int.reduceEq, Nat.reduceAdd, Nat.reduceEqDiff, Nat.reduceLeDiff, Nat.reduceBEq, reduceIte, reduceCtorEq, hh], by first | omega | (dsimp only; omega), ⟨la, lb, by simp only [go_sem, Int.reduceLT, Int.reduceLE, Int.reduceNeg, Int.reduceEq, Nat.reduceAdd, Nat.reduceEqDiff, Nat.reduceLeDiff, Nat.reduceBEq, reduceIte, reduceCtorEq, h5], hlast⟩, d, by simp only [go_sem, Int.reduceLT, Int.reduceLE, Int.reduceNeg, Int.reduceEq, Nat.reduceAdd, Nat.reduceEqDiff, Nat.reduceLeDiff, Nat.reduceBEq, reduceIte, reduceCtorEq, h7], ?_, hlen⟩
      rcases hd with hd | ⟨j, e1, e2, e3, e4⟩
      · exact .inl hd
      · exact .inr ⟨j, e1, e2, e3, by dsimp only at e4 ⊢; omega⟩
    intro m t' h' nx' hf hm0 hm h30 hj2
    obtain ⟨hh', hnx', ⟨la', lb', h5', hlast'⟩, d', h7', hd', hlen'⟩ := hj2
    dsimp only at hh' hnx' h5' h7'
    have f1 := hf 1 rfl; have f3 := hf 3 rfl; have f8 := hf 8 rfl; have f9 := hf 9 rfl; have f11 := hf 11 rfl; have f18 := hf 18 rfl; have f19 := hf 19 rfl; have f20 := hf 20 rfl; have f28 := hf 28 rfl; have f29 := hf 29 rfl
    simp only [PT.get_set, Nat.reduceEqDiff, if_true, if_false, reduceIte, h1, h3, h8, h9, h18, h19, h20] at f1 f3 f8 f9 f11 f18 f19 f20 f28 f29
    clear hf
    rcases Nat.lt_or_ge m (k.length - (i + 1)) with hlt2 | hge2
    · obtain ⟨b, hb, _, _⟩ := get_dec (l := k) (i := i + 1 + m) (by simp; omega)
      have hbd : (k.drop (i + 1))[m]? = some b := by rw [List.getElem?_drop]; exact hb
      have hdl2 : decide ((m : Int) < ((k.length - (i + 1) : Nat) : Int)) = true := by simp only [decide_eq_true_eq]; omega
      have hfr := pairs_fresh (f := clashB p l) hinc (show i + 1 ≤ i + 1 + m by omega) ha hb
      have hab : a < b := by
        obtain ⟨q1, e1⟩ := List.getElem?_eq_some_iff.1 ha
        obtain ⟨q2, e2⟩ := List.getElem?_eq_some_iff.1 hb
        have := List.pairwise_iff_getElem.1 hinc i (i + 1 + m) q1 q2 (by omega)
        rwa [e1, e2] at this
      have hne : (a, b) ≠ (la', lb') := by
        intro e
        rcases hlast' with h | h
        · simp only [Prod.mk.injEq] at e
          omega
        · rw [← e] at h
          exact hfr h
      have hsn := row_snoc (f := clashB p l) (show i + 1 ≤ i + 1 + m by omega) hb ha
      cases hcl2 : clashB p l a b with
      | false =>
        rw [hcl2, if_neg Bool.false_ne_true, List.append_nil] at hsn
        repeat' (first | simp only [go_sem, Int.reduceLT, Int.reduceLE, Int.reduceNeg, Int.reduceEq, Nat.reduceAdd, Nat.reduceEqDiff, Nat.reduceLeDiff, Nat.reduceBEq, reduceIte, reduceCtorEq, f1, f3, f8, f9, f11, f18, f19, f20, f28, f29, h7', h30, hh', h5', hbd, hdl2, aop_pr hne, q_fit_Clash, clash_res p hp l hl, hcl2] | (with_reducible first | apply c1 | (first | apply c2 | apply c3) <;> (intro hc; simp only [hc]) | (first | apply c4 | apply c5) <;> (intro hc; rw [hc])))
        have e : i + (1 + (m + 1)) = i + 1 + m + 1 := by omega
        rw [e, hsn]
        refine ⟨hlt2, by omega, ⟨la', lb', rfl, hlast'⟩, ownP_mono hd' (fun j _ hj => ?_) (by omega), by omega⟩
        simp only [PT.get_set]
        rw [if_neg (by omega), if_neg (by omega)]
      | true =>
        rw [hcl2, if_pos rfl] at hsn
        have e : i + (1 + (m + 1)) = i + 1 + m + 1 := by omega
        rcases hd' with ⟨rfl, hdn⟩ | ⟨j, rfl, hg, hj5, hjn⟩
        · repeat' (first | simp only [go_sem, Int.reduceLT, Int.reduceLE, Int.reduceNeg, Int.reduceEq, Nat.reduceAdd, Nat.reduceEqDiff, Nat.reduceLeDiff, Nat.reduceBEq, reduceIte, reduceCtorEq, f1, f3, f8, f9, f11, f18, f19, f20, f28, f29, h7', h30, hh', h5', hbd, hdl2, aop_pr hne, q_fit_Clash, clash_res p hp l hl, hcl2, bldS_pr, app_nil_pr] | (with_reducible first | apply c1 | (first | apply c2 | apply c3) <;> (intro hc; simp only [hc]) | (first | apply c4 | apply c5) <;> (intro hc; rw [hc])))
          rw [e, hsn]
          refine ⟨hlt2, by omega, ⟨a, b, rfl, .inr (by simp)⟩, .inr ⟨nx' + 22, ?_, ?_, by omega, by dsimp only; omega⟩, ?_⟩
          · rw [← List.append_assoc, hdn]; rfl
          · simp only [PT.get_set]
            rw [if_neg (by omega)]
            simp
          · rw [← List.append_assoc, List.length_append, List.length_singleton]; omega
        · dsimp only at hg hjn
          have hLn : pairsN (clashB p l) k i ++ rowN (clashB p l) k i (i + 1 + m + 1) = (pairsN (clashB p l) k i ++ rowN (clashB p l) k i (i + 1 + m)) ++ [(a, b)] := by rw [hsn, ← List.append_assoc]
          generalize pairsN (clashB p l) k i ++ rowN (clashB p l) k i (i + 1 + m) = LS at h7' hlen' hLn
          have hbb : ((LS.map pr).length + 1) * 16 ≤ 70368744177664 := by rw [List.length_map]; omega
          have happ : ∀ {A B C : Option AObj} {j2 id : Nat}, appX false (some 2) 16 (.ow j (LS.map pr)) (.ow j2 [pr (a, b)]) (((h'.set (nx' + 7) A).set (nx' + 7) B).set (nx' + 21) C) id = some { dv := .ow id ((LS).map pr ++ [pr (a, b)]), rd := [j], up := [(j, none), (id, some (.tip 2))] } := fun {A B C j2 id} => app_ow_pr (by
            simp only [PT.get_set]
            rw [if_neg (by omega), if_neg (by omega), if_neg (by omega)]
            exact hg) hbb
          repeat' (first | simp only [go_sem, Int.reduceLT, Int.reduceLE, Int.reduceNeg, Int.reduceEq, Nat.reduceAdd, Nat.reduceEqDiff, Nat.reduceLeDiff, Nat.reduceBEq, reduceIte, reduceCtorEq, f1, f3, f8, f9, f11, f18, f19, f20, f28, f29, h7', h30, hh', h5', hbd, hdl2, aop_pr hne, q_fit_Clash, clash_res p hp l hl, hcl2, bldS_pr, happ, show (j = 5) = False by (simp; omega), show (j = nx' + 7) = False by (simp; omega), show (j = 0) = False by (simp; omega)] | (with_reducible first | apply c1 | (first | apply c2 | apply c3) <;> (intro hc; simp only [hc]) | (first | apply c4 | apply c5) <;> (intro hc; rw [hc])))
          rw [e, hLn]
          refine ⟨hlt2, by omega, ⟨a, b, rfl, .inr (by simp)⟩, .inr ⟨nx' + 22, ?_, ?_, by omega, by dsimp only; omega⟩, ?_⟩
          · rw [List.map_append]; rfl
          · simp only [PT.get_set]
            rw [if_neg (by omega)]
            simp
          · rw [List.length_append, List.length_singleton]; omega
    · repeat' (first | simp only [go_sem, Int.reduceLT, Int.reduceLE, Int.reduceNeg, Int.reduceEq, Nat.reduceAdd, Nat.reduceEqDiff, Nat.reduceLeDiff, Nat.reduceBEq, reduceIte, reduceCtorEq, f1, f3, f8, f9, f11, f18, f19, f20, f28, f29, h7', h30, hh', h5', show decide ((m : Int) < ((k.length - (i + 1) : Nat) : Int)) = false by (simp only [decide_eq_false_iff_not]; omega)] | (with_reducible first | apply c1 | (first | apply c2 | apply c3) <;> (intro hc; simp only [hc]) | (first | apply c4 | apply c5) <;> (intro hc; rw [hc])))
      have hmk : i + 1 + m = k.length := by omega
      rw [hmk, ← pairs_snoc] at hlast' hd' hlen'
      exact ⟨hlt, by omega, ⟨la', lb', rfl, hlast'⟩, ownP_mono hd' (fun j _ _ => rfl) (by omega), by omega⟩
  · repeat' (first | simp only [go_sem, Int.reduceLT, Int.reduceLE, Int.reduceNeg, Int.reduceEq, Nat.reduceAdd, Nat.reduceEqDiff, Nat.reduceLeDiff, Nat.reduceBEq, reduceIte, reduceCtorEq, h1, h3, h7, h8, h9, h18, h19, h20, show decide ((i : Int) < (k.length : Int)) = false by simpa using hge] | (with_reducible first | apply c1 | (first | apply c2 | apply c3) <;> (intro hc; simp only [hc]) | (first | apply c4 | apply c5) <;> (intro hc; rw [hc])))
    have : i = k.length := by omega
    subst this
    rw [ownP_snap hd]
    rfl
end Go.Proofs.YtddmnddocbmjnaaGreat.Dv
