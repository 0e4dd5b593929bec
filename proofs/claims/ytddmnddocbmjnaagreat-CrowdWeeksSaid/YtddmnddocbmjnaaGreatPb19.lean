/- Part 19 of the proof: CrowdWeeks: whatever plain data comes in, the call returns true and leaves its arguments as they were. No condition. -/
import Derived.Test.YtddmnddocbmjnaaGreatPb18
import Derived.KernelRfl
set_option linter.all false
set_option linter.unusedVariables false
set_option linter.unusedSectionVars false
set_option linter.unusedSimpArgs false
namespace Go.Proofs.YtddmnddocbmjnaaGreat.Dv
def m_slices_Compact_Lint_int_ : MF := ⟨61, (.seq (.reg none [Oo 2 (.mov (.d .nil))]) (.seq (.seq (.reg none [Om 6 0, Ok 7 6, Oo 8 (.iop .lss (.t 7) (.d (Ci 2)))]) (.cond (.t 8) (.seq (.reg none [Om 9 0, Om 2 9]) .ret) .skip)) (.seq (.seq (.reg none [Oo 3 (.mov (.d (Ci 1)))]) (.block 0 (.loop (.seq (.seq (.reg none [Om 10 3, Om 11 0, Ok 12 11, Oo 13 (.iop .lss (.t 10) (.t 12))]) (.cond (.t 13) .skip (.exit 0))) (.seq (.block 1 (.seq (.reg (some #[0, 0, 3, 7, 0, 0, 32, 112, 240, 511]) [Om 16 0, Om 17 3, Oo 18 (.iadrS 1 (.t 16) (.t 17)), Ol 19 18, Om 20 0, Om 21 3, Oo 22 (.iop .sub (.t 21) (.d (Ci 1))), Oo 23 (.iadrS 1 (.t 20) (.t 22)), Ol 24 23, Oo 25 (.iop .eql (.t 19) (.t 24))]) (.cond (.t 25) (.seq (.reg none [Om 26 0, Om 27 3, Oo 28 (.ssl 1 (.t 26) (some (.t 27)) none none), Om 4 28]) (.seq (.seq (.reg none [Oo 5 (.mov (.d (Ci 1)))]) (.block 2 (.loop (.seq (.seq (.reg none [Om 29 5, Om 30 4, Ok 31 30, Oo 32 (.iop .lss (.t 29) (.t 31))]) (.cond (.t 32) .skip (.exit 2))) (.seq (.block 3 (.seq (.reg (some #[0, 0, 3, 7, 0, 0, 32, 112, 240, 511]) [Om 35 4, Om 36 5, Oo 37 (.iadrS 1 (.t 35) (.t 36)), Ol 38 37, Om 39 4, Om 40 5, Oo 41 (.iop .sub (.t 40) (.d (Ci 1))), Oo 42 (.iadrS 1 (.t 39) (.t 41)), Ol 43 42, Oo 44 (.iop .neq (.t 38) (.t 43))]) (.cond (.t 44) (.seq (.reg none [Om 45 0, Om 46 3, Om 47 4, Om 48 5, Oo 49 (.iadrS 1 (.t 47) (.t 48)), Ol 50 49, Oo 51 (.iadrS 1 (.t 45) (.t 46)), Ou (.store 1 (.t 51) (.t 50))]) (.reg none [Om 52 3, Oo 53 (.iop .add (.t 52) (.d (Ci 1))), Om 3 53])) .skip))) (.reg none [Om 33 5, Oo 34 (.iop .add (.t 33) (.d (Ci 1))), Om 5 34])))))) (.seq (.reg none [Om 54 0, Om 55 3, Oo 56 (.ssl 1 (.t 54) (some (.t 55)) none none), Ou (.clr (some [(Ci 0)]) (.t 56))]) (.seq (.reg none [Om 57 0, Om 58 3, Oo 59 (.ssl 1 (.t 57) none (some (.t 58)) none), Om 2 59]) .ret)))) .skip))) (.reg none [Om 14 3, Oo 15 (.iop .add (.t 14) (.d (Ci 1))), Om 3 15])))))) (.seq (.reg none [Om 60 0, Om 2 60]) .ret)))), [.tmp 2]⟩
theorem c_slices_Compact_Lint_int_ : comp Tryz.prog G0 59 = some m_slices_Compact_Lint_int_ := by kernel_rfl
def CI (l : List Int) : List DV := l.map fun n => .p (I n)
theorem CI_len {l : List Int} : (CI l).length = l.length := by simp [CI]
theorem CI_get {l : List Int} {i : Nat} : (CI l)[i]? = (l[i]?).map fun n => DV.p (I n) := by simp [CI]
theorem CI_set {l : List Int} {i : Nat} {x : Int} (h : i < l.length) : setAt (CI l) i [.p (I x)] = CI (l.set i x) := by
  induction l generalizing i with
  | nil => simp at h
  | cons a l ih =>
    cases i with
    | zero => simp [CI, setAt]
    | succ i =>
      have := ih (i := i) (by simpa using h)
      simp only [CI, List.map_cons] at this ⊢
      rw [setAt_succ, this]; simp
theorem iadrS_ms {id off n av i : Nat} : iadrSX 1 (.ms id off n av none) (.p (.s (.int .i64 (i : Int)))) = if i < n then some (.mp id (off + i)) else none := by
  simp only [iadrSX, asI]
  rw [if_neg (by omega), Int.toNat_natCast]
  simp only [esK, Option.getD_none, and_true, Nat.mul_one]
theorem lenL_ms {id off n av : Nat} {es : Option Nat} : lenLX (.ms id off n av es) = some (.p (.s (.int .i64 (n : Int)))) := rfl
theorem ssl_from {id n av k : Nat} (h1 : 0 < k) (h2 : k < n) (h3 : n ≤ av) : sslX 1 (.ms id 0 n av none) (some (.p (.s (.int .i64 (k : Int))))) none none = some (.ms id k (n - k) (av - k) none) := by
  simp only [sslX, lenAv, bnd, asI]
  rw [if_pos (by omega)]
  simp only [Int.toNat_natCast]
  rw [if_pos ⟨by omega, h3⟩]
  simp only [cut]
  rw [if_neg (by omega), if_pos (by omega)]
  simp [esK]
theorem ssl_to {id n av k : Nat} (h : k ≤ av) : sslX 1 (.ms id 0 n av none) none (some (.p (.s (.int .i64 (k : Int))))) none = some (.ms id 0 k av none) := by
  simp only [sslX, lenAv, bnd, asI]
  rw [if_pos (by omega)]
  simp only [Int.toNat_natCast, Nat.zero_le, true_and, cut]
  rw [if_pos h]
  simp
theorem zeros_CI (n : Nat) : zeros [DV.p (.s (.int .i64 0))] n = CI (List.replicate n 0) := by
  induction n with
  | zero => rfl
  | succ n ih => simp only [zeros, ih]; rfl
theorem clr_CI {a b : List Int} {id av : Nat} {h : PT AObj} (hb : b ≠ []) (hg : h.get id = some (.cells (CI (a ++ b)) false)) : clrX (some [.p (.s (.int .i64 0))]) (.ms id a.length b.length av none) h = some { dv := .p (.tup []), rd := [id], up := [(id, some (.cells (CI (a ++ List.replicate b.length 0)) false))] } := by
  obtain ⟨n, hn⟩ : ∃ n, b.length = n + 1 := ⟨b.length - 1, by have := List.length_pos_iff.2 hb; omega⟩
  rw [hn]
  simp only [clrX, hg]
  rw [if_pos ⟨rfl, by simp [esK], by simp [esK, CI, hn]⟩, ← hn, zeros_CI]
  congr 5
  simp [setAt, CI]
theorem sto_CI {l : List Int} {id i : Nat} {x : Int} {h : PT AObj} (hi : i < l.length) (hg : h.get id = some (.cells (CI l) false)) : stoX 1 (.mp id i) (.p (.s (.int .i64 x))) h = some { dv := .p (.tup []), rd := [id], up := [(id, some (.cells (CI (l.set i x)) false))] } := by
  rw [sto_mp, hg]
  simp only
  rw [if_pos ⟨rfl, rfl, by rw [CI_len]; exact hi⟩]
  rw [show DV.cells (.p (.s (.int .i64 x))) = [.p (I x)] from rfl, CI_set hi]
theorem ld_CI {l : List Int} {id i : Nat} {x : Int} {h : PT AObj} (hx : l[i]? = some x) (hg : h.get id = some (.cells (CI l) false)) : ldX false 1 (.mp id i) h = some { dv := .p (.s (.int .i64 x)), rd := [id], up := [] } := by
  rw [ld_mp, hg]
  simp [CI_get, hx]
def ddS (acc : List Int) (x : Int) : List Int := if acc.getLast? = some x then acc else acc ++ [x]
def dd (l : List Int) : List Int := l.foldl ddS []
theorem dd_snoc {l : List Int} {x : Int} : dd (l ++ [x]) = ddS (dd l) x := by simp [dd]
theorem dd_sorted_aux (l : List Int) : ∀ acc : List Int, acc.Pairwise (· < ·) → l.Pairwise (· ≤ ·) → (∀ a ∈ acc, ∀ y ∈ l, a ≤ y) → (l.foldl ddS acc).Pairwise (· < ·) ∧ ∀ y, y ∈ l.foldl ddS acc ↔ y ∈ acc ∨ y ∈ l := by
  induction l with
  | nil => intro acc h _ _; exact ⟨h, fun y => by simp⟩
  | cons x l ih =>
    intro acc hs hl ha
    rw [List.pairwise_cons] at hl
    simp only [List.foldl_cons]
    by_cases hx : acc.getLast? = some x
    · have e : ddS acc x = acc := by simp [ddS, hx]
      rw [e]
      obtain ⟨h1, h2⟩ := ih acc hs hl.2 (fun a ha' y hy => ha a ha' y (by simp [hy]))
      refine ⟨h1, fun y => ?_⟩
      rw [h2, List.mem_cons]
      have : x ∈ acc := List.mem_of_getLast? hx
      constructor
      · rintro (h | h)
        · exact .inl h
        · exact .inr (.inr h)
      · rintro (h | rfl | h)
        · exact .inl h
        · exact .inl this
        · exact .inr h
    · have e : ddS acc x = acc ++ [x] := by simp [ddS, hx]
      rw [e]
      have hlt : ∀ a ∈ acc, a < x := by
        intro a ha'
        have h1 := ha a ha' x (by simp)
        rcases List.eq_nil_or_concat acc with hn | ⟨p, z, hp⟩
        · subst hn; simp at ha'
        · have hz : z ≠ x := fun e => hx (by rw [hp, e]; simp)
          have hz2 := ha z (by rw [hp]; simp) x (by simp)
          rw [hp, List.concat_eq_append, List.mem_append, List.mem_singleton] at ha'
          rcases ha' with h | rfl
          · rw [hp, List.concat_eq_append, List.pairwise_append] at hs
            have := hs.2.2 a h z (by simp)
            omega
          · omega
      obtain ⟨h1, h2⟩ := ih (acc ++ [x]) (by
        rw [List.pairwise_append]
        exact ⟨hs, by simp, fun a ha' b hb => by simp at hb; subst hb; exact hlt a ha'⟩) hl.2 (fun a ha' y hy => by
        rw [List.mem_append, List.mem_singleton] at ha'
        rcases ha' with h | rfl
        · exact ha a h y (by simp [hy])
        · exact hl.1 y hy)
      refine ⟨h1, fun y => ?_⟩
      rw [h2, List.mem_append, List.mem_singleton, List.mem_cons, or_assoc]
theorem dd_sorted {l : List Int} (h : l.Pairwise (· ≤ ·)) : (dd l).Pairwise (· < ·) ∧ ∀ y, y ∈ dd l ↔ y ∈ l := by
  obtain ⟨h1, h2⟩ := dd_sorted_aux l [] (by simp) h (by simp)
  exact ⟨h1, fun y => by rw [dd, h2]; simp⟩
theorem dd_one {l : List Int} (h : l.length < 2) : dd l = l := by
  match l, h with
  | [], _ => rfl
  | [x], _ => rfl
theorem last_take {l : List Int} {k : Nat} {x : Int} (hx : l[k]? = some x) : (l.take (k + 1)).getLast? = some x := by
  rw [List.take_add_one, hx]; simp
theorem wrap_pred {k : Nat} (h1 : 0 < k) (h2 : k < 4611686018427387904) : IntKind.wrap .i64 ((k : Int) - 1) = ((k - 1 : Nat) : Int) := by
  rw [wrap_id (by omega) (by omega)]; omega
theorem compact_X (l : List Int) (hl : l.length ≤ 4096) (h : PT AObj) (i nx : Nat) (hg : h.get i = some (.cells (CI l) false)) : ∃ r h' n', callR Tryz.prog G0 59 [.ms i 0 l.length l.length none] h nx = some (r, h', n') ∧ ∃ rest, r = .ms i 0 (dd l).length l.length none ∧ h'.get i = some (.cells (CI (dd l ++ rest)) false) := by
  refine callR_body c_slices_Compact_Lint_int_ (Nat.le_of_ble_eq_true rfl) (R := fun r h' _ => ∃ rest, r = .ms i 0 (dd l).length l.length none ∧ h'.get i = some (.cells (CI (dd l ++ rest)) false)) ?_
  simp only [m_slices_Compact_Lint_int_, Oo, Ou, Og, Ci, Om, Of, Ol, Ok]
  by_cases h2 : l.length < 2
  case pos =>
    repeat' (first | simp only [go_sem, Int.reduceLT, Int.reduceLE, Int.reduceNeg, Int.reduceEq, Nat.reduceAdd, Nat.reduceEqDiff, Nat.reduceLeDiff, Nat.reduceBEq, reduceIte, reduceCtorEq, lenL_ms, show decide ((l.length : Int) < 2) = true by (simp only [decide_eq_true_eq]; omega)] | (with_reducible first | apply c1 | (first | apply c2 | apply c3) <;> (intro hc; simp only [hc]) | (first | apply c4 | apply c5) <;> (intro hc; rw [hc])))
    exact ⟨[], by rw [dd_one h2], by rw [dd_one h2, List.append_nil]; exact hg⟩
  have l0 : 0 < l.length := by omega
  repeat' (first | simp only [go_sem, Int.reduceLT, Int.reduceLE, Int.reduceNeg, Int.reduceEq, Nat.reduceAdd, Nat.reduceEqDiff, Nat.reduceLeDiff, Nat.reduceBEq, reduceIte, reduceCtorEq, lenL_ms, show decide ((l.length : Int) < 2) = false by (simp only [decide_eq_false_iff_not]; omega)] | (with_reducible first | apply c1 | (first | apply c2 | apply c3) <;> (intro hc; simp only [hc]) | (first | apply c4 | apply c5) <;> (intro hc; rw [hc])))
  refine X_for 3 l.length (fun k s => s.h.get i = some (.cells (CI l) false) ∧ dd (l.take k) = l.take k) 1 (by omega) ?_ (by omega) ?_ ?_
  · simp only [go_sem, Int.reduceLT, Int.reduceLE, Int.reduceNeg, Int.reduceEq, Nat.reduceAdd, Nat.reduceEqDiff, Nat.reduceLeDiff, Nat.reduceBEq, reduceIte, reduceCtorEq]; rfl
  · exact ⟨by simp only [go_sem, Int.reduceLT, Int.reduceLE, Int.reduceNeg, Int.reduceEq, Nat.reduceAdd, Nat.reduceEqDiff, Nat.reduceLeDiff, Nat.reduceBEq, reduceIte, reduceCtorEq, hg], dd_one (by simp; omega)⟩
  intro k t h' nx' hf hk0 hk h3 hj
  obtain ⟨hh, hd⟩ := hj
  dsimp only at hh
  have h0 := hf 0 rfl; simp only [PT.get_set, Nat.reduceEqDiff, if_true, if_false, reduceIte, PT.get_leaf] at h0
  clear hf
  rcases Nat.lt_or_ge k l.length with hlt | hge
  · obtain ⟨y, hy, _, htk⟩ := get_dec (l := l) (i := k) (by simpa using hlt)
    obtain ⟨x, hx, _, _⟩ := get_dec (l := l) (i := k - 1) (by simp; omega)
    have hpl : k - 1 < l.length := by omega
    have hdl : decide ((k : Int) < (l.length : Int)) = true := by simpa using hlt
    have hla : (l.take k).getLast? = some x := by
      have := last_take hx
      rwa [show k - 1 + 1 = k by omega] at this
    by_cases hxy : y = x
    case neg =>
      repeat' (first | simp only [go_sem, Int.reduceLT, Int.reduceLE, Int.reduceNeg, Int.reduceEq, Nat.reduceAdd, Nat.reduceEqDiff, Nat.reduceLeDiff, Nat.reduceBEq, reduceIte, reduceCtorEq, h0, h3, lenL_ms, hdl, iadrS_ms, Nat.zero_add, hlt, hpl, wrap_pred hk0 (by omega), ld_CI hy hh, ld_CI hx hh, show decide (y = x) = false by simpa using hxy] | (with_reducible first | apply c1 | (first | apply c2 | apply c3) <;> (intro hc; simp only [hc]) | (first | apply c4 | apply c5) <;> (intro hc; rw [hc])))
      refine ⟨hh, ?_⟩
      rw [htk, dd_snoc, hd, ddS, hla, if_neg (by simpa using fun e => hxy e.symm)]
    have hd1 : dd (l.take (k + 1)) = l.take k := by rw [htk, dd_snoc, hd, ddS, hla, if_pos (by rw [hxy])]
    repeat' (first | simp only [go_sem, Int.reduceLT, Int.reduceLE, Int.reduceNeg, Int.reduceEq, Nat.reduceAdd, Nat.reduceEqDiff, Nat.reduceLeDiff, Nat.reduceBEq, reduceIte, reduceCtorEq, h0, h3, lenL_ms, hdl, iadrS_ms, Nat.zero_add, hlt, hpl, wrap_pred hk0 (by omega), ld_CI hy hh, ld_CI hx hh, show decide (y = x) = true by simpa using hxy, ssl_from hk0 hlt (Nat.le_refl _)] | (with_reducible first | apply c1 | (first | apply c2 | apply c3) <;> (intro hc; simp only [hc]) | (first | apply c4 | apply c5) <;> (intro hc; rw [hc])))
    refine X_for 5 (l.length - k) (fun j s => ∃ cs D : List Int, s.t.get 3 = some (.p (I (D.length : Int))) ∧ s.h.get i = some (.cells (CI cs) false) ∧ D = dd (l.take (k + j)) ∧ cs.length = l.length ∧ cs.take D.length = D ∧ (∀ m, k + j ≤ m + 1 → cs[m]? = l[m]?) ∧ D.length + 1 ≤ k + j ∧ (D.getLast? = l[k + j - 1]?)) 1 (by omega) ?_ (by omega) ?_ ?_
    · simp only [go_sem, Int.reduceLT, Int.reduceLE, Int.reduceNeg, Int.reduceEq, Nat.reduceAdd, Nat.reduceEqDiff, Nat.reduceLeDiff, Nat.reduceBEq, reduceIte, reduceCtorEq]; rfl
    · refine ⟨l, l.take k, ?_, by simp only [go_sem, Int.reduceLT, Int.reduceLE, Int.reduceNeg, Int.reduceEq, Nat.reduceAdd, Nat.reduceEqDiff, Nat.reduceLeDiff, Nat.reduceBEq, reduceIte, reduceCtorEq, hh], hd1.symm, rfl, by simp, fun m _ => rfl, by rw [List.length_take]; omega, ?_⟩
      · simp only [go_sem, Int.reduceLT, Int.reduceLE, Int.reduceNeg, Int.reduceEq, Nat.reduceAdd, Nat.reduceEqDiff, Nat.reduceLeDiff, Nat.reduceBEq, reduceIte, reduceCtorEq, h3, List.length_take, Nat.min_eq_left hk]
      · rw [hla, show k + 1 - 1 = k by omega, hy, hxy]
    intro j t' h'' nx'' hf hj0 hj h5 hjj
    obtain ⟨cs, D, h3', hh', hD, hcl, hct, hcm, hDl, hDa⟩ := hjj
    dsimp only at h3' hh'
    have f0 := hf 0 rfl; have f4 := hf 4 rfl
    simp only [PT.get_set, Nat.reduceEqDiff, if_true, if_false, reduceIte, h0] at f0 f4
    clear hf
    rcases Nat.lt_or_ge j (l.length - k) with hlt2 | hge2
    · obtain ⟨b, hb, _, htb⟩ := get_dec (l := l) (i := k + j) (by simp; omega)
      obtain ⟨a, ha, _, _⟩ := get_dec (l := l) (i := k + j - 1) (by simp; omega)
      have hdl2 : decide ((j : Int) < ((l.length - k : Nat) : Int)) = true := by simp only [decide_eq_true_eq]; omega
      have hjm : j - 1 < l.length - k := by omega
      have hcb : cs[k + j]? = some b := by rw [hcm _ (by omega), hb]
      have hca : cs[k + (j - 1)]? = some a := by rw [hcm _ (by omega), show k + (j - 1) = k + j - 1 by omega, ha]
      rw [ha] at hDa
      have hkl : D.length < cs.length := by omega
      by_cases hab : b = a
      case pos =>
        repeat' (first | simp only [go_sem, Int.reduceLT, Int.reduceLE, Int.reduceNeg, Int.reduceEq, Nat.reduceAdd, Nat.reduceEqDiff, Nat.reduceLeDiff, Nat.reduceBEq, reduceIte, reduceCtorEq, f0, f4, h3', h5, lenL_ms, hdl2, iadrS_ms, hlt2, hjm, wrap_pred hj0 (by omega), ld_CI hcb hh', ld_CI hca hh', show decide (b ≠ a) = false by simpa using hab] | (with_reducible first | apply c1 | (first | apply c2 | apply c3) <;> (intro hc; simp only [hc]) | (first | apply c4 | apply c5) <;> (intro hc; rw [hc])))
        refine ⟨cs, D, rfl, hh', ?_, hcl, hct, fun m hm => hcm m (by omega), by omega, ?_⟩
        · rw [← Nat.add_assoc, htb, dd_snoc, ← hD, ddS, if_pos (by rw [hDa, hab])]
        · rw [hDa, ← hab, show k + (j + 1) - 1 = k + j by omega, hb]
      repeat' (first | simp only [go_sem, Int.reduceLT, Int.reduceLE, Int.reduceNeg, Int.reduceEq, Nat.reduceAdd, Nat.reduceEqDiff, Nat.reduceLeDiff, Nat.reduceBEq, reduceIte, reduceCtorEq, f0, f4, h3', h5, lenL_ms, hdl2, iadrS_ms, hlt2, hjm, wrap_pred hj0 (by omega), ld_CI hcb hh', ld_CI hca hh', show decide (b ≠ a) = true by simpa using hab, show D.length < l.length by omega, Nat.zero_add, sto_CI hkl hh', wrap_id (n := (D.length : Int) + 1) (by omega) (by omega)] | (with_reducible first | apply c1 | (first | apply c2 | apply c3) <;> (intro hc; simp only [hc]) | (first | apply c4 | apply c5) <;> (intro hc; rw [hc])))
      refine ⟨cs.set D.length b, D ++ [b], by simp, rfl, ?_, by simpa using hcl, ?_, fun m hm => ?_, by simp; omega, ?_⟩
      · rw [← Nat.add_assoc, htb, dd_snoc, ← hD, ddS, if_neg (by rw [hDa]; simpa using fun e => hab e.symm)]
      · rw [List.length_append, List.length_singleton, List.take_add_one, List.getElem?_set_self hkl, List.take_set_of_le (Nat.le_refl _), hct]
        rfl
      · rw [List.getElem?_set_ne (by omega)]
        exact hcm m (by omega)
      · rw [show k + (j + 1) - 1 = k + j by omega, hb]; simp
    · have hje : k + j = l.length := by omega
      rw [hje, List.take_length] at hD
      have hDne : 0 < D.length := by
        have : l[k + j - 1]? ≠ none := by rw [ne_eq, List.getElem?_eq_none_iff]; omega
        rw [← hDa] at this
        cases D with
        | nil => simp at this
        | cons => simp
      have hDlt : D.length < l.length := by omega
      have hcat : cs = D ++ cs.drop D.length := by
        conv => lhs; rw [← List.take_append_drop D.length cs, hct]
      have hdne : cs.drop D.length ≠ [] := by simp; omega
      have hdl3 : (cs.drop D.length).length = l.length - D.length := by simp [hcl]
      have hclr := clr_CI (av := l.length - D.length) hdne (by rw [← hcat]; exact hh')
      rw [hdl3] at hclr
      repeat' (first | simp only [go_sem, Int.reduceLT, Int.reduceLE, Int.reduceNeg, Int.reduceEq, Nat.reduceAdd, Nat.reduceEqDiff, Nat.reduceLeDiff, Nat.reduceBEq, reduceIte, reduceCtorEq, f0, f4, h3', h5, lenL_ms, show decide ((j : Int) < ((l.length - k : Nat) : Int)) = false by (simp only [decide_eq_false_iff_not]; omega), ssl_from hDne hDlt (Nat.le_refl _), hclr, ssl_to (Nat.le_of_lt hDlt)] | (with_reducible first | apply c1 | (first | apply c2 | apply c3) <;> (intro hc; simp only [hc]) | (first | apply c4 | apply c5) <;> (intro hc; rw [hc])))
      exact ⟨_, by rw [← hD], by rw [← hD]⟩
  · have hke : k = l.length := by omega
    rw [hke, List.take_length] at hd
    repeat' (first | simp only [go_sem, Int.reduceLT, Int.reduceLE, Int.reduceNeg, Int.reduceEq, Nat.reduceAdd, Nat.reduceEqDiff, Nat.reduceLeDiff, Nat.reduceBEq, reduceIte, reduceCtorEq, h0, h3, lenL_ms, show decide ((k : Int) < (l.length : Int)) = false by simpa using hge] | (with_reducible first | apply c1 | (first | apply c2 | apply c3) <;> (intro hc; simp only [hc]) | (first | apply c4 | apply c5) <;> (intro hc; rw [hc])))
    exact ⟨[], by rw [hd], by rw [hd, List.append_nil]; exact hh⟩
end Go.Proofs.YtddmnddocbmjnaaGreat.Dv
namespace Go.Proofs.YtddmnddocbmjnaaGreat.Dv
def m_slices_Grow_Lint_int_ : MF := ⟨27, (.seq (.reg none [Oo 4 (.mov (.d .nil))]) (.seq (.seq (.reg none [Om 5 1, Oo 6 (.iop .lss (.t 5) (.d (Ci 0)))]) (.cond (.t 6) (.reg none [Oo 7 .stop, Ou .stop]) .skip)) (.seq (.seq (.reg none [Om 8 1, Om 9 0, Oo 10 (.cap (.t 9)), Om 11 0, Ok 12 11, Oo 13 (.iop .sub (.t 10) (.t 12)), Oo 14 (.iop .sub (.t 8) (.t 13)), Om 1 14]) (.seq (.reg none [Om 15 1, Oo 16 (.iop .gtr (.t 15) (.d (Ci 0)))]) (.cond (.t 16) (.reg none [Om 17 0, Om 18 0, Oo 19 (.cap (.t 18)), Oo 20 (.ssl 1 (.t 17) none (some (.t 19)) none), Om 21 1, Oo 22 (.appz true none 8 [(Ci 0)] (.t 20) (.t 21)), Om 23 0, Ok 24 23, Oo 25 (.ssl 1 (.t 22) none (some (.t 24)) none), Om 0 25]) .skip))) (.seq (.reg none [Om 26 0, Om 4 26]) .ret)))), [.tmp 4]⟩
theorem c_slices_Grow_Lint_int_ : comp Tryz.prog G0 93 = some m_slices_Grow_Lint_int_ := by kernel_rfl
def m_slices_Concat_Lint_int_ : MF := ⟨36, (.seq (.reg none [Oo 2 (.mov (.d .nil))]) (.seq (.reg none [Oo 3 (.mov (.d (Ci 0)))]) (.seq (.seq (.reg none [Om 9 0, Ok 10 9, Oo 11 (.mov (.d (Ci 0)))]) (.block 0 (.loop (.seq (.reg none [Oo 12 (.iop .lss (.t 11) (.t 10))]) (.seq (.cond (.t 12) .skip (.exit 0)) (.seq (.block 1 (.seq (.reg none [Oo 13 (.iadrS 1 (.t 9) (.t 11)), Ol 14 13, Om 5 14]) (.seq (.reg none [Om 15 3, Om 16 5, Ok 17 16, Oo 18 (.iop .add (.t 15) (.t 17)), Om 3 18]) (.seq (.reg none [Om 19 3, Oo 20 (.iop .lss (.t 19) (.d (Ci 0)))]) (.cond (.t 20) (.reg none [Oo 21 .stop, Ou .stop]) .skip))))) (.reg none [Oo 22 (.iop .add (.t 11) (.d (Ci 1))), Om 11 22]))))))) (.seq (.reg none [Om 23 3, Oo 24 (.call 93 [(.d .nil), .t 23]), Om 6 24]) (.seq (.seq (.reg none [Om 25 0, Ok 26 25, Oo 27 (.mov (.d (Ci 0)))]) (.block 2 (.loop (.seq (.reg none [Oo 28 (.iop .lss (.t 27) (.t 26))]) (.seq (.cond (.t 28) .skip (.exit 2)) (.seq (.block 3 (.seq (.reg none [Oo 29 (.iadrS 1 (.t 25) (.t 27)), Ol 30 29, Om 8 30]) (.reg none [Om 31 6, Om 32 8, Oo 33 (.app true none 8 (.t 31) (.t 32)), Om 6 33]))) (.reg none [Oo 34 (.iop .add (.t 27) (.d (Ci 1))), Om 27 34]))))))) (.seq (.reg none [Om 35 6, Om 2 35]) .ret)))))), [.tmp 2]⟩
theorem c_slices_Concat_Lint_int_ : comp Tryz.prog G0 57 = some m_slices_Concat_Lint_int_ := by kernel_rfl
def m_crowd_classes : MF := ⟨11, (.seq (.reg none [Oo 1 (.box (.t 0)), Oo 2 (.mov (.d .nil))]) (.seq (.reg none [Of 4 0 1, Ol 5 4, Oo 6 (.call 57 [.t 5]), Om 3 6]) (.seq (.reg none [Om 7 3, Oo 8 (.call 58 [.t 7])]) (.seq (.reg none [Om 9 3, Oo 10 (.call 59 [.t 9]), Om 2 10]) .ret)))), [.tmp 2]⟩
theorem c_crowd_classes : comp Tryz.prog G0 32 = some m_crowd_classes := by kernel_rfl
theorem q_crowd_classes : Q0 32 := mCall_pure rfl
theorem mCall_ref {P : Program} {G : Cfg} {fn g : FuncId} (hm : G.mode fn g = .ref) {xs : List DV} {dst : Option Nat} {id : Nat} {s : St} {r : DV} {h' : PT AObj} {n' : Nat} (hc : callR P G g xs s.h s.nx = some (r, h', n')) : mCall G fn (callR P G) g xs dst id s = some (⟨putD s.t dst r, h', n'⟩, { ran := true, big := true }) := by
  unfold mCall
  simp only [hm, hc]
theorem opsK_ref {P : Program} {G : Cfg} {fn g : FuncId} (hm : G.mode fn g = .ref) {xs : List DV} {dst : Option Nat} {idc id : Nat} {s : St} {os : List MO} {dr : Option (Array Nat)} {lg : List Log} {Q : DX → St → Prop} {R : DV → PT AObj → Nat → Prop} (hc : ∃ r h' n', callR P G g xs s.h s.nx = some (r, h', n') ∧ R r h' n') (hk : ∀ r h' n', R r h' n' → Ops P G fn os id dr ({ ran := true, big := true } :: lg) ⟨putD s.t dst r, h', n'⟩ Q) : opsK P G fn os id dr lg Q (mCall G fn (callR P G) g xs dst idc s) := by
  obtain ⟨r, h', n', h1, h2⟩ := hc
  rw [mCall_ref hm h1]
  exact hk r h' n' h2
theorem mCall_ext {P : Program} {G : Cfg} {fn g : FuncId} (hm : G.mode fn g = .ext) {F : ExtF} (hF : G.ext g = some F) {xs : List DV} {dst : Option Nat} {id : Nat} {s : St} {e : Eff} (he : F xs s.h id = some e) : mCall G fn (callR P G) g xs dst id s = effS dst s (some e) := by
  unfold mCall
  simp only [hm, hF, he]
theorem mCall_ownA {P : Program} {G : Cfg} {fn g : FuncId} (hm : G.mode fn g = .ownA) {xs : List DV} {dst : Option Nat} {id : Nat} {s : St} {ps : List PDV} {rd : List Nat} (hs : snaps s.h xs = some (ps, rd)) {r : DV} {h1 : PT AObj} {n1 : Nat} (hc : callR P G g (ps.map .p) .leaf 0 = some (r, h1, n1)) {e : Eff} (he : own true h1 r id rd (freeze s.h rd) = some e) : mCall G fn (callR P G) g xs dst id s = effS dst s (some e) := by
  unfold mCall
  simp only [hm]
  unfold callE
  simp only [hs, hc, he]
theorem cap_nil : capX .nil = some (.p (.s (.int .i64 0))) := rfl
theorem lenL_nil : lenLX .nil = some (.p (.s (.int .i64 0))) := rfl
theorem ssl_nil0 : sslX 1 .nil none (some (.p (.s (.int .i64 0)))) none = some .nil := rfl
theorem ssl_to0 {id n av : Nat} : sslX 1 (.ms id 0 n av none) none (some (.p (.s (.int .i64 0)))) none = some (.ms id 0 0 av none) := ssl_to (k := 0) (Nat.zero_le _)
theorem appz_nil {n : Nat} {id : Nat} {h : PT AObj} (h0 : 0 < n) (hn : n ≤ 1048576) : appzX true none 8 [.p (.s (.int .i64 0))] .nil (.p (.s (.int .i64 (n : Int)))) h id = some { dv := .ms id 0 n n none, rd := [], up := [(id, some (.cells (CI (List.replicate n 0)) false))] } := by
  simp only [appzX, zsrc]
  rw [if_pos ⟨by omega, by omega, by rw [Int.toNat_natCast]; omega⟩]
  simp only [Int.toNat_natCast, if_neg (Nat.ne_of_gt h0)]
  rw [if_pos (by omega), zeros_CI]
  rfl
theorem grow_X (n : Nat) (hn : n ≤ 1048576) (h : PT AObj) (nx : Nat) : ∃ r h' n', callR Tryz.prog G0 93 [.nil, .p (I (n : Int))] h nx = some (r, h', n') ∧ ((n = 0 ∧ r = .nil) ∨ (0 < n ∧ ∃ i, r = .ms i 0 0 n none ∧ h'.get i = some (.cells (CI (List.replicate n 0)) false))) := by
  refine callR_body c_slices_Grow_Lint_int_ (Nat.le_of_ble_eq_true rfl) (R := fun r h' _ => (n = 0 ∧ r = .nil) ∨ (0 < n ∧ ∃ i, r = .ms i 0 0 n none ∧ h'.get i = some (.cells (CI (List.replicate n 0)) false))) ?_
  simp only [m_slices_Grow_Lint_int_, Oo, Ou, Og, Ci, Om, Of, Ol, Ok]
  rcases Nat.eq_zero_or_pos n with h0 | h0
  · subst h0
    repeat' (first | simp only [go_sem, Int.reduceLT, Int.reduceLE, Int.reduceNeg, Int.reduceEq, Nat.reduceAdd, Nat.reduceEqDiff, Nat.reduceLeDiff, Nat.reduceBEq, reduceIte, reduceCtorEq, cap_nil, lenL_nil, show decide (((0 : Nat) : Int) < 0) = false by simp, show IntKind.wrap .i64 (0 - 0 : Int) = 0 by decide, show IntKind.wrap .i64 (((0 : Nat) : Int) - 0) = 0 by decide, show decide ((0 : Int) < 0) = false by simp] | (with_reducible first | apply c1 | (first | apply c2 | apply c3) <;> (intro hc; simp only [hc]) | (first | apply c4 | apply c5) <;> (intro hc; rw [hc])))
    exact .inl trivial
  · repeat' (first | simp only [go_sem, Int.reduceLT, Int.reduceLE, Int.reduceNeg, Int.reduceEq, Nat.reduceAdd, Nat.reduceEqDiff, Nat.reduceLeDiff, Nat.reduceBEq, reduceIte, reduceCtorEq, cap_nil, lenL_nil, show decide ((n : Int) < 0) = false by simp, show IntKind.wrap .i64 (0 - 0 : Int) = 0 by decide, show IntKind.wrap .i64 ((n : Int) - 0) = (n : Int) by (rw [wrap_id (by omega) (by omega)]; omega), show decide ((0 : Int) < (n : Int)) = true by (simp only [decide_eq_true_eq]; omega), ssl_nil0, appz_nil h0 hn, ssl_to0] | (with_reducible first | apply c1 | (first | apply c2 | apply c3) <;> (intro hc; simp only [hc]) | (first | apply c4 | apply c5) <;> (intro hc; rw [hc])))
    exact .inr ⟨h0, _, rfl, by simp [PT.get_set]⟩
theorem flatC_I (xs : List Int) : flatC (xs.map I) = CI xs := by
  have : (xs.map I).flatMap PDV.cells = xs.map I := by
    induction xs with
    | nil => rfl
    | cons a l ih => simp only [List.map_cons, List.flatMap_cons, ih]; rfl
  simp [flatC, this, CI]
theorem src_L {xs : List Int} {h : PT AObj} : src h (esK none) (.p (.lst (xs.map I))) = some (CI xs, xs.length, []) := by
  have : szOk (esK none) (xs.map I) = true := szOk_I
  simp only [src, this, if_true, flatC_I, List.length_map]
theorem app_ms {i off len av : Nat} {c xs : List Int} {id : Nat} {h : PT AObj} (hg : h.get i = some (.cells (CI c) false)) (h1 : len + xs.length ≤ av) (h2 : off + (len + xs.length) ≤ c.length) : appX true none 8 (.ms i off len av none) (.p (.lst (xs.map I))) h id = some { dv := .ms i off (len + xs.length) av none, rd := [i], up := [(i, some (.cells (setAt (CI c) (off + len) (CI xs)) false))] } := by
  simp only [appX, src_L, if_true, hg]
  rw [if_pos h1]
  have e : esK none = 1 := rfl
  simp only [e, Nat.mul_one]
  rw [if_pos (by rw [CI_len]; omega)]
theorem app_nil_e {id : Nat} {h : PT AObj} : appX true none 8 .nil (.p (.lst [])) h id = some { dv := .nil, rd := [], up := [] } := rfl
theorem setAt_CI {c xs : List Int} {o : Nat} : setAt (CI c) o (CI xs) = CI (c.take o ++ xs ++ c.drop (o + xs.length)) := by simp [setAt, CI]
theorem grow_step {a r : List Int} {n : Nat} (h : a.length + r.length ≤ n) : (a ++ List.replicate (n - a.length) 0).take a.length ++ r ++ (a ++ List.replicate (n - a.length) 0).drop (a.length + r.length) = (a ++ r) ++ List.replicate (n - (a ++ r).length) 0 := by
  have e1 : (a ++ List.replicate (n - a.length) (0 : Int)).take a.length = a := List.take_left
  rw [e1, ← List.drop_drop, List.drop_left, List.drop_replicate, List.length_append]
  congr 2
  omega
theorem concat_X (rows : List (List Int)) (hr : rows.length ≤ 4096) (hl : rows.flatten.length ≤ 1048576) : ∃ r h' n', callR Tryz.prog G0 57 [.p (LL rows)] .leaf 0 = some (r, h', n') ∧ ((rows.flatten = [] ∧ r = .nil) ∨ (rows.flatten ≠ [] ∧ ∃ i, r = .ms i 0 rows.flatten.length rows.flatten.length none ∧ h'.get i = some (.cells (CI rows.flatten) false))) := by
  refine callR_body c_slices_Concat_Lint_int_ (Nat.le_of_ble_eq_true rfl) (R := fun r h' _ => (rows.flatten = [] ∧ r = .nil) ∨ (rows.flatten ≠ [] ∧ ∃ i, r = .ms i 0 rows.flatten.length rows.flatten.length none ∧ h'.get i = some (.cells (CI rows.flatten) false))) ?_
  simp only [m_slices_Concat_Lint_int_, Oo, Ou, Og, Ci, Om, Of, Ol, Ok, LL]
  have hpre : ∀ i, (rows.take i).flatten.length ≤ rows.flatten.length := fun i => by
    conv => rhs; rw [← List.take_append_drop i rows, List.flatten_append, List.length_append]
    omega
  repeat' (first | simp only [go_sem, Int.reduceLT, Int.reduceLE, Int.reduceNeg, Int.reduceEq, Nat.reduceAdd, Nat.reduceEqDiff, Nat.reduceLeDiff, Nat.reduceBEq, reduceIte, reduceCtorEq] | (with_reducible first | apply c1 | (first | apply c2 | apply c3) <;> (intro hc; simp only [hc]) | (first | apply c4 | apply c5) <;> (intro hc; rw [hc])))
  refine X_for 11 rows.length (fun i s => s.t.get 3 = some (.p (I (((rows.take i).flatten.length : Nat) : Int)))) 0 (by omega) ?_ (Nat.zero_le _) ?_ ?_
  · simp only [go_sem, Int.reduceLT, Int.reduceLE, Int.reduceNeg, Int.reduceEq, Nat.reduceAdd, Nat.reduceEqDiff, Nat.reduceLeDiff, Nat.reduceBEq, reduceIte, reduceCtorEq]; rfl
  · simp only [go_sem, Int.reduceLT, Int.reduceLE, Int.reduceNeg, Int.reduceEq, Nat.reduceAdd, Nat.reduceEqDiff, Nat.reduceLeDiff, Nat.reduceBEq, reduceIte, reduceCtorEq]; simp
  intro i t h nx hf hi0 hi h11 hj
  dsimp only at hj
  have h0 := hf 0 rfl; simp only [PT.get_set, Nat.reduceEqDiff, if_true, if_false, reduceIte, PT.get_leaf] at h0; have h9 := hf 9 rfl; simp only [PT.get_set, Nat.reduceEqDiff, if_true, if_false, reduceIte, PT.get_leaf] at h9; have h10 := hf 10 rfl; simp only [PT.get_set, Nat.reduceEqDiff, if_true, if_false, reduceIte, PT.get_leaf] at h10
  clear hf
  rcases Nat.lt_or_ge i rows.length with hlt | hge
  · obtain ⟨r, hr', _, htk⟩ := get_dec (l := rows) (i := i) (by simpa using hlt)
    have hdl : decide ((i : Int) < (rows.length : Int)) = true := by simpa using hlt
    have hnext : (rows.take (i + 1)).flatten.length = (rows.take i).flatten.length + r.length := by rw [htk]; simp
    have hb := hpre (i + 1)
    rw [hnext] at hb
    have hw : IntKind.wrap .i64 (((rows.take i).flatten.length : Int) + (r.length : Int)) = (((rows.take (i + 1)).flatten.length : Nat) : Int) := by
      rw [wrap_id (by omega) (by omega), hnext]; omega
    repeat' (first | simp only [go_sem, Int.reduceLT, Int.reduceLE, Int.reduceNeg, Int.reduceEq, Nat.reduceAdd, Nat.reduceEqDiff, Nat.reduceLeDiff, Nat.reduceBEq, reduceIte, reduceCtorEq, h0, h9, h10, h11, hj, hr', hdl, hw, show decide ((((rows.take (i + 1)).flatten.length : Nat) : Int) < 0) = false by (simp only [decide_eq_false_iff_not]; omega)] | (with_reducible first | apply c1 | (first | apply c2 | apply c3) <;> (intro hc; simp only [hc]) | (first | apply c4 | apply c5) <;> (intro hc; rw [hc])))
    exact hlt
  rw [List.take_of_length_le hge] at hj
  obtain ⟨g, h1, n1, hcall, hgr⟩ := grow_X rows.flatten.length hl h (nx + 4)
  have hq : ∀ {fn : FuncId} {dst : Option Nat} {id : Nat} {t' : PT DV}, mCall G0 fn (callR Tryz.prog G0) 93 [.nil, .p (.s (.int .i64 ((rows.flatten.length : Nat) : Int)))] dst id ⟨t', h, nx + 4⟩ = some (⟨putD t' dst g, h1, n1⟩, { ran := true, big := true }) := mCall_ref rfl hcall
  rcases hgr with ⟨hn0, rfl⟩ | ⟨hn0, id, rfl, hg1⟩
  · have hne : rows.flatten = [] := List.length_eq_zero_iff.1 hn0
    have hall : ∀ r ∈ rows, r = [] := fun r hr' => by
      rw [List.flatten_eq_nil_iff] at hne
      exact hne r hr'
    repeat' (first | simp only [go_sem, Int.reduceLT, Int.reduceLE, Int.reduceNeg, Int.reduceEq, Nat.reduceAdd, Nat.reduceEqDiff, Nat.reduceLeDiff, Nat.reduceBEq, reduceIte, reduceCtorEq, h0, h9, h10, h11, hj, show decide ((i : Int) < (rows.length : Int)) = false by simpa using hge, hq] | (with_reducible first | apply c1 | (first | apply c2 | apply c3) <;> (intro hc; simp only [hc]) | (first | apply c4 | apply c5) <;> (intro hc; rw [hc])))
    refine X_for 27 rows.length (fun i s => s.t.get 6 = some .nil) 0 (by omega) ?_ (Nat.zero_le _) ?_ ?_
    · simp only [go_sem, Int.reduceLT, Int.reduceLE, Int.reduceNeg, Int.reduceEq, Nat.reduceAdd, Nat.reduceEqDiff, Nat.reduceLeDiff, Nat.reduceBEq, reduceIte, reduceCtorEq]; rfl
    · simp only [go_sem, Int.reduceLT, Int.reduceLE, Int.reduceNeg, Int.reduceEq, Nat.reduceAdd, Nat.reduceEqDiff, Nat.reduceLeDiff, Nat.reduceBEq, reduceIte, reduceCtorEq]
    intro i2 t2 h2 nx2 hf hi0 hi h27 hj2
    dsimp only at hj2
    have f25 := hf 25 rfl; have f26 := hf 26 rfl
    simp only [PT.get_set, Nat.reduceEqDiff, if_true, if_false, reduceIte, h0] at f25 f26
    clear hf
    rcases Nat.lt_or_ge i2 rows.length with hlt | hge2
    · obtain ⟨r, hr', _, htk⟩ := get_dec (l := rows) (i := i2) (by simpa using hlt)
      have hre := hall r (List.mem_of_getElem? hr')
      subst hre
      have hdl : decide ((i2 : Int) < (rows.length : Int)) = true := by simpa using hlt
      repeat' (first | simp only [go_sem, Int.reduceLT, Int.reduceLE, Int.reduceNeg, Int.reduceEq, Nat.reduceAdd, Nat.reduceEqDiff, Nat.reduceLeDiff, Nat.reduceBEq, reduceIte, reduceCtorEq, f25, f26, h27, hj2, hr', hdl, app_nil_e] | (with_reducible first | apply c1 | (first | apply c2 | apply c3) <;> (intro hc; simp only [hc]) | (first | apply c4 | apply c5) <;> (intro hc; rw [hc])))
      exact hlt
    · repeat' (first | simp only [go_sem, Int.reduceLT, Int.reduceLE, Int.reduceNeg, Int.reduceEq, Nat.reduceAdd, Nat.reduceEqDiff, Nat.reduceLeDiff, Nat.reduceBEq, reduceIte, reduceCtorEq, f25, f26, h27, hj2, show decide ((i2 : Int) < (rows.length : Int)) = false by simpa using hge2] | (with_reducible first | apply c1 | (first | apply c2 | apply c3) <;> (intro hc; simp only [hc]) | (first | apply c4 | apply c5) <;> (intro hc; rw [hc])))
      exact .inl hne
  · have hne : rows.flatten ≠ [] := List.length_pos_iff.1 hn0
    repeat' (first | simp only [go_sem, Int.reduceLT, Int.reduceLE, Int.reduceNeg, Int.reduceEq, Nat.reduceAdd, Nat.reduceEqDiff, Nat.reduceLeDiff, Nat.reduceBEq, reduceIte, reduceCtorEq, h0, h9, h10, h11, hj, show decide ((i : Int) < (rows.length : Int)) = false by simpa using hge, hq] | (with_reducible first | apply c1 | (first | apply c2 | apply c3) <;> (intro hc; simp only [hc]) | (first | apply c4 | apply c5) <;> (intro hc; rw [hc])))
    refine X_for 27 rows.length (fun i s => s.t.get 6 = some (.ms id 0 (rows.take i).flatten.length rows.flatten.length none) ∧ s.h.get id = some (.cells (CI ((rows.take i).flatten ++ List.replicate (rows.flatten.length - (rows.take i).flatten.length) 0)) false)) 0 (by omega) ?_ (Nat.zero_le _) ?_ ?_
    · simp only [go_sem, Int.reduceLT, Int.reduceLE, Int.reduceNeg, Int.reduceEq, Nat.reduceAdd, Nat.reduceEqDiff, Nat.reduceLeDiff, Nat.reduceBEq, reduceIte, reduceCtorEq]; rfl
    · exact ⟨by simp only [go_sem, Int.reduceLT, Int.reduceLE, Int.reduceNeg, Int.reduceEq, Nat.reduceAdd, Nat.reduceEqDiff, Nat.reduceLeDiff, Nat.reduceBEq, reduceIte, reduceCtorEq]; simp, by simp only [go_sem, Int.reduceLT, Int.reduceLE, Int.reduceNeg, Int.reduceEq, Nat.reduceAdd, Nat.reduceEqDiff, Nat.reduceLeDiff, Nat.reduceBEq, reduceIte, reduceCtorEq, hg1]; simp⟩
    intro i2 t2 h2 nx2 hf hi0 hi h27 hj2
    obtain ⟨h6, hh2⟩ := hj2
    dsimp only at h6 hh2
    have f25 := hf 25 rfl; have f26 := hf 26 rfl
    simp only [PT.get_set, Nat.reduceEqDiff, if_true, if_false, reduceIte, h0] at f25 f26
    clear hf
    rcases Nat.lt_or_ge i2 rows.length with hlt | hge2
    · obtain ⟨r, hr', _, htk⟩ := get_dec (l := rows) (i := i2) (by simpa using hlt)
      have hdl : decide ((i2 : Int) < (rows.length : Int)) = true := by simpa using hlt
      have hnext : (rows.take (i2 + 1)).flatten = (rows.take i2).flatten ++ r := by rw [htk]; simp
      have hb := hpre (i2 + 1)
      rw [hnext, List.length_append] at hb
      have happ := fun id' => app_ms (i := id) (off := 0) (len := (rows.take i2).flatten.length) (av := rows.flatten.length) (xs := r) (id := id') hh2 hb (by rw [List.length_append, List.length_replicate]; omega)
      repeat' (first | simp only [go_sem, Int.reduceLT, Int.reduceLE, Int.reduceNeg, Int.reduceEq, Nat.reduceAdd, Nat.reduceEqDiff, Nat.reduceLeDiff, Nat.reduceBEq, reduceIte, reduceCtorEq, f25, f26, h27, h6, hr', hdl, happ] | (with_reducible first | apply c1 | (first | apply c2 | apply c3) <;> (intro hc; simp only [hc]) | (first | apply c4 | apply c5) <;> (intro hc; rw [hc])))
      refine ⟨hlt, ?_, ?_⟩
      · rw [hnext, List.length_append]
      · rw [setAt_CI, hnext, grow_step hb]
    · rw [List.take_of_length_le hge2] at h6 hh2
      repeat' (first | simp only [go_sem, Int.reduceLT, Int.reduceLE, Int.reduceNeg, Int.reduceEq, Nat.reduceAdd, Nat.reduceEqDiff, Nat.reduceLeDiff, Nat.reduceBEq, reduceIte, reduceCtorEq, f25, f26, h27, h6, show decide ((i2 : Int) < (rows.length : Int)) = false by simpa using hge2] | (with_reducible first | apply c1 | (first | apply c2 | apply c3) <;> (intro hc; simp only [hc]) | (first | apply c4 | apply c5) <;> (intro hc; rw [hc])))
      exact .inr ⟨hne, id, rfl, by rw [hh2]; simp⟩
theorem intsL_CI (l : List Int) : intsL (CI l) = some l := by
  induction l with
  | nil => rfl
  | cons a l ih =>
    have : CI (a :: l) = .p (.s (.int .i64 a)) :: CI l := rfl
    rw [this]
    simp only [intsL, ih]
theorem sortX_CI {l : List Int} {i id : Nat} {h : PT AObj} (hl : l.length ≤ 4096) (hg : h.get i = some (.cells (CI l) false)) : sortX [.ms i 0 l.length l.length none] h id = some { dv := .p (.tup []), rd := [i], up := [(i, some (.cells (CI (isort l)) false))] } := by
  simp only [sortX, hg]
  rw [if_pos ⟨by simp [CI], hl⟩]
  have e : ((CI l).drop 0).take l.length = CI l := by rw [List.drop_zero, List.take_of_length_le (by simp [CI])]
  rw [e, intsL_CI]
  simp only
  congr 5
  have : ((isort l).map fun n => DV.p (.s (.int .i64 n))) = CI (isort l) := rfl
  rw [this]
  have e2 := setAt_CI (c := l) (xs := isort l) (o := 0)
  rw [e2]
  simp [isort_len]
theorem snaps_CI {h : PT AObj} (l : List Int) : snaps h (CI l) = some (l.map I, []) := by
  have : CI l = (l.map I).map .p := by simp [CI]
  rw [this, snaps_p]
theorem own_CI {h1 : PT AObj} {i id n : Nat} {l : List Int} {rd : List Nat} {fz : List (Nat × Option AObj)} (hg : h1.get i = some (.cells (CI l) false)) : own true h1 (.ms i 0 n n none) id rd fz = some { dv := .ms id 0 n n none, rd := rd, up := fz ++ [(id, some (.cells (CI l) false))] } := by
  simp only [own, hg, snaps_CI]
  simp [CI]
theorem own_nil {h1 : PT AObj} {id : Nat} {rd : List Nat} {fz : List (Nat × Option AObj)} : own true h1 .nil id rd fz = some { dv := .nil, rd := rd, up := fz } := rfl
theorem compact_nil (h : PT AObj) (nx : Nat) : ∃ h' n', callR Tryz.prog G0 59 [.nil] h nx = some (.nil, h', n') := by
  obtain ⟨r, h', n', h1, h2⟩ := callR_body c_slices_Compact_Lint_int_ (xs := [.nil]) (h := h) (nx := nx) (Nat.le_of_ble_eq_true rfl) (R := fun r h' _ => r = .nil) (by
    simp only [m_slices_Compact_Lint_int_, Oo, Ou, Og, Ci, Om, Of, Ol, Ok]
    repeat' (first | simp only [go_sem, Int.reduceLT, Int.reduceLE, Int.reduceNeg, Int.reduceEq, Nat.reduceAdd, Nat.reduceEqDiff, Nat.reduceLeDiff, Nat.reduceBEq, reduceIte, reduceCtorEq, lenL_nil, show decide ((0 : Int) < 2) = true by decide] | (with_reducible first | apply c1 | (first | apply c2 | apply c3) <;> (intro hc; simp only [hc]) | (first | apply c4 | apply c5) <;> (intro hc; rw [hc]))))
  subst h2
  exact ⟨h', n', h1⟩
theorem compact_R {l : List Int} (hl : l.length ≤ 4096) {h : PT AObj} {i nx : Nat} (hg : h.get i = some (.cells (CI l) false)) : ∃ r h' n', callR Tryz.prog G0 59 [.ms i 0 l.length l.length none] h nx = some (r, h', n') ∧ ∃ j, ∃ rest, r = .ms j 0 (dd l).length l.length none ∧ h'.get j = some (.cells (CI (dd l ++ rest)) false) := by
  obtain ⟨r, h', n', k1, rest, k2, k3⟩ := compact_X l hl h i nx hg
  exact ⟨r, h', n', k1, i, rest, k2, k3⟩
theorem snap_ms {h : PT AObj} {i k av : Nat} {l rest : List Int} (hk : k = l.length) (hg : h.get i = some (.cells (CI (l ++ rest)) false)) : snap h (.ms i 0 k av none) = some (L l, [i]) := by
  subst hk
  have e : ((CI (l ++ rest)).drop 0).take (l.length * (none : Option Nat).getD 1) = (l.map I).map .p := by
    simp [CI]
  unfold snap
  rw [snapF]
  simp only [hg]
  rw [e, snapL_p]
  simp
theorem classes_res (x : VLoad) (hx : loadS x) : res Tryz.prog G0 32 [x.P] = some (L (allL x)) := by
  have hxl := hx
  obtain ⟨x1, x2⟩ := hx
  obtain ⟨_, hall, hal64⟩ := rallL x hxl
  have hfl : x.classes.flatten.length ≤ 64 := by
    have : ∀ l : List (List Int), l.length ≤ 8 → (∀ r ∈ l, r.length ≤ 8) → l.flatten.length ≤ 8 * l.length := by
      intro l
      induction l with
      | nil => simp
      | cons r l ih =>
        intro h1 h2
        have := ih (by simp at h1; omega) (fun r' hr => h2 r' (by simp [hr]))
        have h3 := h2 r (by simp)
        simp only [List.flatten_cons, List.length_append, List.length_cons]
        omega
    have := this _ x1 x2
    omega
  have hdd : dd (isort x.classes.flatten) = allL x := by
    obtain ⟨d1, d2⟩ := dd_sorted (isort_sorted x.classes.flatten)
    refine all_unique d1 hall.1 (fun y => ?_)
    rw [d2, hall.2, (isort_perm _).mem_iff]
  refine res_body c_crowd_classes (Nat.le_of_ble_eq_true rfl) ?_
  simp only [m_crowd_classes, Oo, Ou, Og, Ci, Om, Of, Ol, Ok]
  obtain ⟨r, h1, n1, hc, hr⟩ := concat_X x.classes (by omega) (by omega)
  rcases hr with ⟨hn, rfl⟩ | ⟨hn, i, rfl, hg⟩
  · have hq : ∀ {fn : FuncId} {dst : Option Nat} {id : Nat} {s : St}, mCall G0 fn (callR Tryz.prog G0) 57 [.p (.lst (x.classes.map L))] dst id s = effS dst s (some { dv := .nil, rd := [], up := [] }) := fun {fn dst id s} => mCall_ownA rfl (ps := [LL x.classes]) (rd := []) rfl hc own_nil
    have hq2 : ∀ {fn : FuncId} {dst : Option Nat} {id : Nat} {s : St}, mCall G0 fn (callR Tryz.prog G0) 58 [.nil] dst id s = effS dst s (some { dv := .p (.tup []), rd := [], up := [] }) := fun {fn dst id s} => mCall_ext rfl rfl rfl
    have hnil : allL x = [] := by rw [← hdd, hn]; rfl
    repeat' (first | simp only [go_sem, Int.reduceLT, Int.reduceLE, Int.reduceNeg, Int.reduceEq, Nat.reduceAdd, Nat.reduceEqDiff, Nat.reduceLeDiff, Nat.reduceBEq, reduceIte, reduceCtorEq, hq, hq2] | (with_reducible first | apply c1 | (first | apply c2 | apply c3) <;> (intro hc; simp only [hc]) | (first | apply c4 | apply c5) <;> (intro hc; rw [hc])))
    refine opsK_ref (R := fun r _ _ => r = .nil) rfl (by obtain ⟨h', n', h1⟩ := compact_nil _ _; exact ⟨_, h', n', h1, rfl⟩) ?_
    rintro r h' n' rfl
    repeat' (first | simp only [go_sem, Int.reduceLT, Int.reduceLE, Int.reduceNeg, Int.reduceEq, Nat.reduceAdd, Nat.reduceEqDiff, Nat.reduceLeDiff, Nat.reduceBEq, reduceIte, reduceCtorEq] | (with_reducible first | apply c1 | (first | apply c2 | apply c3) <;> (intro hc; simp only [hc]) | (first | apply c4 | apply c5) <;> (intro hc; rw [hc])))
    rw [hnil]
    rfl
  · have hq : ∀ {fn : FuncId} {dst : Option Nat} {id : Nat} {s : St}, mCall G0 fn (callR Tryz.prog G0) 57 [.p (.lst (x.classes.map L))] dst id s = effS dst s (some { dv := .ms id 0 x.classes.flatten.length x.classes.flatten.length none, rd := [], up := [(id, some (.cells (CI x.classes.flatten) false))] }) := fun {fn dst id s} => mCall_ownA rfl (ps := [LL x.classes]) (rd := []) rfl hc (own_CI hg)
    have hq2 : ∀ {fn : FuncId} {dst : Option Nat} {id j : Nat} {s : St} (hgs : s.h.get j = some (.cells (CI x.classes.flatten) false)), mCall G0 fn (callR Tryz.prog G0) 58 [.ms j 0 x.classes.flatten.length x.classes.flatten.length none] dst id s = effS dst s (some { dv := .p (.tup []), rd := [j], up := [(j, some (.cells (CI (isort x.classes.flatten)) false))] }) := fun {fn dst id j s} hgs => mCall_ext rfl rfl (sortX_CI (by omega) hgs)
    repeat' (first | simp only [go_sem, Int.reduceLT, Int.reduceLE, Int.reduceNeg, Int.reduceEq, Nat.reduceAdd, Nat.reduceEqDiff, Nat.reduceLeDiff, Nat.reduceBEq, reduceIte, reduceCtorEq, hq] | (with_reducible first | apply c1 | (first | apply c2 | apply c3) <;> (intro hc; simp only [hc]) | (first | apply c4 | apply c5) <;> (intro hc; rw [hc])))
    rw [hq2 (by simp [PT.get_set])]
    repeat' (first | simp only [go_sem, Int.reduceLT, Int.reduceLE, Int.reduceNeg, Int.reduceEq, Nat.reduceAdd, Nat.reduceEqDiff, Nat.reduceLeDiff, Nat.reduceBEq, reduceIte, reduceCtorEq] | (with_reducible first | apply c1 | (first | apply c2 | apply c3) <;> (intro hc; simp only [hc]) | (first | apply c4 | apply c5) <;> (intro hc; rw [hc])))
    refine opsK_ref (R := fun r h' _ => ∃ i, ∃ rest, r = .ms i 0 (dd (isort x.classes.flatten)).length x.classes.flatten.length none ∧ h'.get i = some (.cells (CI (dd (isort x.classes.flatten) ++ rest)) false)) rfl ?_ ?_
    · rw [← isort_len x.classes.flatten]
      exact compact_R (by rw [isort_len]; omega) (by simp [PT.get_set])
    rintro r h' n' ⟨i, rest, rfl, hg'⟩
    repeat' (first | simp only [go_sem, Int.reduceLT, Int.reduceLE, Int.reduceNeg, Int.reduceEq, Nat.reduceAdd, Nat.reduceEqDiff, Nat.reduceLeDiff, Nat.reduceBEq, reduceIte, reduceCtorEq] | (with_reducible first | apply c1 | (first | apply c2 | apply c3) <;> (intro hc; simp only [hc]) | (first | apply c4 | apply c5) <;> (intro hc; rw [hc])))
    rw [snap_ms rfl hg', hdd]
    rfl
end Go.Proofs.YtddmnddocbmjnaaGreat.Dv
namespace Go.Proofs.YtddmnddocbmjnaaGreat.Dv
end Go.Proofs.YtddmnddocbmjnaaGreat.Dv
namespace Go.Proofs.YtddmnddocbmjnaaGreat.Dv
def m_crowd_days : MF := ⟨35, (.seq (.reg none [Oo 3 (.box (.t 0)), Oo 4 (.box (.t 1)), Oo 6 (.mov (.d .nil))]) (.seq (.reg none [Oo 7 (.mov (.d .nil))]) (.seq (.seq (.reg none [Of 9 1 3, Of 10 1 9, Ol 11 10, Oo 12 (.mov (.d (Ci 0)))]) (.block 0 (.loop (.seq (.reg none [Oo 13 (.iop .lss (.t 12) (.t 11))]) (.seq (.cond (.t 13) .skip (.exit 0)) (.seq (.block 1 (.seq (.reg none [Om 14 12, Om 8 14]) (.seq (.reg none [Of 15 0 4, Ol 16 15, Om 17 2, Oo 18 (.iop .shr (.t 16) (.t 17)), Oo 19 (.iop .and (.t 18) (.d (.p (.s (.int .u32 1))))), Oo 20 (.iop .eql (.t 19) (.d (.p (.s (.int .u32 1))))), Om 21 20, Og 22 21 true (.fadr 1 (.t 4)), Og 23 21 true (.load false 1 (.t 22)), Og 24 21 true (.mov (.t 8)), Og 25 21 true (.iop .shr (.t 23) (.t 24)), Og 26 21 true (.iop .and (.t 25) (.d (.p (.s (.int .u8 1))))), Og 27 21 true (.iop .eql (.t 26) (.d (.p (.s (.int .u8 1))))), Oo 28 (.pick (.t 21) (.t 27) (.d (.p (.s (.bool false)))))]) (.cond (.t 28) (.reg none [Om 29 7, Om 30 8, Oo 31 (.bldS false none 1 [.t 30]), Oo 32 (.app false none 8 (.t 29) (.t 31)), Om 7 32]) .skip)))) (.reg none [Oo 33 (.iop .add (.t 12) (.d (Ci 1))), Om 12 33]))))))) (.seq (.reg none [Om 34 7, Om 6 34]) .ret)))), [.tmp 6]⟩
theorem c_crowd_days : comp Tryz.prog G0 43 = some m_crowd_days := by kernel_rfl
theorem q_crowd_days : Q0 43 := mCall_pure rfl
def m_ref19_Spot : MF := ⟨35, (.seq (.reg none [Oo 3 (.box (.t 0)), Oo 6 (.alloc [(.p (.s (.int .u32 0))), (.p (.s (.int .u8 0))), (Ci 0), (Ci 0), (Ci 0)]), Oo 7 (.mov (.d (.p (.s (.bool false)))))]) (.seq (.seq (.reg none [Oo 8 (.load true 15 (.t 3)), Om 9 1, Oo 10 (.call 48 [.t 8, .t 9]), Oo 11 (.un .not (.t 10)), Om 12 11, Og 13 12 false (.mov (.t 2)), Og 14 12 false (.iop .lss (.t 13) (.d (Ci 0))), Oo 15 (.pick (.t 12) (.d (.p (.s (.bool true)))) (.t 14)), Om 16 15, Og 17 16 false (.mov (.t 2)), Og 18 16 false (.mov (.t 1)), Og 19 16 false (.lenL (.t 18)), Og 20 16 false (.iop .geq (.t 17) (.t 19)), Oo 21 (.pick (.t 16) (.d (.p (.s (.bool true)))) (.t 20))]) (.cond (.t 21) (.seq (.reg none [Oo 22 (.bld [(.p (.s (.int .u32 0))), (.p (.s (.int .u8 0))), (Ci 0), (Ci 0), (Ci 0)] []), Ou (.store 5 (.t 6) (.t 22)), Oo 7 (.mov (.d (.p (.s (.bool false)))))]) .ret) .skip)) (.seq (.reg (some #[0, 1, 0, 7, 15, 0, 0, 96, 224, 511, 1023, 1023, 4095, 8191]) [Of 23 7 3, Ol 24 23, Om 25 2, Oo 26 (.iadrS 7 (.t 24) (.t 25)), Oo 27 (.load true 7 (.t 26)), Om 28 1, Om 29 2, Oo 30 (.iadrS 2 (.t 28) (.t 29)), Oo 31 (.load true 2 (.t 30)), Oo 32 (.call 83 [.t 27, .t 31]), Oo 33 (.xtr 0 (.t 32)), Oo 34 (.xtr 1 (.t 32)), Ou (.store 5 (.t 6) (.t 33)), Om 7 34]) .ret))), [.cell 6 true 5, .tmp 7]⟩
theorem c_ref19_Spot : comp Tryz.prog G0 49 = some m_ref19_Spot := by kernel_rfl
theorem q_ref19_Spot : Q0 49 := mCall_pure rfl
theorem and32_q (q : Nat) : andI .u32 (q : Int) 1 = ((q % 2 : Nat) : Int) := by
  have h : (BitVec.ofInt (IntKind.bits .u32) (q : Int) &&& BitVec.ofInt (IntKind.bits .u32) 1).toNat = q % 2 := by
    rw [BitVec.toNat_and]
    have e1 : (BitVec.ofInt (IntKind.bits .u32) (q : Int)).toNat = q % 4294967296 := by
      simp only [IntKind.bits, BitVec.ofInt_natCast, BitVec.toNat_ofNat]
    have e2 : (BitVec.ofInt (IntKind.bits .u32) 1).toNat = 1 := by decide
    rw [e1, e2, Nat.and_one_is_mod]
    omega
  rw [andI, h]
  have : q % 2 = 0 ∨ q % 2 = 1 := by omega
  rcases this with e | e <;> rw [e] <;> decide
theorem and8_q (q : Nat) : andI .u8 (q : Int) 1 = ((q % 2 : Nat) : Int) := by
  have h : (BitVec.ofInt (IntKind.bits .u8) (q : Int) &&& BitVec.ofInt (IntKind.bits .u8) 1).toNat = q % 2 := by
    rw [BitVec.toNat_and]
    have e1 : (BitVec.ofInt (IntKind.bits .u8) (q : Int)).toNat = q % 256 := by
      simp only [IntKind.bits, BitVec.ofInt_natCast, BitVec.toNat_ofNat]
    have e2 : (BitVec.ofInt (IntKind.bits .u8) 1).toNat = 1 := by decide
    rw [e1, e2, Nat.and_one_is_mod]
    omega
  rw [andI, h]
  have : q % 2 = 0 ∨ q % 2 = 1 := by omega
  rcases this with e | e <;> rw [e] <;> decide
theorem and32 (n i : Nat) (hi : i ≤ 32) : decide (andI .u32 ((n : Int).fdiv (2 ^ min i 32)) 1 = 1) = n.testBit i := by
  rw [fdiv_nat, and32_q, Nat.min_eq_left hi, Nat.testBit_eq_decide_div_mod_eq]
  have : (((n / 2 ^ i % 2 : Nat) : Int) = 1) ↔ n / 2 ^ i % 2 = 1 := by omega
  simp only [this]
theorem and8 (n i : Nat) (hi : i ≤ 8) : decide (andI .u8 ((n : Int).fdiv (2 ^ min i 8)) 1 = 1) = n.testBit i := by
  rw [fdiv_nat, and8_q, Nat.min_eq_left hi, Nat.testBit_eq_decide_div_mod_eq]
  have : (((n / 2 ^ i % 2 : Nat) : Int) = 1) ↔ n / 2 ^ i % 2 = 1 := by omega
  simp only [this]
theorem rem8 (n i : Nat) (hi : i ≤ 8) : decide (((n : Int).fdiv (2 ^ min i 8)).tmod 2 = 1) = n.testBit i := by
  rw [fdiv_nat, Nat.min_eq_left hi, Nat.testBit_eq_decide_div_mod_eq]
  have h2 : ((n / 2 ^ i : Nat) : Int).tmod 2 = ((n / 2 ^ i % 2 : Nat) : Int) := rfl
  have : (((n / 2 ^ i % 2 : Nat) : Int) = 1) ↔ n / 2 ^ i % 2 = 1 := by omega
  rw [h2]
  simp only [this]
def dayB (w : VWhen) (week d : Nat) : Bool := w.weeks.val.testBit week && w.days.val.testBit d
def daysI (w : VWhen) (week n : Nat) : List Int := ((List.range n).filter (dayB w week)).map (fun d : Nat => (d : Int))
theorem daysI_snoc {w : VWhen} {week n : Nat} : daysI w week (n + 1) = daysI w week n ++ if dayB w week n then [(n : Int)] else [] := by
  rw [daysI, List.range_succ, List.filter_append, List.map_append]
  by_cases h : dayB w week n = true <;> simp [daysI, h]
theorem daysI_len {w : VWhen} {week n : Nat} : (daysI w week n).length ≤ n := by
  rw [daysI, List.length_map]
  exact Nat.le_trans (List.length_filter_le _ _) (by simp)
def OwnI (d : DV) (ls : List Int) (s : St) : Prop := (d = .nil ∧ ls = []) ∨ (∃ j, d = .ow j (ls.map I) ∧ s.h.get j = some (.tip 1) ∧ 1 < j ∧ j < s.nx)
theorem ownI_mono {d : DV} {ls : List Int} {t t' : PT DV} {h h' : PT AObj} {nx nx' : Nat} (hd : OwnI d ls ⟨t, h, nx⟩) (hh : ∀ j, 1 < j → j < nx → h'.get j = h.get j) (hn : nx ≤ nx') : OwnI d ls ⟨t', h', nx'⟩ := by
  rcases hd with hd | ⟨j, e1, e2, e3, e4⟩
  · exact .inl hd
  · exact .inr ⟨j, e1, (hh j e3 e4).trans e2, e3, Nat.lt_of_lt_of_le e4 hn⟩
theorem ownI_snap {d : DV} {ls : List Int} {s : St} (h : OwnI d ls s) (h' : PT AObj) : snap h' d = some (L ls, []) := by
  rcases h with ⟨rfl, rfl⟩ | ⟨j, rfl, _⟩ <;> rfl
theorem days_res (p : VProblem) (w : VWhen) (week n : Nat) (hw : week ≤ 32) (hn : p.grid.days = (n : Int)) (hn8 : n ≤ 8) : res Tryz.prog G0 43 [p.P, w.P, I (week : Int)] = some (L (daysI w week n)) := by
  refine res_body c_crowd_days (Nat.le_of_ble_eq_true rfl) ?_
  simp only [m_crowd_days, Oo, Ou, Og, Ci, Om, Of, Ol, Ok]
  repeat' (first | simp only [go_sem, Int.reduceLT, Int.reduceLE, Int.reduceNeg, Int.reduceEq, Nat.reduceAdd, Nat.reduceEqDiff, Nat.reduceLeDiff, Nat.reduceBEq, reduceIte, reduceCtorEq, hn] | (with_reducible first | apply c1 | (first | apply c2 | apply c3) <;> (intro hc; simp only [hc]) | (first | apply c4 | apply c5) <;> (intro hc; rw [hc])))
  refine X_for 12 n (fun i s => s.h.get 0 = some (.cells (DV.cells (.p p.P)) false) ∧ s.h.get 1 = some (.cells (DV.cells (.p w.P)) false) ∧ 1 < s.nx ∧ ∃ d, s.t.get 7 = some d ∧ OwnI d (daysI w week i) s) 0 (by omega) ?_ (Nat.zero_le _) ?_ ?_
  · simp only [go_sem, Int.reduceLT, Int.reduceLE, Int.reduceNeg, Int.reduceEq, Nat.reduceAdd, Nat.reduceEqDiff, Nat.reduceLeDiff, Nat.reduceBEq, reduceIte, reduceCtorEq]; rfl
  · exact ⟨by simp only [go_sem, Int.reduceLT, Int.reduceLE, Int.reduceNeg, Int.reduceEq, Nat.reduceAdd, Nat.reduceEqDiff, Nat.reduceLeDiff, Nat.reduceBEq, reduceIte, reduceCtorEq], by simp only [go_sem, Int.reduceLT, Int.reduceLE, Int.reduceNeg, Int.reduceEq, Nat.reduceAdd, Nat.reduceEqDiff, Nat.reduceLeDiff, Nat.reduceBEq, reduceIte, reduceCtorEq], by dsimp only; omega, .nil, by simp only [go_sem, Int.reduceLT, Int.reduceLE, Int.reduceNeg, Int.reduceEq, Nat.reduceAdd, Nat.reduceEqDiff, Nat.reduceLeDiff, Nat.reduceBEq, reduceIte, reduceCtorEq], .inl ⟨rfl, rfl⟩⟩
  intro i t h nx hf hi0 hi h12 hj
  obtain ⟨hh0, hh1, hnx, d, h7, hd⟩ := hj
  dsimp only at hh0 hh1 h7 hnx
  have h2 := hf 2 rfl; simp only [PT.get_set, Nat.reduceEqDiff, if_true, if_false, reduceIte, PT.get_leaf] at h2; have h3 := hf 3 rfl; simp only [PT.get_set, Nat.reduceEqDiff, if_true, if_false, reduceIte, PT.get_leaf] at h3; have h4 := hf 4 rfl; simp only [PT.get_set, Nat.reduceEqDiff, if_true, if_false, reduceIte, PT.get_leaf] at h4; have h11 := hf 11 rfl; simp only [PT.get_set, Nat.reduceEqDiff, if_true, if_false, reduceIte, PT.get_leaf] at h11
  clear hf
  rcases Nat.lt_or_ge i n with hlt | hge
  · have hdl : decide ((i : Int) < (n : Int)) = true := by simpa using hlt
    have b1 := and32 w.weeks.val week hw
    have b2 := and8 w.days.val i (by omega)
    have hlen := daysI_len (w := w) (week := week) (n := i)
    cases hA : w.weeks.val.testBit week
    · rw [hA] at b1
      repeat' (first | simp only [go_sem, Int.reduceLT, Int.reduceLE, Int.reduceNeg, Int.reduceEq, Nat.reduceAdd, Nat.reduceEqDiff, Nat.reduceLeDiff, Nat.reduceBEq, reduceIte, reduceCtorEq, h2, h3, h4, h7, h11, h12, hh0, hh1, hdl, b1] | (with_reducible first | apply c1 | (first | apply c2 | apply c3) <;> (intro hc; simp only [hc]) | (first | apply c4 | apply c5) <;> (intro hc; rw [hc])))
      refine ⟨hlt, by omega, ?_⟩
      rw [daysI_snoc, show dayB w week i = false by simp [dayB, hA], if_neg (by simp), List.append_nil]
      exact ownI_mono hd (fun _ _ _ => rfl) (by omega)
    rw [hA] at b1
    cases hB : w.days.val.testBit i
    · rw [hB] at b2
      repeat' (first | simp only [go_sem, Int.reduceLT, Int.reduceLE, Int.reduceNeg, Int.reduceEq, Nat.reduceAdd, Nat.reduceEqDiff, Nat.reduceLeDiff, Nat.reduceBEq, reduceIte, reduceCtorEq, h2, h3, h4, h7, h11, h12, hh0, hh1, hdl, b1, b2] | (with_reducible first | apply c1 | (first | apply c2 | apply c3) <;> (intro hc; simp only [hc]) | (first | apply c4 | apply c5) <;> (intro hc; rw [hc])))
      refine ⟨hlt, by omega, ?_⟩
      rw [daysI_snoc, show dayB w week i = false by simp [dayB, hB], if_neg (by simp), List.append_nil]
      exact ownI_mono hd (fun _ _ _ => rfl) (by omega)
    rw [hB] at b2
    have hB' : dayB w week i = true := by simp [dayB, hA, hB]
    rcases hd with ⟨rfl, e⟩ | ⟨j, rfl, hg, j0, j1⟩
    · repeat' (first | simp only [go_sem, Int.reduceLT, Int.reduceLE, Int.reduceNeg, Int.reduceEq, Nat.reduceAdd, Nat.reduceEqDiff, Nat.reduceLeDiff, Nat.reduceBEq, reduceIte, reduceCtorEq, h2, h3, h4, h7, h11, h12, hh0, hh1, hdl, b1, b2, bldS_one one1_s, app_nil_one one1_s] | (with_reducible first | apply c1 | (first | apply c2 | apply c3) <;> (intro hc; simp only [hc]) | (first | apply c4 | apply c5) <;> (intro hc; rw [hc])))
      refine ⟨hlt, by omega, ?_⟩
      rw [daysI_snoc, hB', if_pos rfl, e]
      exact .inr ⟨nx + 20, rfl, by simp, by omega, by simp⟩
    · dsimp only at hg j1
      repeat' (first | simp only [go_sem, Int.reduceLT, Int.reduceLE, Int.reduceNeg, Int.reduceEq, Nat.reduceAdd, Nat.reduceEqDiff, Nat.reduceLeDiff, Nat.reduceBEq, reduceIte, reduceCtorEq, h2, h3, h4, h7, h11, h12, hh0, hh1, hdl, b1, b2, bldS_one one1_s, app_ow_one (l := (daysI w week i).map I) (b := 8) (i := j) (hv := one1_s) (hb := by simp; omega), hg, show ¬ nx + 19 = j by omega, show ¬ nx + 20 = j by omega, show ¬ j = 0 by omega, show ¬ j = 1 by omega] | (with_reducible first | apply c1 | (first | apply c2 | apply c3) <;> (intro hc; simp only [hc]) | (first | apply c4 | apply c5) <;> (intro hc; rw [hc])))
      refine ⟨hlt, by omega, ?_⟩
      rw [daysI_snoc, hB', if_pos rfl]
      exact .inr ⟨nx + 20, by rw [List.map_append]; rfl, by simp, by omega, by simp⟩
  · repeat' (first | simp only [go_sem, Int.reduceLT, Int.reduceLE, Int.reduceNeg, Int.reduceEq, Nat.reduceAdd, Nat.reduceEqDiff, Nat.reduceLeDiff, Nat.reduceBEq, reduceIte, reduceCtorEq, h2, h3, h4, h7, h11, h12, hh0, hh1, show decide ((i : Int) < (n : Int)) = false by simpa using hge] | (with_reducible first | apply c1 | (first | apply c2 | apply c3) <;> (intro hc; simp only [hc]) | (first | apply c4 | apply c5) <;> (intro hc; rw [hc])))
    have : i = n := by omega
    subst this
    rw [ownI_snap hd h]
    rfl
theorem rspot19_res (p : VProblem) (hp : smP p) (l : List VSeat) (hl : l.length ≤ 1048576) (c : Int) : res Tryz.prog G0 49 [p.P, .lst (l.map VSeat.P), I c] = some (.tup [(pspotV p l c).P, B (pspotB p l c)]) := by
  refine res_body c_ref19_Spot (Nat.le_of_ble_eq_true rfl) ?_
  simp only [m_ref19_Spot, Oo, Ou, Og, Ci, Om, Of, Ol, Ok]
  cases hpl : planB p l with
  | false =>
    repeat' (first | simp only [go_sem, Int.reduceLT, Int.reduceLE, Int.reduceNeg, Int.reduceEq, Nat.reduceAdd, Nat.reduceEqDiff, Nat.reduceLeDiff, Nat.reduceBEq, reduceIte, reduceCtorEq, q_ref19_Right, rplan_res p hp l hl, hpl] | (with_reducible first | apply c1 | (first | apply c2 | apply c3) <;> (intro hc; simp only [hc]) | (first | apply c4 | apply c5) <;> (intro hc; rw [hc])))
    all_goals (simp [pspotV, pspotB, hpl, z5, VSpot.P])
  | true =>
    by_cases h0 : c < 0
    case pos =>
      repeat' (first | simp only [go_sem, Int.reduceLT, Int.reduceLE, Int.reduceNeg, Int.reduceEq, Nat.reduceAdd, Nat.reduceEqDiff, Nat.reduceLeDiff, Nat.reduceBEq, reduceIte, reduceCtorEq, q_ref19_Right, rplan_res p hp l hl, hpl, show decide (c < 0) = true by simpa using h0] | (with_reducible first | apply c1 | (first | apply c2 | apply c3) <;> (intro hc; simp only [hc]) | (first | apply c4 | apply c5) <;> (intro hc; rw [hc])))
      all_goals (simp [pspotV, pspotB, show ¬ 0 ≤ c by omega, z5, VSpot.P])
    obtain ⟨i, rfl⟩ := Int.eq_ofNat_of_zero_le (show 0 ≤ c by omega)
    by_cases h1 : i < l.length
    case neg =>
      repeat' (first | simp only [go_sem, Int.reduceLT, Int.reduceLE, Int.reduceNeg, Int.reduceEq, Nat.reduceAdd, Nat.reduceEqDiff, Nat.reduceLeDiff, Nat.reduceBEq, reduceIte, reduceCtorEq, q_ref19_Right, rplan_res p hp l hl, hpl, show decide ((l.length : Int) ≤ (i : Int)) = true by (simp; omega)] | (with_reducible first | apply c1 | (first | apply c2 | apply c3) <;> (intro hc; simp only [hc]) | (first | apply c4 | apply c5) <;> (intro hc; rw [hc])))
      all_goals (simp [pspotV, pspotB, h1, z5, VSpot.P])
    have hpl' := hpl
    simp only [planB, Bool.and_eq_true, decide_eq_true_eq] at hpl'
    obtain ⟨s, hs, _, _⟩ := get_dec (l := l) (i := i) (by simpa using h1)
    obtain ⟨k, hk, _, _⟩ := get_dec (l := p.classes) (i := i) (by simp; omega)
    have hsb := seats_get hpl'.2 hk hs
    repeat' (first | simp only [go_sem, Int.reduceLT, Int.reduceLE, Int.reduceNeg, Int.reduceEq, Nat.reduceAdd, Nat.reduceEqDiff, Nat.reduceLeDiff, Nat.reduceBEq, reduceIte, reduceCtorEq, show decide ((l.length : Int) ≤ (i : Int)) = false by (simp; omega), q_ref19_Right, rplan_res p hp l hl, hpl, hk, hs, q_ref13_Spot, rspot_res, hsb] | (with_reducible first | apply c1 | (first | apply c2 | apply c3) <;> (intro hc; simp only [hc]) | (first | apply c4 | apply c5) <;> (intro hc; rw [hc])))
    · rfl
    · rfl
    · have hsi : l[i] = s := (List.getElem?_eq_some_iff.1 hs).2
      simp [pspotV, pspotB, hpl, h1, hk, hs, hsi]
end Go.Proofs.YtddmnddocbmjnaaGreat.Dv
namespace Go.Proofs.YtddmnddocbmjnaaGreat.Dv
def m_ref43_Threes : MF := ⟨26, (.seq (.reg none [Oo 4 (.mov (.d (.p (.s (.bool false)))))]) (.seq (.seq (.reg none [Om 6 0, Ok 7 6, Om 8 1, Ok 9 8, Oo 10 (.iop .neq (.t 7) (.t 9))]) (.cond (.t 10) (.seq (.reg none [Oo 4 (.mov (.d (.p (.s (.bool false)))))]) .ret) .skip)) (.seq (.seq (.reg none [Oo 5 (.mov (.d (Ci 0)))]) (.block 0 (.loop (.seq (.seq (.reg none [Om 11 5, Om 12 0, Ok 13 12, Oo 14 (.iop .lss (.t 11) (.t 13))]) (.cond (.t 14) .skip (.exit 0))) (.seq (.block 1 (.seq (.reg (some #[0, 0, 3, 7, 0, 0, 48, 112, 255]) [Om 17 0, Om 18 5, Oo 19 (.iadrS 3 (.t 17) (.t 18)), Oo 20 (.load true 3 (.t 19)), Om 21 1, Om 22 5, Oo 23 (.iadrS 3 (.t 21) (.t 22)), Oo 24 (.load true 3 (.t 23)), Oo 25 (.aop [0, 0, 0] true (.t 20) (.t 24))]) (.cond (.t 25) (.seq (.reg none [Oo 4 (.mov (.d (.p (.s (.bool false)))))]) .ret) .skip))) (.reg none [Om 15 5, Oo 16 (.iop .add (.t 15) (.d (Ci 1))), Om 5 16])))))) (.seq (.reg none [Oo 4 (.mov (.d (.p (.s (.bool true)))))]) .ret)))), [.tmp 4]⟩
theorem c_ref43_Threes : comp Tryz.prog G0 23 = some m_ref43_Threes := by kernel_rfl
theorem q_ref43_Threes : Q0 23 := mCall_pure rfl
def m_ref43_ahead : MF := ⟨30, (.seq (.reg none [Oo 2 (.box (.t 0)), Oo 3 (.box (.t 1)), Oo 4 (.mov (.d (.p (.s (.bool false)))))]) (.seq (.seq (.reg none [Oo 5 (.iadrA 3 1 (.t 2) (.d (Ci 0))), Ol 6 5, Oo 7 (.iadrA 3 1 (.t 3) (.d (Ci 0))), Ol 8 7, Oo 9 (.iop .neq (.t 6) (.t 8))]) (.cond (.t 9) (.seq (.reg none [Oo 10 (.iadrA 3 1 (.t 2) (.d (Ci 0))), Ol 11 10, Oo 12 (.iadrA 3 1 (.t 3) (.d (Ci 0))), Ol 13 12, Oo 14 (.iop .lss (.t 11) (.t 13)), Om 4 14]) .ret) .skip)) (.seq (.seq (.reg none [Oo 15 (.iadrA 3 1 (.t 2) (.d (Ci 1))), Ol 16 15, Oo 17 (.iadrA 3 1 (.t 3) (.d (Ci 1))), Ol 18 17, Oo 19 (.iop .neq (.t 16) (.t 18))]) (.cond (.t 19) (.seq (.reg none [Oo 20 (.iadrA 3 1 (.t 2) (.d (Ci 1))), Ol 21 20, Oo 22 (.iadrA 3 1 (.t 3) (.d (Ci 1))), Ol 23 22, Oo 24 (.iop .lss (.t 21) (.t 23)), Om 4 24]) .ret) .skip)) (.seq (.reg none [Oo 25 (.iadrA 3 1 (.t 2) (.d (Ci 2))), Ol 26 25, Oo 27 (.iadrA 3 1 (.t 3) (.d (Ci 2))), Ol 28 27, Oo 29 (.iop .lss (.t 26) (.t 28)), Om 4 29]) .ret)))), [.tmp 4]⟩
theorem c_ref43_ahead : comp Tryz.prog G0 84 = some m_ref43_ahead := by kernel_rfl
theorem q_ref43_ahead : Q0 84 := mCall_pure rfl
def m_ref43_put : MF := ⟨47, (.seq (.reg none [Oo 3 (.box (.t 1)), Oo 4 (.mov (.d .nil))]) (.seq (.reg none [Oo 7 (.bldS false (some 3) 0 []), Om 5 7]) (.seq (.reg none [Oo 6 (.mov (.d (Ci 0)))]) (.seq (.block 0 (.loop (.seq (.seq (.reg (some #[0, 0, 2, 7, 15, 31, 31, 127, 255, 31, 1023, 2047]) [Om 8 6, Om 9 0, Ok 10 9, Oo 11 (.iop .lss (.t 8) (.t 10)), Om 12 11, Og 13 12 true (.mov (.t 0)), Og 14 12 true (.mov (.t 6)), Og 15 12 true (.iadrS 3 (.t 13) (.t 14)), Og 16 12 true (.load true 3 (.t 15)), Og 17 12 true (.load true 3 (.t 3)), Og 18 12 true (.call 84 [.t 16, .t 17]), Oo 19 (.pick (.t 12) (.t 18) (.d (.p (.s (.bool false)))))]) (.cond (.t 19) .skip (.exit 0))) (.block 1 (.seq (.reg none [Om 20 5, Om 21 0, Om 22 6, Oo 23 (.iadrS 3 (.t 21) (.t 22)), Oo 24 (.load true 3 (.t 23)), Oo 25 (.bldS false (some 3) 1 [.t 24]), Oo 26 (.app false (some 3) 24 (.t 20) (.t 25)), Om 5 26]) (.reg none [Om 27 6, Oo 28 (.iop .add (.t 27) (.d (Ci 1))), Om 6 28])))))) (.seq (.reg none [Om 29 5, Oo 30 (.load true 3 (.t 3)), Oo 31 (.bldS false (some 3) 1 [.t 30]), Oo 32 (.app false (some 3) 24 (.t 29) (.t 31)), Om 5 32]) (.seq (.block 2 (.loop (.seq (.seq (.reg none [Om 33 6, Om 34 0, Ok 35 34, Oo 36 (.iop .lss (.t 33) (.t 35))]) (.cond (.t 36) .skip (.exit 2))) (.block 3 (.seq (.reg none [Om 37 5, Om 38 0, Om 39 6, Oo 40 (.iadrS 3 (.t 38) (.t 39)), Oo 41 (.load true 3 (.t 40)), Oo 42 (.bldS false (some 3) 1 [.t 41]), Oo 43 (.app false (some 3) 24 (.t 37) (.t 42)), Om 5 43]) (.reg none [Om 44 6, Oo 45 (.iop .add (.t 44) (.d (Ci 1))), Om 6 45])))))) (.seq (.reg none [Om 46 5, Om 4 46]) .ret))))))), [.tmp 4]⟩
theorem c_ref43_put : comp Tryz.prog G0 50 = some m_ref43_put := by kernel_rfl
theorem q_ref43_put : Q0 50 := mCall_pure rfl
theorem p3_len {x : T3} : (P3 x).cells.length = 3 := rfl
theorem p3_ld {x : T3} {h : PT AObj} : ldX true 3 (.p (.rp (P3 x).cells)) h = some { dv := .p (P3 x) } := rfl
theorem p3_aop {n : Bool} {x y : T3} : aopX [0, 0, 0] n (.p (P3 x)) (.p (P3 y)) = some (bl n (decide (x = y))) := by
  have : (x.1 == y.1 && (x.2.1 == y.2.1 && (x.2.2 == y.2.2 && true))) = decide (x = y) := by
    rw [Bool.eq_iff_iff]
    simp [Prod.ext_iff]
  simp only [aopX, P3, eqL, eq1, if_true, Option.map_some, this]
theorem threes_res (a b : List T3) (hb : b.length ≤ 1048576) : res Tryz.prog G0 23 [.lst (a.map P3), .lst (b.map P3)] = some (B (decide (a = b))) := by
  refine res_body c_ref43_Threes (Nat.le_of_ble_eq_true rfl) ?_
  simp only [m_ref43_Threes, Oo, Ou, Og, Ci, Om, Of, Ol, Ok]
  by_cases hl : a.length = b.length
  case neg =>
    repeat' (first | simp only [go_sem, Int.reduceLT, Int.reduceLE, Int.reduceNeg, Int.reduceEq, Nat.reduceAdd, Nat.reduceEqDiff, Nat.reduceLeDiff, Nat.reduceBEq, reduceIte, reduceCtorEq, show decide ((a.length : Int) ≠ (b.length : Int)) = true by (simp only [decide_eq_true_eq]; omega)] | (with_reducible first | apply c1 | (first | apply c2 | apply c3) <;> (intro hc; simp only [hc]) | (first | apply c4 | apply c5) <;> (intro hc; rw [hc])))
    have : a ≠ b := fun e => hl (by rw [e])
    simp [this]
  repeat' (first | simp only [go_sem, Int.reduceLT, Int.reduceLE, Int.reduceNeg, Int.reduceEq, Nat.reduceAdd, Nat.reduceEqDiff, Nat.reduceLeDiff, Nat.reduceBEq, reduceIte, reduceCtorEq, show decide ((a.length : Int) ≠ (b.length : Int)) = false by (simp; omega)] | (with_reducible first | apply c1 | (first | apply c2 | apply c3) <;> (intro hc; simp only [hc]) | (first | apply c4 | apply c5) <;> (intro hc; rw [hc])))
  refine X_for 5 a.length (fun i s => a.take i = b.take i) 0 (by omega) ?_ (Nat.zero_le _) (by simp) ?_
  · simp only [go_sem, Int.reduceLT, Int.reduceLE, Int.reduceNeg, Int.reduceEq, Nat.reduceAdd, Nat.reduceEqDiff, Nat.reduceLeDiff, Nat.reduceBEq, reduceIte, reduceCtorEq]; rfl
  intro i t h nx hf hi0 hi h5 hj
  have h0 := hf 0 rfl; simp only [PT.get_set, Nat.reduceEqDiff, if_true, if_false, reduceIte, PT.get_leaf] at h0; have h1 := hf 1 rfl; simp only [PT.get_set, Nat.reduceEqDiff, if_true, if_false, reduceIte, PT.get_leaf] at h1
  clear hf
  rcases Nat.lt_or_ge i a.length with hlt | hge
  · obtain ⟨x, hx, _, htx⟩ := get_dec (l := a) (i := i) (by simpa using hlt)
    obtain ⟨y, hy, _, hty⟩ := get_dec (l := b) (i := i) (by simp; omega)
    have hdl : decide ((i : Int) < (a.length : Int)) = true := by simpa using hlt
    by_cases hxy : x = y
    · repeat' (first | simp only [go_sem, Int.reduceLT, Int.reduceLE, Int.reduceNeg, Int.reduceEq, Nat.reduceAdd, Nat.reduceEqDiff, Nat.reduceLeDiff, Nat.reduceBEq, reduceIte, reduceCtorEq, h0, h1, h5, hx, hy, hdl, p3_len, p3_ld, p3_aop, show decide (x = y) = true by simpa using hxy] | (with_reducible first | apply c1 | (first | apply c2 | apply c3) <;> (intro hc; simp only [hc]) | (first | apply c4 | apply c5) <;> (intro hc; rw [hc])))
      refine ⟨hlt, ?_⟩
      rw [htx, hty, hj, hxy]
    · repeat' (first | simp only [go_sem, Int.reduceLT, Int.reduceLE, Int.reduceNeg, Int.reduceEq, Nat.reduceAdd, Nat.reduceEqDiff, Nat.reduceLeDiff, Nat.reduceBEq, reduceIte, reduceCtorEq, h0, h1, h5, hx, hy, hdl, p3_len, p3_ld, p3_aop, show decide (x = y) = false by simpa using hxy] | (with_reducible first | apply c1 | (first | apply c2 | apply c3) <;> (intro hc; simp only [hc]) | (first | apply c4 | apply c5) <;> (intro hc; rw [hc])))
      have : a ≠ b := fun e => by
        rw [e, hy] at hx
        cases hx
        exact hxy rfl
      simp [this]
  · rw [List.take_of_length_le hge, List.take_of_length_le (by omega)] at hj
    repeat' (first | simp only [go_sem, Int.reduceLT, Int.reduceLE, Int.reduceNeg, Int.reduceEq, Nat.reduceAdd, Nat.reduceEqDiff, Nat.reduceLeDiff, Nat.reduceBEq, reduceIte, reduceCtorEq, h0, h1, h5, show decide ((i : Int) < (a.length : Int)) = false by simpa using hge] | (with_reducible first | apply c1 | (first | apply c2 | apply c3) <;> (intro hc; simp only [hc]) | (first | apply c4 | apply c5) <;> (intro hc; rw [hc])))
    simp [hj]
def ahB (a b : T3) : Bool := if a.1 = b.1 then (if a.2.1 = b.2.1 then decide (a.2.2 < b.2.2) else decide (a.2.1 < b.2.1)) else decide (a.1 < b.1)
theorem ahB_lt {a b : T3} : ahB a b = true ↔ lt3 a b := by
  unfold ahB lt3
  split
  · split
    · simp only [decide_eq_true_eq]; omega
    · simp only [decide_eq_true_eq]; omega
  · simp only [decide_eq_true_eq]; omega
theorem ahead_res (a b : T3) : res Tryz.prog G0 84 [P3 a, P3 b] = some (B (ahB a b)) := by
  refine res_body c_ref43_ahead (Nat.le_of_ble_eq_true rfl) ?_
  simp only [m_ref43_ahead, Oo, Ou, Og, Ci, Om, Of, Ol, Ok, P3]
  have e0 : ∀ {id o : Nat}, iadrAX 3 1 (.mp id o) (.p (.s (.int .i64 0))) = some (.mp id o) := fun {id o} => by simpa using iadrA_mp (n := 3) (k := 1) (i := 0) (id := id) (o := o) (by omega)
  have e1 : ∀ {id o : Nat}, iadrAX 3 1 (.mp id o) (.p (.s (.int .i64 1))) = some (.mp id (o + 1)) := fun {id o} => by simpa using iadrA_mp (n := 3) (k := 1) (i := 1) (id := id) (o := o) (by omega)
  have e2 : ∀ {id o : Nat}, iadrAX 3 1 (.mp id o) (.p (.s (.int .i64 2))) = some (.mp id (o + 2)) := fun {id o} => by simpa using iadrA_mp (n := 3) (k := 1) (i := 2) (id := id) (o := o) (by omega)
  by_cases h1 : a.1 = b.1
  · by_cases h2 : a.2.1 = b.2.1
    · repeat' (first | simp only [go_sem, Int.reduceLT, Int.reduceLE, Int.reduceNeg, Int.reduceEq, Nat.reduceAdd, Nat.reduceEqDiff, Nat.reduceLeDiff, Nat.reduceBEq, reduceIte, reduceCtorEq, e0, e1, e2, show decide (a.1 ≠ b.1) = false by simpa using h1, show decide (a.2.1 ≠ b.2.1) = false by simpa using h2] | (with_reducible first | apply c1 | (first | apply c2 | apply c3) <;> (intro hc; simp only [hc]) | (first | apply c4 | apply c5) <;> (intro hc; rw [hc])))
      all_goals (simp [ahB, h1, h2])
    · repeat' (first | simp only [go_sem, Int.reduceLT, Int.reduceLE, Int.reduceNeg, Int.reduceEq, Nat.reduceAdd, Nat.reduceEqDiff, Nat.reduceLeDiff, Nat.reduceBEq, reduceIte, reduceCtorEq, e0, e1, e2, show decide (a.1 ≠ b.1) = false by simpa using h1, show decide (a.2.1 ≠ b.2.1) = true by simpa using h2] | (with_reducible first | apply c1 | (first | apply c2 | apply c3) <;> (intro hc; simp only [hc]) | (first | apply c4 | apply c5) <;> (intro hc; rw [hc])))
      all_goals (simp [ahB, h1, h2])
  · repeat' (first | simp only [go_sem, Int.reduceLT, Int.reduceLE, Int.reduceNeg, Int.reduceEq, Nat.reduceAdd, Nat.reduceEqDiff, Nat.reduceLeDiff, Nat.reduceBEq, reduceIte, reduceCtorEq, e0, e1, e2, show decide (a.1 ≠ b.1) = true by simpa using h1] | (with_reducible first | apply c1 | (first | apply c2 | apply c3) <;> (intro hc; simp only [hc]) | (first | apply c4 | apply c5) <;> (intro hc; rw [hc])))
    all_goals (simp [ahB, h1])
end Go.Proofs.YtddmnddocbmjnaaGreat.Dv
