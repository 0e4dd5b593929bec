/- Part 3 of the proof: CrowdWeeks: whatever plain data comes in, the call returns true and leaves its arguments as they were. No condition. -/
import Derived.Test.YtddmnddocbmjnaaGreatPb2
set_option linter.all false
set_option linter.unusedVariables false
set_option linter.unusedSectionVars false
set_option linter.unusedSimpArgs false
namespace Go.Proofs.YtddmnddocbmjnaaGreat.Dv
open Go.RowKit
theorem setAt_len {α : Type} (l : List α) (off : Nat) (xs : List α) (hl : off + xs.length ≤ l.length) : (setAt l off xs).length = l.length := by
  simp [setAt]; omega
theorem setAt_get {α : Type} (l : List α) (off : Nat) (xs : List α) (hl : off ≤ l.length) (j : Nat) : (setAt l off xs)[j]? = if j < off then l[j]? else if j < off + xs.length then xs[j - off]? else l[j]? := by
  unfold setAt
  have h1 : (l.take off).length = off := by simp; omega
  by_cases hj : j < off
  · rw [if_pos hj, List.append_assoc, List.getElem?_append_left (by omega), List.getElem?_take, if_pos hj]
  · rw [if_neg hj]
    by_cases hj2 : j < off + xs.length
    · rw [if_pos hj2, List.getElem?_append_left (by simp; omega), List.getElem?_append_right (by omega), h1]
    · rw [if_neg hj2, List.getElem?_append_right (by simp; omega)]
      simp only [List.length_append, h1, List.getElem?_drop]
      congr 1
      omega
theorem setAt_arr {arr : List Value} {vs : List Value} {st off : Nat} {xs : List Value} (ha : ∀ j v, vs[j]? = some v → arr[st + j]? = some v) (ho : off ≤ vs.length) (hl : st + off ≤ arr.length) : ∀ j v, (setAt vs off xs)[j]? = some v → (setAt arr (st + off) xs)[st + j]? = some v := by
  intro j v hj
  rw [setAt_get _ _ _ ho] at hj
  rw [setAt_get _ _ _ hl]
  by_cases h1 : j < off
  · rw [if_pos h1] at hj
    rw [if_pos (by omega)]
    exact ha j v hj
  · rw [if_neg h1] at hj
    rw [if_neg (by omega)]
    by_cases h2 : j < off + xs.length
    · rw [if_pos h2] at hj
      rw [if_pos (by omega), show st + j - (st + off) = j - off by omega]
      exact hj
    · rw [if_neg h2] at hj
      rw [if_neg (by omega)]
      exact ha j v hj
section
variable {F : Addr → Value → Prop} {ρ : Rho} {T : Nat → Nat → Prop}
theorem DRepL.setAt {cs : List DV} {vs : List Value} {xs : List DV} {ys : List Value} (hc : DRepL F ρ T cs vs) (hx : DRepL F ρ T xs ys) (off : Nat) : DRepL F ρ T (setAt cs off xs) (setAt vs off ys) := by
  unfold Dv.setAt
  rw [hx.len]
  exact ((hc.take off).append hx).append (hc.drop _)
theorem scal_of : ∀ {l : List DV} {xs : List Value}, DRepL F ρ T l xs → ∀ v ∈ xs, v.oneCell' = true
  | [], xs, h, v, hv => by simp only [DRepL] at h; subst h; cases hv
  | d :: ds, xs, h, v, hv => by
    simp only [DRepL] at h
    obtain ⟨y, ys, rfl, hs, _, h⟩ := h
    cases hv with
    | head => rw [scal_one]; exact hs
    | tail _ hv => exact scal_of h v hv
theorem PRepL.append : ∀ {l : List PDV} {xs : List Value} {m : List PDV} {ys : List Value}, PRepL F l xs → PRepL F m ys → PRepL F (l ++ m) (xs ++ ys)
  | [], xs, m, ys, h, k => by simp only [PRepL] at h; subst h; simpa using k
  | d :: ds, xs, m, ys, h, k => by
    simp only [PRepL] at h
    obtain ⟨y, zs, rfl, hs, h1, h⟩ := h
    simp only [List.cons_append, PRepL]
    exact ⟨y, zs ++ ys, rfl, hs, h1, PRepL.append h k⟩
theorem PRepE.flat {sz : Nat} {ad : Addr} : ∀ {o : Nat} {l : List PDV}, PRepE F sz (some ad) o l → ∃ vs, PRepL F (l.flatMap PDV.cells) vs ∧ vs.length = l.length * sz ∧ ∀ j v, vs[j]? = some v → F (ad.add (o + j)) v
  | o, [], _ => ⟨[], by simp [PRepL], by simp, fun j v hj => by simp at hj⟩
  | o, d :: ds, h => by
    simp only [PRepE] at h
    obtain ⟨⟨ad', y, e, hp, hn, hs, hf⟩, h2⟩ := h
    cases e
    obtain ⟨vs, h3, h4, h5⟩ := PRepE.flat h2
    have hl : y.cells.toList.length = sz := by simpa using hs
    refine ⟨y.cells.toList ++ vs, (prep_cells hp hn).append h3, by simp [hs, h4, Nat.succ_mul]; omega, fun j v hj => ?_⟩
    by_cases hjs : j < sz
    · rw [List.getElem?_append_left (by omega)] at hj
      exact hf j v (by simpa using hj)
    · rw [List.getElem?_append_right (by omega), hl] at hj
      have := h5 _ _ hj
      rwa [show o + sz + (j - sz) = o + j by omega] at this
theorem PRepE.append {sz : Nat} {a : Option Addr} : ∀ {o : Nat} {l m : List PDV}, PRepE F sz a o l → PRepE F sz a (o + l.length * sz) m → PRepE F sz a o (l ++ m)
  | o, [], m, _, h => by simpa using h
  | o, d :: ds, m, h, k => by
    simp only [List.cons_append, PRepE] at h ⊢
    refine ⟨h.1, PRepE.append h.2 ?_⟩
    rwa [show o + sz + ds.length * sz = o + (d :: ds).length * sz by simp [Nat.succ_mul]; omega]
theorem elems_ok {es : Option Nat} (hes : 0 < esK es) {ad : Addr} : ∀ (n : Nat) {ps : List PDV} {vs : List Value} {o : Nat}, PRepL F ps vs → ps.length = n * esK es → (∀ j v, vs[j]? = some v → F (ad.add (o + j)) v) → PRepE F (esK es) (some ad) o (elems es n ps) ∧ (elems es n ps).length = n
  | 0, ps, vs, o, hp, hl, hf => by
    have : ps = [] := List.eq_nil_of_length_eq_zero (by simpa using hl)
    subst this
    cases es <;> simp [elems, chunk, PRepE]
  | n + 1, ps, vs, o, hp, hl, hf => by
    cases es with
    | none =>
      simp only [esK, Option.getD_none, Nat.mul_one] at hl hes ⊢
      cases ps with
      | nil => simp at hl
      | cons d ds =>
        simp only [PRepL] at hp
        obtain ⟨y, ys, rfl, hs, hd, hp⟩ := hp
        have hc : y.cells = #[y] := by cases y <;> simp_all [Value.cells, scal]
        have ih := elems_ok (es := none) (by simp [esK]) (ad := ad) n (o := o + 1) hp (by simp [esK] at hl ⊢; omega) (fun j v hj => by have := hf (j + 1) v (by simpa using hj); rwa [show o + (j + 1) = o + 1 + j by omega] at this)
        simp only [elems, esK, Option.getD_none] at ih
        simp only [elems, PRepE, List.length_cons]
        refine ⟨⟨⟨ad, y, rfl, hd, by cases y <;> simp_all [notTup, scal], by simp [hc], fun j v hj => ?_⟩, ih.1⟩, by rw [ih.2]⟩
        rw [hc] at hj
        have : j = 0 := by
          by_cases h0 : j = 0
          · exact h0
          · rw [Array.getElem?_eq_none (by simp; omega)] at hj; cases hj
        subst this
        simp at hj
        subst hj
        exact hf 0 y rfl
    | some k =>
      simp only [esK, Option.getD_some] at hl hes ⊢
      have lv := hp.len
      have e : (n + 1) * k = n * k + k := Nat.succ_mul _ _
      have ih := elems_ok (es := some k) (by simpa [esK] using hes) (ad := ad) n (o := o + k) (hp.drop k) (by simp [esK]; omega) (fun j v hj => by have := hf (k + j) v (by simpa using hj); rwa [← Nat.add_assoc] at this)
      simp only [elems, esK, Option.getD_some] at ih
      simp only [elems, chunk, PRepE, List.length_cons]
      refine ⟨⟨⟨ad, .agg (vs.take k).toArray, rfl, ?_, rfl, by simp [Value.cells]; omega, fun j v hj => ?_⟩, ih.1⟩, by rw [ih.2]⟩
      · simp only [PRep]
        exact ⟨_, rfl, hp.take k⟩
      · simp only [Value.cells, List.getElem?_toArray, List.getElem?_take] at hj
        split at hj
        · exact hf j v hj
        · cases hj
end
section
variable {P : Program} {ρ : Rho} {w : World} {h : PT AObj}
theorem bnds_run {isS : Bool} {n cap l r : Nat} {lo hi : Option DV} {lv hv : Option Value} (hlo : bnd 0 lo = some l) (hhi : bnd n hi = some r) (h1 : l ≤ r) (h2 : r ≤ cap)
    (rl : ∀ d, lo = some d → ∃ v, lv = some v ∧ DR w h ρ d v) (rln : lo = none → lv = none) (rh : ∀ d, hi = some d → ∃ v, hv = some v ∧ DR w h ρ d v) (rhn : hi = none → hv = none) :
    (Instr.sliceBounds isS n cap lv hv none).run P w = .ok (l, r, cap) w := by
  have H : (∃ k, hv = some (.int k r)) ∨ (hv = none ∧ r = n) := by
    cases hi with
    | none => simp only [bnd] at hhi; cases hhi; exact .inr ⟨rhn rfl, rfl⟩
    | some d =>
      obtain ⟨v, rfl, hr⟩ := rh d rfl
      simp only [bnd] at hhi
      split at hhi
      · rename_i k m hm
        have := asI_ok hm hr
        split at hhi
        · cases hhi
          exact .inl ⟨k, by rw [this]; congr 2; omega⟩
        · cases hhi
      · cases hhi
  have L : (∃ k, lv = some (.int k l)) ∨ (lv = none ∧ l = 0) := by
    cases lo with
    | none => simp only [bnd] at hlo; cases hlo; exact .inr ⟨rln rfl, rfl⟩
    | some d =>
      obtain ⟨v, rfl, hr⟩ := rl d rfl
      simp only [bnd] at hlo
      split at hlo
      · rename_i k m hm
        have := asI_ok hm hr
        split at hlo
        · cases hlo
          exact .inl ⟨k, by rw [this]; congr 2; omega⟩
        · cases hlo
      · cases hlo
  have i1 : (0 : Int) ≤ r ∧ (r : Int) ≤ (cap : Int) := by omega
  have i2 : (0 : Int) ≤ l ∧ (l : Int) ≤ (r : Int) := by omega
  rcases H with ⟨k, rfl⟩ | ⟨rfl, rfl⟩ <;> rcases L with ⟨k', rfl⟩ | ⟨rfl, rfl⟩ <;> simp [Instr.sliceBounds, Instr.sliceBound, asIntOf, h1, h2]
theorem lenAv_ok {x : DV} {n av : Nat} (hn : lenAv x = some (n, av)) {v : Value} (hx : DR w h ρ x v) : ∃ ad c, v = .slice ad n c ∧ av ≤ c ∧ (ad = none → c = 0) := by
  unfold lenAv at hn
  split at hn <;> first
    | (cases hn
       simp only [DRep, PRep] at hx
       first
         | (subst hx; exact ⟨_, _, rfl, by omega, fun _ => rfl⟩)
         | (obtain ⟨a, rfl⟩ := hx; exact ⟨_, _, rfl, by omega, fun _ => rfl⟩)
         | (obtain ⟨a, c, sz, rfl, h1, h2, _⟩ := hx; exact ⟨_, _, rfl, h1, h2⟩)
         | (obtain ⟨_, ⟨a, c, sz, rfl, h1, h2, _⟩, _⟩ := hx; exact ⟨_, _, rfl, h1, h2⟩)
         | (obtain ⟨_, c, rfl, h1, h2, h3⟩ := hx; exact ⟨_, _, rfl, h2, fun e => by cases e⟩))
    | (cases hn; done)
theorem lst_cut {k l r : Nat} {xs : List PDV} {ad : Option Addr} {c : Nat} (hk : l = 0 ∨ szOk k xs = true) (hlr : l ≤ r) (hr : r ≤ xs.length) {F : Addr → Value → Prop} (hx : PRep F (.lst xs) (.slice ad xs.length c)) :
    PRep F (.lst ((xs.drop l).take (r - l))) (.slice (if c = l then ad else ad.map (·.add (l * k))) (r - l) (c - l)) := by
  simp only [PRep] at hx ⊢
  obtain ⟨a, c', sz, e, h1, h2, h3⟩ := hx
  injection e with e1 _ e2
  subst e1; subst e2
  have hlen : ((xs.drop l).take (r - l)).length = r - l := by simp; omega
  by_cases hz : r - l = 0
  · have : (xs.drop l).take (r - l) = [] := List.eq_nil_of_length_eq_zero (by rw [hlen, hz])
    refine ⟨if c = l then ad else ad.map (·.add (l * k)), c - l, sz, by rw [hlen], by rw [hlen]; omega, fun hn => ?_, by rw [this]; simp [PRepE]⟩
    split at hn
    · have := h2 hn; omega
    · have := h2 (by cases ad <;> simp_all); omega
  · have hcl : c ≠ l := by omega
    rw [if_neg hcl]
    refine ⟨ad.map (·.add (l * k)), c - l, sz, by rw [hlen], by rw [hlen]; omega, fun hn => ?_, ?_⟩
    · have := h2 (by cases ad <;> simp_all); omega
    · refine PRepE.take _ ?_
      have h4 := PRepE.drop l h3
      rw [Nat.zero_add] at h4
      rcases hk with rfl | hk
      · cases ad with
        | none => simpa using h4
        | some b => simpa [add_zero] using h4
      · have hs : sz = k := elem_size h3 hk (by rintro rfl; simp at hr; omega)
        subst hs
        cases ad with
        | none => 
          have := h2 rfl; omega
        | some b => exact PRepE.shift (by simpa using h4)
theorem cut_ok {k l r : Nat} {x d : DV} {n av : Nat} (hd : cut k l r x = some d) (hn : lenAv x = some (n, av)) {v : Value} (hx : DR w h ρ x v) {ad : Option Addr} {c : Nat} (hv : v = .slice ad n c) (hlr : l ≤ r) (hr : r ≤ av) :
    DR w h ρ d (.slice (if c = l then ad else ad.map (·.add (l * k))) (r - l) (c - l)) := by
  subst hv
  have same : l = 0 → (if c = l then ad else ad.map (·.add (l * k))) = ad := by
    rintro rfl
    split
    · rfl
    · cases ad <;> simp [add_zero]
  unfold cut at hd
  split at hd
  · simp only [lenAv] at hn
    cases hn; cases hd
    simp only [DRep] at hx ⊢
    have : l = 0 ∧ r = 0 := by omega
    obtain ⟨rfl, rfl⟩ := this
    injection hx with h1 _ h2
    rw [same rfl, h1, h2]
  · simp only [lenAv] at hn
    cases hn; cases hd
    simp only [DRep] at hx ⊢
    have : l = 0 ∧ r = 0 := by omega
    obtain ⟨rfl, rfl⟩ := this
    obtain ⟨a, hx⟩ := hx
    injection hx with h1 _ h2
    rw [same rfl, h1, h2]
    exact ⟨a, rfl⟩
  · rename_i xs
    simp only [lenAv] at hn
    cases hn
    simp only [DRep] at hx
    split at hd
    · rename_i hk
      cases hd
      simp only [DRep]
      exact lst_cut hk hlr hr hx
    · cases hd
  · rename_i i xs
    simp only [lenAv] at hn
    cases hn
    split at hd
    · rename_i hc
      obtain ⟨rfl, rfl⟩ := hc
      cases hd
      rw [same rfl]
      exact hx
    · split at hd
      · rename_i hk
        cases hd
        simp only [DRep] at hx ⊢
        exact lst_cut hk hlr hr hx.2.1
      · cases hd
  · rename_i i off n' av' es
    simp only [lenAv] at hn
    cases hn
    simp only [DRep] at hx
    obtain ⟨hal, c', e, h1, h2, h3⟩ := hx
    injection e with e1 _ e2
    subst e1; subst e2
    split at hd
    · rename_i h0
      subst h0
      cases hd
      rw [same rfl]
      simp only [DRep]
      exact ⟨hal, c, by simp, hr, h2, h3⟩
    · split at hd
      · rename_i hlt
        split at hd
        · rename_i hk
          subst hk
          cases hd
          simp only [DRep]
          rw [if_neg (by omega)]
          refine ⟨hal, c - l, by simp [add_lit0, Nat.add_assoc], by omega, by omega, ?_⟩
          simp only [esK] at *
          have : c * es.getD 1 = l * es.getD 1 + (c - l) * es.getD 1 := by rw [← Nat.add_mul]; congr 1; omega
          omega
        · cases hd
      · rename_i h0 hc
        cases hd
        have hrl : r - l = 0 := by omega
        rw [hrl]
        simp only [DRep, PRep]
        by_cases hcl : c = l
        · rw [if_pos hcl]
          exact ⟨_, c - l, 0, rfl, by simp, fun hn => by simp at hn, by simp [PRepE]⟩
        · rw [if_neg hcl]
          exact ⟨_, c - l, 0, rfl, by simp, fun hn => by simp at hn, by simp [PRepE]⟩
  · cases hd
theorem slc_ok {t : TypeId} {a d : DV} {lo hi mx : Option DV} (hd : slc P t a lo hi mx = some d) {x : Value} {lv hv mv : Option Value} (hx : DR w h ρ a x)
    (rl : ∀ d, lo = some d → ∃ v, lv = some v ∧ DR w h ρ d v) (rln : lo = none → lv = none) (rh : ∀ d, hi = some d → ∃ v, hv = some v ∧ DR w h ρ d v) (rhn : hi = none → hv = none)
    (rm : ∀ d, mx = some d → ∃ v, mv = some v ∧ DR w h ρ d v) (rmn : mx = none → mv = none) : ∃ v, (Instr.sliceAt t x lv hv mv).run P w = .ok v w ∧ DR w h ρ d v := by
  unfold slc at hd
  split at hd
  · rename_i s hu
    simp only [DRep, PRep] at hx
    obtain ⟨rfl, _⟩ := hx
    split at hd
    · cases hd
    · rename_i hm
      have hm : mx = none := by simpa using hm
      have hmv := rmn hm
      subst hmv
      split at hd
      · rename_i l r h1 h2
        split at hd
        · rename_i hc
          cases hd
          refine ⟨_, ?_, s_rep rfl⟩
          have := bnds_run (P := P) (isS := false) (cap := s.size) h1 h2 hc.1 hc.2 rl rln rh rhn
          simp [Instr.sliceAt, Instr.slice, run_underlying hu, this]
        · cases hd
      · cases hd
  · rename_i e hu
    split at hd
    · cases hd
    · rename_i k hk
      split at hd
      · cases hd
      · rename_i n av hn
        obtain ⟨ad, c, hxs, hav, hnone⟩ := lenAv_ok hn hx
        split at hd
        · rename_i l r h1 h2
          have hmv := rmn rfl
          subst hmv
          split at hd
          · rename_i hc
            obtain ⟨hlr, hra⟩ := hc
            refine ⟨.slice (if c = l then ad else ad.map (·.add (l * k))) (r - l) (c - l), ?_, cut_ok hd hn hx hxs hlr hra⟩
            subst hxs
            have := bnds_run (P := P) (isS := true) (cap := c) h1 h2 hlr (by omega) rl rln rh rhn
            simp [Instr.sliceAt, Instr.slice, run_underlying hu, this, szT_run hk]
          · cases hd
        · rename_i l r m h1 h2
          split at hd
          · rename_i hc
            obtain ⟨his, rfl, rfl, hm⟩ := hc
            obtain ⟨mv', rfl, hmr⟩ := rm m rfl
            have hmi : ∃ kk, mv' = .int kk 0 := by
              cases hai : asI m with
              | none => rw [hai] at hm; cases hm
              | some q =>
                rw [hai] at hm
                obtain ⟨q1, q2⟩ := q
                simp at hm
                subst hm
                exact ⟨q1, asI_ok hai hmr⟩
            obtain ⟨kk, rfl⟩ := hmi
            subst hxs
            have H : ∃ k, hv = some (.int k 0) := by
              cases hi with
              | none => cases his
              | some d =>
                obtain ⟨v, rfl, hr⟩ := rh d rfl
                simp only [bnd] at h2
                split at h2
                · rename_i k m hm
                  have := asI_ok hm hr
                  split at h2
                  · have h2' := Option.some.inj h2
                    exact ⟨k, by rw [this]; congr 2; omega⟩
                  · cases h2
                · cases h2
            have L : (∃ k, lv = some (.int k 0)) ∨ lv = none := by
              cases lo with
              | none => exact .inr (rln rfl)
              | some d =>
                obtain ⟨v, rfl, hr⟩ := rl d rfl
                simp only [bnd] at h1
                split at h1
                · rename_i k m hm
                  have := asI_ok hm hr
                  split at h1
                  · have h1' := Option.some.inj h1
                    exact .inl ⟨k, by rw [this]; congr 2; omega⟩
                  · cases h1
                · cases h1
            obtain ⟨k1, rfl⟩ := H
            have run : (Instr.sliceAt t (.slice ad n c) lv (some (.int k1 0)) (some (.int kk 0))).run P w = .ok (.slice ad 0 0) w := by
              rcases L with ⟨k2, rfl⟩ | rfl <;> simp [Instr.sliceAt, Instr.slice, run_underlying hu, Instr.sliceBounds, Instr.sliceBound, asIntOf, szT_run hk]
            refine ⟨_, run, ?_⟩
            split at hd
            · cases hd
              simp only [DRep] at hx ⊢
              injection hx with e1 _ _
              rw [e1]
            · cases hd
              simp only [DRep]
              exact ⟨_, rfl⟩
          · cases hd
        · cases hd
  · cases hd
end
end Go.Proofs.YtddmnddocbmjnaaGreat.Dv
namespace Go.Proofs.YtddmnddocbmjnaaGreat.Dv
open Go.RowKit
section
variable {P : Program} {ρ : Rho} {w : World} {h : PT AObj}
def VOK (P : Program) (s : Sem Value) (ρ : Rho) (w : World) (h : PT AObj) (id : Nat) (e : Eff) : Prop :=
  ∃ v w' ρ', s.run P w = .ok v w' ∧ Stp ρ w h ρ' w' (applyUp h e.up) ∧ Inv ρ' w' (applyUp h e.up) ∧ DR w' (applyUp h e.up) ρ' e.dv v ∧ ∀ i, ρ'.al i → ρ.al i ∨ i = id
theorem VOK.pure {s : Sem Value} {id : Nat} {e : Eff} (inv : Inv ρ w h) {v : Value} (hr : s.run P w = .ok v w) (hd : DR w h ρ e.dv v) (hu : e.up = []) : VOK P s ρ w h id e := by
  obtain ⟨dv, rd, up⟩ := e
  subst hu
  exact ⟨v, w, ρ, hr, Stp.refl _ _ _, inv, hd, fun i hi => .inl hi⟩
theorem setRow_shape (arr : Array Value) (o : Nat) (vs : List Value) : (arr.toList.take (o + 0) ++ vs ++ arr.toList.drop (o + 0 + vs.length)).toArray = (setAt arr.toList o vs).toArray := by simp [setAt]
theorem sto_ok (inv : Inv ρ w h) {t : TypeId} {a x : DV} {e : Eff} (hd : sto P t a x h = some e) {va vx : Value} (ha : DR w h ρ a va) (hx : DR w h ρ x vx) :
    ∃ w', (Instr.storeAt t va vx).run P w = .ok () w' ∧ Stp ρ w h ρ w' (applyUp h e.up) ∧ Inv ρ w' (applyUp h e.up) ∧ e.dv = udf := by
  unfold sto at hd
  split at hd
  · rename_i k i off hk
    split at hd
    · rename_i cs ho
      split at hd
      · rename_i hc
        obtain ⟨hnt, hlen, hle⟩ := hc
        cases hd
        simp only [DRep] at ha
        obtain ⟨hal, rfl⟩ := ha
        obtain ⟨_, arr, T, vs, h1, h2, h3, h4, _⟩ := obj_cells inv ho
        have hxc := DRep.cells hx (nt_of hx hnt)
        have hxl : vx.cells.toList.length = k := by rw [hxc.len, hlen]
        have hvl : vs.length = cs.length := h3.len
        have hcap : vs.length ≤ ρ.cap i := by
          by_cases hz : vs.length = 0
          · omega
          · have := h4 (vs.length - 1) (vs[vs.length - 1]'(by omega)) (List.getElem?_eq_getElem (by omega))
            have := (Array.getElem?_eq_some_iff.1 this).1
            omega
        have hfit : ρ.st i + off + 0 + vx.cells.toList.length ≤ arr.size := by rw [hxl]; omega
        have hst := run_storeCells_at P (ρ.blk i) (ρ.st i + off) T vx.cells.toList 0 arr w h1 hfit (scal_of hxc)
        rw [setRow_shape] at hst
        have hsz : ((setAt arr.toList (ρ.st i + off) vx.cells.toList).toArray).size = arr.size := by
          simp only [List.size_toArray]
          rw [setAt_len _ _ _ (by simpa using hfit)]
          simp
        obtain ⟨s, i2⟩ := write_cells inv ho h1 hsz (fun o hlt => by
            simp only [List.getElem?_toArray]
            rw [setAt_get _ _ _ (by simp; omega), if_pos (by omega)]
            simp) (DRepL.setAt h3 hxc off) (fun j v hj => by
            have := setAt_arr (arr := arr.toList) (st := ρ.st i) (xs := vx.cells.toList) (fun j v hj => by simpa using h4 j v hj) (by omega) (by simp; omega) j v hj
            simpa using this)
        refine ⟨_, ?_, s, i2, rfl⟩
        simp only [Instr.storeAt, Instr.sureAddr, Sem.run_bind, Sem.run_pure, Result.andThen_ok, storeVar, szT_run hk]
        have hne : ¬ vx.cells.size ≠ k := by simp at hxl; simpa using hxl
        rw [if_neg hne]
        simpa using hst
      · cases hd
    · cases hd
  · cases hd
theorem zeroT_ok {t : TypeId} {z : List DV} (hz : zeroT P t = some z) : ∃ i v, P.info? t = some i ∧ i.zero = some v ∧ notTup v = true ∧ ∀ {F : Addr → Value → Prop} {ρ : Rho} {T : Nat → Nat → Prop}, DRepL F ρ T z v.cells.toList := by
  unfold zeroT at hz
  split at hz
  · rename_i i hi
    split at hz
    · rename_i v hv
      cases hc : ofConst v with
      | none => rw [hc] at hz; cases hz
      | some d =>
        rw [hc] at hz
        simp only [Option.bind_some] at hz
        split at hz
        · cases hz
        · rename_i hn
          cases hz
          have hn : d.tupB = false := by simpa using hn
          exact ⟨i, v, hi, hv, ofConst_nt hc hn, fun {F ρ T} => DRep.cells (ofConst_ok hc) (ofConst_nt hc hn)⟩
    · cases hz
  · cases hz
theorem zeroT_run {t : TypeId} {i : TypeInfo} {v : Value} (hi : P.info? t = some i) (hz : i.zero = some v) (w : World) : (zeroValue t).run P w = .ok v w := by
  simp [zeroValue, typeInfo, hi, hz]
theorem mp_rep (ρ : Rho) (id b s c e : Nat) {F : Addr → Value → Prop} {T : Nat → Nat → Prop} : DRep F (ρ.add id b s c e) T (.mp id 0) (.pointer (some ⟨b, s, none⟩)) := by
  simp only [DRep, Rho.add_blk, Rho.add_st, Nat.add_zero, and_true]
  exact Rho.add_al ..
theorem al_add (ρ : Rho) (id b s c e : Nat) : ∀ i, (ρ.add id b s c e).al i → ρ.al i ∨ i = id := fun _ hi => hi
theorem alloc_ok (inv : Inv ρ w h) {id : Nat} (hid : ¬ ρ.al id) {t : TypeId} {z : List DV} (hz : zeroT P t = some z) : VOK P (Instr.alloc t true (.tuple #[])) ρ w h id { dv := .mp id 0, up := [(id, some (.cells z false))] } := by
  obtain ⟨i, v, hi, hv, _, hr⟩ := zeroT_ok hz
  obtain ⟨s, i2⟩ := new_cells inv hid hr t v.cells (fun j v hj => by simpa using hj)
  refine ⟨_, _, _, ?_, s, i2, mp_rep .., al_add _ _ _ _ _ _⟩
  simp [Instr.alloc, zeroT_run hi hv, newVar, newRow]
theorem box_ok (inv : Inv ρ w h) {id : Nat} (hid : ¬ ρ.al id) (t : TypeId) {d : DV} (hn : d.tupB = false) {v : Value} (hd : DR w h ρ d v) : VOK P (Instr.box t v) ρ w h id { dv := .mp id 0, up := [(id, some (.cells d.cells false))] } := by
  obtain ⟨s, i2⟩ := new_cells inv hid (DRep.cells hd (nt_of hd hn)) t v.cells (fun j v hj => by simpa using hj)
  refine ⟨_, _, _, ?_, s, i2, mp_rep .., al_add _ _ _ _ _ _⟩
  simp [Instr.box, newVar, newRow]
theorem foldl_set (off : Nat) : ∀ (vs : List Value) (k : Nat) (cells : Array Value), off + k + vs.length ≤ cells.size →
    ((vs.zipIdx k).foldl (fun cs (c, j) => cs.setIfInBounds (off + j) c) cells).toList = setAt cells.toList (off + k) vs
  | [], k, cells, hl => by simp [setAt]
  | v :: vs, k, cells, hl => by
    simp only [List.length_cons] at hl
    simp only [List.zipIdx_cons, List.foldl_cons]
    rw [foldl_set off vs (k + 1) _ (by simp; omega)]
    apply List.ext_getElem?
    intro j
    rw [setAt_get _ _ _ (by simp; omega), setAt_get _ _ _ (by simp; omega)]
    simp only [Array.toList_setIfInBounds, List.getElem?_set, List.length_cons]
    by_cases h1 : j < off + k
    · rw [if_pos (by omega), if_pos h1, if_neg (by omega)]
    · by_cases h2 : j = off + k
      · subst h2
        have hsz : off + k < cells.size := by omega
        simp [hsz]
      · rw [if_neg (by omega), if_neg h1]
        by_cases h3 : j < off + k + (vs.length + 1)
        · rw [if_pos (by omega), if_pos h3, show j - (off + k) = (j - (off + (k + 1))) + 1 by omega]
          simp
        · rw [if_neg (by omega), if_neg h3, if_neg (by omega)]
theorem lay_ok {place : Nat → Option (Nat × Nat)} : ∀ {ps : List (Nat × DV)} {cs r : List DV}, lay place cs ps = some r → ∀ {arr : Array Value} {qs : List (Nat × Value)}, DRL w h ρ cs arr.toList → ps.length = qs.length → (∀ (j : Nat) (p : Nat × DV) (q : Nat × Value), ps[j]? = some p → qs[j]? = some q → p.1 = q.1 ∧ DR w h ρ p.2 q.2) →
    ∃ out, Instr.fill place arr qs = some out ∧ DRL w h ρ r out.toList
  | [], cs, r, hl, arr, qs, hc, hq, _ => by
    have : qs = [] := List.eq_nil_of_length_eq_zero (by simpa using hq.symm)
    subst this
    simp only [lay] at hl
    cases hl
    exact ⟨arr, rfl, hc⟩
  | (i, d) :: ps, cs, r, hl, arr, [], hc, hq, _ => by simp at hq
  | (i, d) :: ps, cs, r, hl, arr, (i', v) :: qs, hc, hq, hr => by
    obtain ⟨e, hdv⟩ := hr 0 (i, d) (i', v) rfl rfl
    simp only at e hdv
    subst e
    simp only [lay] at hl
    split at hl
    · rename_i off k hp
      split at hl
      · rename_i hcc
        obtain ⟨hn, hlen, hle⟩ := hcc
        have hdc := DRep.cells hdv (nt_of hdv hn)
        have hvl : v.cells.toList.length = k := by rw [hdc.len, hlen]
        have hal : arr.toList.length = cs.length := hc.len
        have hvs : v.cells.size = k := by simpa using hvl
        have has : arr.size = cs.length := by simpa using hal
        have hf := foldl_set off v.cells.toList 0 arr (by rw [hvl]; omega)
        have hzip : (v.cells.zipIdx.foldl (fun cs (c, j) => cs.setIfInBounds (off + j) c) arr).toList = setAt arr.toList off v.cells.toList := by
          rw [← Array.foldl_toList, Array.toList_zipIdx]
          simpa using hf
        have hset : DRL w h ρ (setAt cs off d.cells) (setAt arr.toList off v.cells.toList) := DRepL.setAt hc hdc off
        obtain ⟨out, ho, hor⟩ := lay_ok hl (arr := v.cells.zipIdx.foldl (fun cs (c, j) => cs.setIfInBounds (off + j) c) arr) (qs := qs) (by rw [hzip]; exact hset) (by simpa using hq) (fun j p q hp hq => hr (j + 1) p q (by simpa using hp) (by simpa using hq))
        refine ⟨out, ?_, hor⟩
        simp only [Instr.fill, hp]
        rw [if_neg (by simp [hvs]; omega)]
        exact ho
      · cases hl
    · cases hl
end
end Go.Proofs.YtddmnddocbmjnaaGreat.Dv
namespace Go.Proofs.YtddmnddocbmjnaaGreat.Dv
open Go.RowKit
theorem setAt_setAt {α : Type} (l : List α) (o : Nat) (a b : List α) (hl : o + a.length + b.length ≤ l.length) : setAt (setAt l o a) (o + a.length) b = setAt l o (a ++ b) := by
  apply List.ext_getElem?
  intro j
  rw [setAt_get _ _ _ (by rw [setAt_len _ _ _ (by omega)]; omega), setAt_get _ _ _ (by omega), setAt_get _ _ _ (by omega)]
  simp only [List.length_append]
  by_cases h1 : j < o
  · rw [if_pos (by omega), if_pos h1, if_pos h1]
  · rw [if_neg h1, if_neg h1]
    by_cases h2 : j < o + a.length
    · rw [if_pos h2, if_pos h2, if_pos (by omega), List.getElem?_append_left (by omega)]
    · rw [if_neg h2, if_neg h2]
      by_cases h3 : j < o + a.length + b.length
      · rw [if_pos h3, if_pos (by omega), List.getElem?_append_right (by omega)]
        congr 1
        omega
      · rw [if_neg h3, if_neg (by omega)]
theorem setAt_all {α : Type} (l : List α) (a : List α) (hl : l.length = a.length) : setAt l 0 a = a := by
  simp [setAt, hl]
section
variable {P : Program} {ρ : Rho} {w : World} {h : PT AObj}
theorem fill_all {sz : Nat} : ∀ (qs : List (Nat × Value)) (k : Nat) (arr : Array Value), (∀ (j : Nat) (q : Nat × Value), qs[j]? = some q → q.1 = k + j ∧ q.2.cells.size = sz) → (k + qs.length) * sz ≤ arr.size →
    ∃ out, Instr.fill (fun i => some (i * sz, sz)) arr qs = some out ∧ out.toList = setAt arr.toList (k * sz) (qs.flatMap fun q => q.2.cells.toList)
  | [], k, arr, _, hl => ⟨arr, rfl, by simp [setAt]⟩
  | (i, v) :: qs, k, arr, hq, hl => by
    obtain ⟨e, hv⟩ := hq 0 (i, v) rfl
    simp only [Nat.add_zero] at e hv
    subst e
    simp only [List.length_cons] at hl
    have e1 : (i + (qs.length + 1)) * sz = i * sz + sz + qs.length * sz := by rw [Nat.add_mul, Nat.succ_mul]; omega
    have hvl : v.cells.toList.length = sz := by simpa using hv
    have hf := foldl_set (i * sz) v.cells.toList 0 arr (by rw [hvl]; omega)
    have hzip : (v.cells.zipIdx.foldl (fun cs (c, j) => cs.setIfInBounds (i * sz + j) c) arr).toList = setAt arr.toList (i * sz) v.cells.toList := by
      rw [← Array.foldl_toList, Array.toList_zipIdx]
      simpa using hf
    have hsz : (v.cells.zipIdx.foldl (fun cs (c, j) => cs.setIfInBounds (i * sz + j) c) arr).size = arr.size := by
      rw [← Array.length_toList, hzip, setAt_len _ _ _ (by rw [hvl]; simp; omega)]; simp
    obtain ⟨out, ho, hor⟩ := fill_all qs (i + 1) (v.cells.zipIdx.foldl (fun cs (c, j) => cs.setIfInBounds (i * sz + j) c) arr) (fun j q hj => by
      obtain ⟨a, b⟩ := hq (j + 1) q (by simpa using hj)
      exact ⟨by omega, b⟩) (by rw [hsz]; have : (i + 1 + qs.length) * sz = i * sz + sz + qs.length * sz := by rw [Nat.add_mul, Nat.succ_mul]
                               omega)
    have hfl : (qs.flatMap fun q => q.2.cells.toList).length = qs.length * sz := by
      have : ∀ (l : List (Nat × Value)), (∀ q ∈ l, q.2.cells.size = sz) → (l.flatMap fun q => q.2.cells.toList).length = l.length * sz := by
        intro l
        induction l with
        | nil => intro _; simp
        | cons q l ih =>
          intro hql
          simp only [List.flatMap_cons, List.length_append, List.length_cons, Nat.succ_mul]
          rw [ih (fun q hq => hql q (by simp [hq])), Array.length_toList, hql q (by simp)]
          omega
      refine this qs (fun q hqm => ?_)
      obtain ⟨j, hj, e⟩ := List.getElem_of_mem hqm
      exact (hq (j + 1) q (by simp [List.getElem?_eq_getElem hj, e])).2
    refine ⟨out, ?_, ?_⟩
    · simp only [Instr.fill]
      rw [if_neg (by simp [hv]; omega)]
      exact ho
    · rw [hor, hzip, List.flatMap_cons, ← setAt_setAt _ _ _ _ (by rw [hvl, hfl]; simp; omega), hvl, Nat.succ_mul]
theorem bld_ok {t : TypeId} {ps : List (Nat × DV)} {d : DV} (hd : bld P t ps = some d) {qs : List (Nat × Value)} (hq : ps.length = qs.length) (hr : ∀ (j : Nat) (p : Nat × DV) (q : Nat × Value), ps[j]? = some p → qs[j]? = some q → p.1 = q.1 ∧ DR w h ρ p.2 q.2) :
    ∃ v, (Instr.build t qs.toArray).run P w = .ok v w ∧ DR w h ρ d v := by
  unfold bld at hd
  split at hd
  · rename_i z fs hz hu
    obtain ⟨i, v, hi, hv, _, hzr⟩ := zeroT_ok hz
    cases hp : plT P t with
    | none => rw [hp] at hd; cases hd
    | some pl =>
      rw [hp] at hd
      simp only at hd
      cases hl : lay (fun i => pl[i]?) z ps with
      | none => rw [hl] at hd; cases hd
      | some r =>
        rw [hl] at hd
        cases hd
        obtain ⟨out, ho, hor⟩ := lay_ok hl (ρ := ρ) (w := w) (h := h) (arr := v.cells) (qs := qs) hzr hq hr
        have hpl : fs.toList.mapM (fun f => (P.info? f.type).map fun i => (f.offset, i.size)) = some pl := by
          unfold plT at hp
          rw [hu] at hp
          exact hp
        refine ⟨.agg out, run_build w t qs.toArray out ?_, by simpa using DRep.mkAgg hor⟩
        simp only [Program.built, hi, hu, hv, hpl]
        simpa using ho
  · rename_i z n e hz hu
    obtain ⟨i, v, hi, hv, _, hzr⟩ := zeroT_ok hz
    cases hk : szT P e with
    | none => rw [hk] at hd; cases hd
    | some k =>
      rw [hk] at hd
      simp only at hd
      cases hl : lay (fun i => some (i * k, k)) z ps with
      | none => rw [hl] at hd; cases hd
      | some r =>
        rw [hl] at hd
        cases hd
        obtain ⟨out, ho, hor⟩ := lay_ok hl (ρ := ρ) (w := w) (h := h) (arr := v.cells) (qs := qs) hzr hq hr
        have hie : ∃ ie, P.info? e = some ie ∧ ie.size = k := by
          unfold szT at hk
          cases he : P.info? e with
          | none => rw [he] at hk; cases hk
          | some ie => rw [he] at hk; cases hk; exact ⟨ie, rfl, rfl⟩
        obtain ⟨ie, hie, rfl⟩ := hie
        refine ⟨.agg out, run_build w t qs.toArray out ?_, by simpa using DRep.mkAgg hor⟩
        simp only [Program.built, hi, hu, hv, hie]
        simpa using ho
  · cases hd
theorem fresh_ok (inv : Inv ρ w h) {id : Nat} (hid : ¬ ρ.al id) (ar : Bool) {es : Option Nat} (hes : 0 < esK es) {n : Nat} {cs : List DV} {vs : List Value} (hc : DRL w h ρ cs vs) (hl : cs.length = n * esK es) (rd : List Nat) (T : TypeId) (arr : Array Value) (ha : ∀ (j : Nat) (v : Value), vs[j]? = some v → arr[j]? = some v) {c : Nat} (hn : n ≤ c) (hca : c * esK es ≤ arr.size) :
    ∃ ρ', Stp ρ w h ρ' (w.alloc (.cells arr T)) (applyUp h (fresh ar es n cs id rd).up) ∧ Inv ρ' (w.alloc (.cells arr T)) (applyUp h (fresh ar es n cs id rd).up) ∧
      DR (w.alloc (.cells arr T)) (applyUp h (fresh ar es n cs id rd).up) ρ' (fresh ar es n cs id rd).dv (.slice (some ⟨w.heap.size, 0, none⟩) n c) ∧ ∀ i, ρ'.al i → ρ.al i ∨ i = id := by
  have ms : ∃ ρ', Stp ρ w h ρ' (w.alloc (.cells arr T)) (applyUp h [(id, some (.cells cs false))]) ∧ Inv ρ' (w.alloc (.cells arr T)) (applyUp h [(id, some (.cells cs false))]) ∧
      DR (w.alloc (.cells arr T)) (applyUp h [(id, some (.cells cs false))]) ρ' (.ms id 0 n n es) (.slice (some ⟨w.heap.size, 0, none⟩) n c) ∧ ∀ i, ρ'.al i → ρ.al i ∨ i = id := by
    obtain ⟨s, i2⟩ := new_cells inv hid hc T arr ha
    refine ⟨_, s, i2, ?_, al_add _ _ _ _ _ _⟩
    simp only [DRep, Rho.add_blk, Rho.add_st, Rho.add_cap]
    exact ⟨Rho.add_al .., c, by simp, Nat.le_refl _, hn, by simpa [esK] using hca⟩
  unfold fresh
  split
  · rename_i ps hp
    have := plainL_some hp
    subst this
    have hpr := PRepL.of_p hc
    obtain ⟨s, i2⟩ := new_tip inv hid T arr (n * esK es) (esK es)
    have hvl : vs.length = n * esK es := by rw [hpr.len]; simpa using hl
    have hF : ∀ (j : Nat) (v : Value), vs[j]? = some v → Fx (w.alloc (.cells arr T)) (Wf (h.set id (some (.tip (esK es)))) (ρ.add id w.heap.size 0 arr.size (n * esK es))) ((⟨w.heap.size, 0, none⟩ : Addr).add (0 + j)) v := by
      intro j v hj
      rw [add_lit0]
      refine ⟨by simp, ?_, ?_⟩
      · have := heap_new w (.cells arr T)
        simp only [World.cell?, this]
        simpa using ha j v hj
      · rintro (hfr | ⟨i, ob, hi, hb, hw⟩)
        · exact absurd (inv.fb _ _ hfr) (Nat.lt_irrefl _)
        by_cases e : id = i
        · subst e
          rw [PT.get_set_same] at hi
          injection hi with hi
          subst hi
          simp only [Rho.add_st, Rho.add_ext] at hw
          have := (List.getElem?_eq_some_iff.1 hj).1
          omega
        · rw [PT.get_set_ne _ _ e] at hi
          obtain ⟨e1, _⟩ := Rho.add_old (ρ := ρ) w.heap.size 0 arr.size (n * esK es) (Ne.symm e)
          rw [e1] at hb
          have := (inv.obj i ob hi).2.1
          simp at hb
          omega
    have hel := elems_ok hes n (o := 0) (ad := ⟨w.heap.size, 0, none⟩) (PRepL.mono s.fx _ _ hpr) (by simpa using hl) hF
    refine ⟨_, s, i2, ?_, al_add _ _ _ _ _ _⟩
    simp only [applyUp, DRep, Rho.add_blk, Rho.add_st, Rho.add_cap, Rho.add_ext]
    refine ⟨Rho.add_al .., ?_, fun k hk => ?_⟩
    · simp only [PRep]
      exact ⟨some ⟨w.heap.size, 0, none⟩, c, esK es, by rw [hel.2], by rw [hel.2]; exact hn, (fun e => by cases e), hel.1⟩
    · unfold Tp at hk
      rw [PT.get_set_same] at hk
      injection hk with hk
      injection hk with hk
      subst hk
      exact ⟨c, by rw [hel.2], by rw [hel.2]; exact hn, hel.1, by rw [hel.2], hca⟩
  · exact ms
theorem esT_run {e : TypeId} {es : Option Nat} (h : esT P e = some es) : szT P e = some (esK es) ∧ 0 < esK es := by
  unfold esT at h
  split at h
  · rename_i k h1 h2
    split at h
    · cases h
    · rename_i h0
      cases h
      exact ⟨h2, by simp [esK]; omega⟩
  · rename_i h1 h2
    cases h
    exact ⟨h2, by simp [esK]⟩
  · cases h
theorem elT_run {t e : TypeId} (h : elT P t = some e) : P.underlying t = some (.slice e) := by
  unfold elT at h
  split at h
  · rename_i hu; cases h; exact hu
  · cases h
theorem flat_dr : ∀ {ps : List (Nat × DV)} {qs : List (Nat × Value)}, ps.length = qs.length → (∀ (j : Nat) (p : Nat × DV) (q : Nat × Value), ps[j]? = some p → qs[j]? = some q → p.1 = q.1 ∧ DR w h ρ p.2 q.2) → (∀ p ∈ ps, p.2.tupB = false) → DRL w h ρ (ps.flatMap fun x => x.2.cells) (qs.flatMap fun q => q.2.cells.toList)
  | [], [], _, _, _ => by simp [DRepL]
  | [], _ :: _, hl, _, _ => by simp at hl
  | _ :: _, [], hl, _, _ => by simp at hl
  | p :: ps, q :: qs, hl, hr, hn => by
    simp only [List.flatMap_cons]
    obtain ⟨_, hd⟩ := hr 0 p q rfl rfl
    exact DRepL.append (DRep.cells hd (nt_of hd (hn p (by simp)))) (flat_dr (by simpa using hl) (fun j p q hp hq => hr (j + 1) p q (by simpa using hp) (by simpa using hq)) (fun p hp => hn p (by simp [hp])))
theorem bldS_ok (inv : Inv ρ w h) {id : Nat} (hid : ¬ ρ.al id) {ar : Bool} {t : TypeId} {n : Nat} {ps : List (Nat × DV)} {e : Eff} (hd : bldS P ar t n ps id = some e) {qs : List (Nat × Value)} (hq : ps.length = qs.length) (hr : ∀ (j : Nat) (p : Nat × DV) (q : Nat × Value), ps[j]? = some p → qs[j]? = some q → p.1 = q.1 ∧ DR w h ρ p.2 q.2) :
    VOK P (Instr.buildSlice t n qs.toArray) ρ w h id e := by
  unfold bldS at hd
  split at hd
  · rename_i el hel
    split at hd
    · rename_i es hes
      obtain ⟨hsz, hpos⟩ := esT_run hes
      have hu := elT_run hel
      split at hd
      · rename_i hc
        obtain ⟨hix, hall, hlim, hzs⟩ := hc
        cases hd
        have hlen : ps.length = n := by have := congrArg List.length hix; simpa using this
        have hps : ∀ p ∈ ps, p.2.cells.length = esK es ∧ p.2.tupB = false := by
          intro p hp
          have := List.all_eq_true.1 hall p hp
          simpa using this
        have hqs : ∀ (j : Nat) (q : Nat × Value), qs[j]? = some q → q.1 = 0 + j ∧ q.2.cells.size = esK es := by
          intro j q hj
          have hjl : j < ps.length := by rw [hq]; exact (List.getElem?_eq_some_iff.1 hj).1
          have hp : ps[j]? = some ps[j] := List.getElem?_eq_getElem hjl
          obtain ⟨e1, e2⟩ := hr j _ q hp hj
          have hm := hps ps[j] (List.getElem_mem hjl)
          have hx := congrArg (·[j]?) hix
          simp only [List.getElem?_map, hp, Option.map_some, List.getElem?_range (by omega : j < n), Option.some.injEq] at hx
          refine ⟨by omega, ?_⟩
          have := (DRep.cells e2 (nt_of e2 hm.2)).len
          rw [hm.1] at this
          simpa using this
        have hfd := flat_dr hq hr (fun p hp => (hps p hp).2)
        have hfl : (ps.flatMap fun x => x.2.cells).length = n * esK es := by
          have : ∀ (l : List (Nat × DV)), (∀ p ∈ l, p.2.cells.length = esK es) → (l.flatMap fun x => x.2.cells).length = l.length * esK es := by
            intro l
            induction l with
            | nil => intro _; simp
            | cons p l ih =>
              intro hl
              simp only [List.flatMap_cons, List.length_append, List.length_cons, Nat.succ_mul]
              rw [ih (fun p hp => hl p (by simp [hp])), hl p (by simp)]
              omega
          rw [this ps (fun p hp => (hps p hp).1), hlen]
        have hvl := hfd.len
        rw [hfl] at hvl
        have run : ∀ (arr : Array Value), arr.size = n * esK es → ∃ out, Instr.fill (fun i => some (i * esK es, esK es)) arr qs = some out ∧ out.toList = qs.flatMap fun q => q.2.cells.toList := by
          intro arr hs
          obtain ⟨out, h1, h2⟩ := fill_all qs 0 arr hqs (by rw [← hq, hlen, Nat.zero_add, hs]; exact Nat.le_refl _)
          refine ⟨out, h1, ?_⟩
          rw [h2, Nat.zero_mul]
          exact setAt_all _ _ (by rw [hvl]; simpa using hs)
        have hi : ∃ i, P.info? el = some i ∧ i.size = esK es := by
          unfold szT at hsz
          cases he : P.info? el with
          | none => rw [he] at hsz; cases hsz
          | some i => rw [he] at hsz; exact ⟨i, rfl, by simpa using hsz⟩
        obtain ⟨i, hi, hie⟩ := hi
        have hz : ∃ v, i.zero = some v := by
          cases hzz : zeroT P el with
          | none => rw [hzz] at hzs; cases hzs
          | some z =>
            obtain ⟨i', v, hi', hv, _⟩ := zeroT_ok hzz
            rw [hi] at hi'
            cases hi'
            exact ⟨v, hv⟩
        obtain ⟨v, hv⟩ := hz
        obtain ⟨out, ho, hol⟩ := run ((Array.range (n * esK es)).map ((if n * esK es = 0 then #[] else v.cells)[· % (if n * esK es = 0 then #[] else v.cells : Array Value).size]!)) (by simp)
        have hos : out.size = n * esK es := by rw [← Array.length_toList, hol, hvl]
        obtain ⟨ρ', s, i2, hdr, hal⟩ := fresh_ok inv hid ar hpos hfd hfl [] el out (fun j u hj => by rw [← Array.getElem?_toList, hol]; exact hj) (Nat.le_refl n) (by rw [hos]; exact Nat.le_refl _)
        refine ⟨_, _, ρ', ?_, s, i2, hdr, hal⟩
        have hlim' : ¬ (16777216 < n * esK es) := by omega
        by_cases h0 : n * esK es = 0
        · simp only [h0, if_true] at ho
          simp [Instr.buildSlice, run_underlying hu, sizeOf, typeInfo, hi, hie, h0, newRow]
          try simp at ho
          simp [ho]
        · simp only [h0, if_false] at ho
          simp [Instr.buildSlice, run_underlying hu, sizeOf, typeInfo, zeroValue, hi, hie, h0, hv, hlim', newRow]
          try simp at ho
          simp [ho]
      · cases hd
    · cases hd
  · cases hd
end
end Go.Proofs.YtddmnddocbmjnaaGreat.Dv
namespace Go.Proofs.YtddmnddocbmjnaaGreat.Dv
open Go.RowKit
def zerosV (z : List Value) : Nat → List Value
  | 0 => []
  | n + 1 => z ++ zerosV z n
theorem zerosV_len (z : List Value) (n : Nat) : (zerosV z n).length = n * z.length := by
  induction n with
  | zero => simp [zerosV]
  | succ n ih => simp [zerosV, ih, Nat.succ_mul]; omega
theorem zerosV_get (z : List Value) : ∀ (n j : Nat), j < n * z.length → (zerosV z n)[j]? = z[j % z.length]?
  | 0, j, h => by simp at h
  | n + 1, j, h => by
    rw [Nat.succ_mul] at h
    have hz : 0 < z.length := by
      by_cases h0 : z.length = 0
      · rw [h0] at h; simp at h
      · omega
    simp only [zerosV]
    by_cases hj : j < z.length
    · rw [List.getElem?_append_left hj, Nat.mod_eq_of_lt hj]
    · rw [List.getElem?_append_right (by omega), zerosV_get z n _ (by omega), ← Nat.mod_eq_sub_mod (by omega)]
theorem made_get (z : Array Value) (m j : Nat) (hj : j < m) (hz : 0 < z.size) : ((Array.range m).map (z[· % z.size]!))[j]? = z[j % z.size]? := by
  have hlt : j % z.size < z.size := Nat.mod_lt _ hz
  simp [hj, hlt]
section
variable {F : Addr → Value → Prop} {ρ : Rho} {T : Nat → Nat → Prop}
theorem zeros_rep {z : List DV} {v : List Value} (hz : DRepL F ρ T z v) : ∀ n, DRepL F ρ T (zeros z n) (zerosV v n)
  | 0 => by simp [zeros, zerosV, DRepL]
  | n + 1 => by simp only [zeros, zerosV]; exact hz.append (zeros_rep hz n)
end
section
variable {P : Program} {ρ : Rho} {w : World} {h : PT AObj}
theorem info_of {e : TypeId} {k : Nat} (hk : szT P e = some k) : ∃ i, P.info? e = some i ∧ i.size = k := by
  unfold szT at hk
  cases he : P.info? e with
  | none => rw [he] at hk; cases hk
  | some i => rw [he] at hk; exact ⟨i, rfl, by simpa using hk⟩
theorem byT_of {e : TypeId} {b : Nat} {i : TypeInfo} (hi : P.info? e = some i) (hk : byT P e = some b) : i.bytes = b := by
  unfold byT at hk
  rw [hi] at hk
  simpa using hk
theorem makeSlice_ok (inv : Inv ρ w h) {id : Nat} (hid : ¬ ρ.al id) {t e : TypeId} {es : Option Nat} {z : List DV} {by_ : Nat} (hel : elT P t = some e) (hes : esT P e = some es) (hz : zeroT P e = some z) (hb : byT P e = some by_)
    {n m : Int} (h0 : 0 ≤ n) (hnm : n ≤ m) (hm : m ≤ 1048576) (hmb : m.toNat * by_ ≤ 1099511627776) (hzl : z.length = esK es) (k k' : IntKind) :
    VOK P (Instr.makeSlice t (.int k n) (.int k' m)) ρ w h id { dv := .ms id 0 n.toNat m.toNat es, up := [(id, some (.cells (zeros z m.toNat) false))] } := by
  obtain ⟨i, v, hi, hv, _, hzr⟩ := zeroT_ok hz
  obtain ⟨hsz, hpos⟩ := esT_run hes
  obtain ⟨i', hi', hie⟩ := info_of hsz
  rw [hi] at hi'
  cases hi'
  have hbb := byT_of hi hb
  have hbytes : (i.bytes : Int) * m ≤ 281474976710656 := by
    have : ((m.toNat * by_ : Nat) : Int) ≤ 1099511627776 := by omega
    rw [Int.natCast_mul] at this
    rw [hbb, Int.mul_comm]
    have e : ((m.toNat : Nat) : Int) = m := by omega
    rw [e] at this
    omega
  have run := run_make (P := P) w t e i v (elT_run hel) hi hv k k' n m h0 hnm hbytes (by omega)
  have hvl : v.cells.size = esK es := by
    have := (hzr (F := fun _ _ => True) (ρ := ρ) (T := fun _ _ => True)).len
    rw [hzl] at this
    simpa using this
  have hsize : (madeCells v.cells (m.toNat * i.size)).size = m.toNat * esK es := by rw [size_madeCells, hie]
  obtain ⟨s, i2⟩ := new_cells inv hid (zeros_rep hzr m.toNat) e (madeCells v.cells (m.toNat * i.size)) (fun j u hj => by
    have hjl : j < m.toNat * v.cells.toList.length := by
      have := (List.getElem?_eq_some_iff.1 hj).1
      rwa [zerosV_len] at this
    rw [zerosV_get _ _ _ hjl] at hj
    have e1 : v.cells.toList.length = v.cells.size := by simp
    rw [e1] at hj hjl
    rw [madeCells, made_get _ _ _ (by rw [hie, ← hvl]; exact hjl) (by omega)]
    simpa using hj)
  refine ⟨_, _, _, run, s, i2, ?_, al_add _ _ _ _ _ _⟩
  simp only [DRep, Rho.add_blk, Rho.add_st, Rho.add_cap]
  exact ⟨Rho.add_al .., m.toNat, by simp, by omega, Nat.le_refl _, by rw [hsize]; simp [esK]⟩
theorem makeMap_ok (inv : Inv ρ w h) {id : Nat} (hid : ¬ ρ.al id) (t : TypeId) : VOK P (Instr.makeMap t none) ρ w h id { dv := .mm id, up := [(id, some (.map []))] } := by
  obtain ⟨s, i2⟩ := new_map inv hid
  refine ⟨.map (some w.heap.size), _, _, ?_, s, i2, ?_, al_add _ _ _ _ _ _⟩
  · simp [Instr.makeMap]
  · simp only [DRep, Rho.add_blk]
    exact ⟨Rho.add_al .., by simp⟩
def SrcR (P : Program) (tx : TypeId) (i : TypeInfo) (z : Value) (x : Value) (n : Nat) (news : List Value) (w : World) : Prop :=
  (((∃ e, P.underlying tx = some (.slice e)) ∨ P.underlying tx = some .string) ∧ (Builtin.lenOf x).run P w = .ok n w ∧ (Builtin.firstCells i.size n x).run P w = .ok news.toArray w ∧ (Builtin.firstCells i.size n x).run P w.drew = .ok news.toArray w.drew) ∨
  (∃ k kk m, P.underlying tx = some (.int k) ∧ x = .int kk m ∧ 0 ≤ m ∧ m ≤ 1048576 ∧ m.toNat = n ∧ n * i.bytes ≤ 1099511627776 ∧ news = (if n * i.size = 0 then [] else (Builtin.zeroCells z.cells n).toList))
theorem app_room {t tx e : TypeId} {i : TypeInfo} {z : Value} (ht : P.underlying t = some (.slice e)) (hi : P.info? e = some i) (hz : i.zero = some z) {x : Value} {n : Nat} {news : List Value} (hs : SrcR P tx i z x n news w) (ts : List TypeId) (ty : TypeId) (xs : List Value)
    {base : Option Addr} {sLen sCap : Nat} (hroom : sLen + n ≤ sCap) {w' : World} (hst : ∀ a, base = some a → (storeCells (a.add (sLen * i.size)) news).run P w = .ok () w') (hno : base = none → w' = w) :
    (Builtin.append_ (t :: tx :: ts).toArray ty (.slice base sLen sCap :: x :: xs).toArray).run P w = .ok (.slice base (sLen + n) sCap) w' := by
  rcases hs with ⟨hd, hl, hf, _⟩ | ⟨k, kk, m, hd, rfl, h0, hm, rfl, hb, rfl⟩
  · cases base with
    | none =>
      have := hno rfl
      subst this
      rcases hd with ⟨e', hd⟩ | hd <;> simp [Builtin.append_, run_underlying ht, run_underlying hd, sizeOf, typeInfo, hi, hl, hroom, hf]
    | some a =>
      have hst := hst a rfl
      rcases hd with ⟨e', hd⟩ | hd <;> simp [Builtin.append_, run_underlying ht, run_underlying hd, sizeOf, typeInfo, hi, hl, hroom, hf, hst]
  · have wm : IntKind.i64.wrap m = m := by rw [IntKind.wrap_i64]; omega
    have n1 : ¬ m < 0 := by omega
    have n2 : ¬ (281474976710656 < m * (i.bytes : Int)) := by
      have e1 : ((m.toNat * i.bytes : Nat) : Int) ≤ 1099511627776 := by omega
      rw [Int.natCast_mul] at e1
      have e : ((m.toNat : Nat) : Int) = m := by omega
      rw [e] at e1
      omega
    cases base with
    | none =>
      have := hno rfl
      subst this
      by_cases hz0 : m.toNat * i.size = 0
      · simp [Builtin.append_, run_underlying ht, run_underlying hd, sizeOf, typeInfo, zeroValue, hi, hz, asInt, asIntOf, wm, n1, n2, hroom, hz0]
      · simp [Builtin.append_, run_underlying ht, run_underlying hd, sizeOf, typeInfo, zeroValue, hi, hz, asInt, asIntOf, wm, n1, n2, hroom, hz0]
    | some a =>
      have hst := hst a rfl
      by_cases hz0 : m.toNat * i.size = 0
      · rw [if_pos hz0] at hst
        simp [Builtin.append_, run_underlying ht, run_underlying hd, sizeOf, typeInfo, zeroValue, hi, hz, asInt, asIntOf, wm, n1, n2, hroom, hz0, hst]
      · rw [if_neg hz0] at hst
        simp [Builtin.append_, run_underlying ht, run_underlying hd, sizeOf, typeInfo, zeroValue, hi, hz, asInt, asIntOf, wm, n1, n2, hroom, hz0, hst]
theorem app_grow {t tx e : TypeId} {i : TypeInfo} {z : Value} (ht : P.underlying t = some (.slice e)) (hi : P.info? e = some i) (hz : i.zero = some z) {x : Value} {n : Nat} {news : List Value} (hs : SrcR P tx i z x n news w) (ts : List TypeId) (ty : TypeId) (xs : List Value)
    {base : Option Addr} {sLen sCap : Nat} (hg : sCap < sLen + n) (hfit : (sLen + n) * i.bytes ≤ 70368744177664) (hsm : sLen + n ≤ 9223372036854775807) {olds : List Value} (ho : (Builtin.firstCells i.size sLen (.slice base sLen sCap)).run P w.drew = .ok olds.toArray w.drew) :
    (Builtin.append_ (t :: tx :: ts).toArray ty (.slice base sLen sCap :: x :: xs).toArray).run P w = .ok (.slice (some ⟨w.heap.size, 0, none⟩) (sLen + n) (grownCap w (sLen + n) sCap e)) (w.drew.alloc (.cells (olds.toArray ++ news.toArray ++ Builtin.zeroCells z.cells (grownCap w (sLen + n) sCap e - (sLen + n))) e)) := by
  have hn : ¬ (sLen + n ≤ sCap) := by omega
  have h63' : ¬ (9223372036854775807 < ((sLen : Int) + (n : Int))) := by omega
  have h48' : ¬ (281474976710656 < Builtin.nextslicecap (sLen + n) sCap * i.bytes) := by
    have := growslice_fits hg (bytes := i.bytes) (by omega)
    omega
  rcases hs with ⟨hd, hl, _, hf⟩ | ⟨k, kk, m, hd, rfl, h0, hm, rfl, hb, rfl⟩
  · rcases hd with ⟨e', hd⟩ | hd <;> first
      | (simp [Builtin.append_, run_underlying ht, run_underlying hd, sizeOf, typeInfo, zeroValue, hi, hz, hl, hn, h63', h48', Question.forced, hf, ho, newRow, grownCap]
         done)
      | (simp [Builtin.append_, run_underlying ht, run_underlying hd, sizeOf, typeInfo, zeroValue, hi, hz, hl, hn, h63', h48', Question.forced, hf, ho, newRow, grownCap]
         congr 2
         apply Array.ext'
         simp [List.append_assoc])
  · have wm : IntKind.i64.wrap m = m := by rw [IntKind.wrap_i64]; omega
    have n1 : ¬ m < 0 := by omega
    have n2 : ¬ (281474976710656 < m * (i.bytes : Int)) := by
      have e1 : ((m.toNat * i.bytes : Nat) : Int) ≤ 1099511627776 := by omega
      rw [Int.natCast_mul] at e1
      have e : ((m.toNat : Nat) : Int) = m := by omega
      rw [e] at e1
      omega
    have h63'' : ¬ (9223372036854775807 < ((sLen : Int) + max m 0)) := by omega
    by_cases hz0 : m.toNat * i.size = 0
    · simp [Builtin.append_, run_underlying ht, run_underlying hd, sizeOf, typeInfo, zeroValue, hi, hz, asInt, asIntOf, wm, n1, n2, hn, h63', h63'', h48', Question.forced, ho, hz0, newRow, grownCap]
    · simp [Builtin.append_, run_underlying ht, run_underlying hd, sizeOf, typeInfo, zeroValue, hi, hz, asInt, asIntOf, wm, n1, n2, hn, h63', h63'', h48', Question.forced, ho, hz0, newRow, grownCap]
end
end Go.Proofs.YtddmnddocbmjnaaGreat.Dv
namespace Go.Proofs.YtddmnddocbmjnaaGreat.Dv
open Go.RowKit
section
variable {P : Program} {ρ : Rho} {w : World} {h : PT AObj}
theorem cell_heap {w W : World} (e : W.heap = w.heap) (a : Addr) : W.cell? a = w.cell? a := by simp [World.cell?, e]
theorem first_some {k n : Nat} {ad : Addr} {len c : Nat} {vs : List Value} (hl : vs.length = n * k) (hc : ∀ j v, vs[j]? = some v → w.cell? (ad.add j) = some v) : (Builtin.firstCells k n (.slice (some ad) len c)).run P w = .ok vs.toArray w :=
  run_firstCells_some w k n ad len c vs hl hc
theorem lst_src {k : Nat} {l : List PDV} {vx : Value} (hx : PRep (Fx w (Wf h ρ)) (.lst l) vx) (hk : szOk k l = true) : ∃ vs, DRL w h ρ (flatC l) vs ∧ vs.length = l.length * k ∧ (∀ W : World, W.heap = w.heap → (Builtin.lenOf vx).run P W = .ok l.length W ∧ (Builtin.firstCells k l.length vx).run P W = .ok vs.toArray W) := by
  simp only [PRep] at hx
  obtain ⟨a, c, sz, rfl, h1, h2, h3⟩ := hx
  cases l with
  | nil =>
    refine ⟨[], by simp [flatC, DRepL], by simp, fun W e => ⟨by simp [Builtin.lenOf], ?_⟩⟩
    cases a <;> simp [Builtin.firstCells, loadCells, loadCellsFrom]
  | cons d ds =>
    have hs : sz = k := elem_size h3 hk (by simp)
    subst hs
    have ha : ∃ ad, a = some ad := by
      simp only [PRepE] at h3
      obtain ⟨⟨ad, _, e, _⟩, _⟩ := h3
      exact ⟨ad, e⟩
    obtain ⟨ad, rfl⟩ := ha
    obtain ⟨vs, e1, e2, e3⟩ := h3.flat
    refine ⟨vs, DRepL.of_plain e1, e2, fun W e => ⟨by simp [Builtin.lenOf], ?_⟩⟩
    refine first_some e2 (fun j v hj => ?_)
    rw [cell_heap e]
    have := (e3 j v hj).2.1
    simpa using this
theorem src_ok (inv : Inv ρ w h) {k : Nat} {x : DV} {cs : List DV} {n : Nat} {rd : List Nat} (hd : src h k x = some (cs, n, rd)) {vx : Value} (hx : DR w h ρ x vx) :
    ∃ vs, DRL w h ρ cs vs ∧ vs.length = n * k ∧ (∀ W : World, W.heap = w.heap → (Builtin.lenOf vx).run P W = .ok n W ∧ (Builtin.firstCells k n vx).run P W = .ok vs.toArray W) := by
  unfold src at hd
  split at hd
  · cases hd
    simp only [DRep] at hx
    subst hx
    exact ⟨[], by simp [DRepL], by simp, fun W e => ⟨by simp [Builtin.lenOf], by simp [Builtin.firstCells]⟩⟩
  · cases hd
    simp only [DRep] at hx
    obtain ⟨a, rfl⟩ := hx
    refine ⟨[], by simp [DRepL], by simp, fun W e => ⟨by simp [Builtin.lenOf], ?_⟩⟩
    cases a <;> simp [Builtin.firstCells, loadCells, loadCellsFrom]
  · split at hd
    · rename_i hk
      cases hd
      simp only [DRep] at hx
      exact lst_src hx hk
    · cases hd
  · split at hd
    · rename_i hk
      cases hd
      simp only [DRep] at hx
      exact lst_src hx.2.1 hk
    · cases hd
  · rename_i i off m av es
    split at hd
    · rename_i c fz ho
      split at hd
      · rename_i hc
        obtain ⟨rfl, hle⟩ := hc
        cases hd
        simp only [DRep] at hx
        obtain ⟨_, cc, rfl, _⟩ := hx
        obtain ⟨_, arr, T, vs, h1, h2, h3, h4, h5⟩ := obj_cells inv ho
        have hl : ((vs.drop off).take (n * esK es)).length = n * esK es := by simp [h3.len]; omega
        refine ⟨(vs.drop off).take (n * esK es), (h3.drop off).take _, hl, fun W e => ⟨by simp [Builtin.lenOf], ?_⟩⟩
        refine first_some hl (fun j v hj => ?_)
        rw [cell_heap e, add_lit0, Nat.add_assoc]
        refine h5 _ _ ?_
        rw [List.getElem?_take] at hj
        split at hj
        · simpa using hj
        · cases hj
      · cases hd
    · cases hd
  · rename_i s
    split at hd
    · rename_i hk
      subst hk
      cases hd
      simp only [DRep, PRep] at hx
      obtain ⟨rfl, _⟩ := hx
      refine ⟨s.data.toList.map fun b => .int .u8 b.toNat, ?_, by simp, fun W e => ⟨by simp [Builtin.lenOf], ?_⟩⟩
      · generalize s.data.toList = l
        induction l with
        | nil => simp [DRepL]
        | cons b l ih =>
          simp only [List.map_cons, DRepL]
          exact ⟨_, _, rfl, rfl, i_rep _ _, ih⟩
      · simp only [Builtin.firstCells, Sem.run_pure]
        congr 1
        apply Array.ext'
        simp
    · cases hd
  · cases hd
theorem PRepE.flat2 {F : Addr → Value → Prop} {sz : Nat} {ad : Addr} : ∀ {o : Nat} {l : List PDV}, PRepE F sz (some ad) o l → ∃ vs, vs.length = l.length * sz ∧ PRepL F (l.flatMap PDV.cells) vs ∧ (∀ j v, vs[j]? = some v → F (ad.add (o + j)) v) ∧
    ∀ (F' : Addr → Value → Prop) (ad' : Addr) (o' : Nat), (∀ a v, F a v → F' a v) → (∀ (j : Nat) (v : Value), vs[j]? = some v → F' (ad'.add (o' + j)) v) → PRepE F' sz (some ad') o' l
  | o, [], _ => ⟨[], by simp, by simp [PRepL], fun j v hj => by simp at hj, fun _ _ _ _ _ => by simp [PRepE]⟩
  | o, d :: ds, h => by
    simp only [PRepE] at h
    obtain ⟨⟨ad', y, e, hp, hn, hs, hf⟩, h2⟩ := h
    cases e
    obtain ⟨vs, h4, h3, h5, h6⟩ := PRepE.flat2 h2
    have hl : y.cells.toList.length = sz := by simpa using hs
    refine ⟨y.cells.toList ++ vs, by simp [hs, h4, Nat.succ_mul]; omega, (prep_cells hp hn).append h3, fun j v hj => ?_, fun F' ad' o' hm hh => ?_⟩
    · by_cases hjs : j < sz
      · rw [List.getElem?_append_left (by omega)] at hj
        exact hf j v (by simpa using hj)
      · rw [List.getElem?_append_right (by omega), hl] at hj
        have := h5 _ _ hj
        rwa [show o + sz + (j - sz) = o + j by omega] at this
    · simp only [PRepE]
      refine ⟨⟨ad', y, rfl, PRep.mono hm _ _ hp, hn, hs, fun j v hj => ?_⟩, h6 F' ad' (o' + sz) hm (fun j v hj => ?_)⟩
      · refine hh j v ?_
        have hjl := (Array.getElem?_eq_some_iff.1 hj).1
        rw [List.getElem?_append_left (by omega)]
        simpa using hj
      · have := hh (sz + j) v (by rw [List.getElem?_append_right (by omega), hl]; simpa using hj)
        rwa [← Nat.add_assoc] at this
theorem zc_cells {z : Value} {k n : Nat} (hk : z.cells.size = k) (hpos : 0 < k) : (Builtin.zeroCells z.cells n).toList = zerosV z.cells.toList n := by
  apply List.ext_getElem?
  intro j
  by_cases hj : j < n * k
  · rw [zerosV_get _ _ _ (by simpa [hk] using hj)]
    have hlt : j % k < z.cells.size := by rw [hk]; exact Nat.mod_lt _ hpos
    have := made_get z.cells (n * z.cells.size) j (by rw [hk]; exact hj) (by omega)
    simp only [Builtin.zeroCells, Array.getElem?_toList]
    rw [this]
    simp
  · rw [List.getElem?_eq_none (by simp [Builtin.zeroCells, hk]; omega), List.getElem?_eq_none (by rw [zerosV_len]; simp [hk]; omega)]
theorem more_ok (inv : Inv ρ w h) {tx e : TypeId} {es : Option Nat} {by_ : Nat} {x : DV} {i : TypeInfo} {z : Value} {zd : List DV} (hi : P.info? e = some i) (hz : i.zero = some z) (hzd : zeroT P e = some zd) (hzr : ∀ {F : Addr → Value → Prop} {ρ : Rho} {T : Nat → Nat → Prop}, DRepL F ρ T zd z.cells.toList) (hzl : zd.length = esK es) (hie : i.size = esK es) (hpos : 0 < esK es) (hb : i.bytes = by_)
    {r : List DV × Nat × List Nat} (hd : moreD P tx e (esK es) by_ x h = some r) {vx : Value} (hx : DR w h ρ x vx) :
    ∃ vs, DRL w h ρ r.1 vs ∧ vs.length = r.2.1 * esK es ∧ SrcR P tx i z vx r.2.1 vs w := by
  obtain ⟨cs, n, rd⟩ := r
  unfold moreD at hd
  split at hd
  · rename_i k kk m hu
    simp only [DRep, PRep] at hx
    obtain ⟨rfl, _⟩ := hx
    split at hd
    · rename_i hc
      obtain ⟨h0, hm, hmb⟩ := hc
      rw [hzd] at hd
      cases hd
      have hzs : z.cells.size = esK es := by
        have := (hzr (F := fun _ _ => True) (ρ := ρ) (T := fun _ _ => True)).len
        rw [hzl] at this
        simpa using this
      refine ⟨zerosV z.cells.toList m.toNat, zeros_rep hzr _, by rw [zerosV_len]; simp [hzs], .inr ⟨k, kk, m, hu, rfl, h0, hm, rfl, by rw [hb]; exact hmb, ?_⟩⟩
      split
      · rename_i hz0
        have : m.toNat = 0 := by
          rcases Nat.mul_eq_zero.1 hz0 with h | h
          · exact h
          · omega
        rw [this]; rfl
      · exact (zc_cells hzs hpos).symm
    · cases hd
  · rename_i e' x hu
    obtain ⟨vs, h1, h2, h3⟩ := src_ok (P := P) inv hd hx
    exact ⟨vs, h1, h2, .inl ⟨.inl ⟨_, hu⟩, (h3 w rfl).1, by rw [hie]; exact (h3 w rfl).2, by rw [hie]; exact (h3 w.drew rfl).2⟩⟩
  · rename_i x hu
    obtain ⟨vs, h1, h2, h3⟩ := src_ok (P := P) inv hd hx
    exact ⟨vs, h1, h2, .inl ⟨.inr hu, (h3 w rfl).1, by rw [hie]; exact (h3 w rfl).2, by rw [hie]; exact (h3 w.drew rfl).2⟩⟩
  · cases hd
end
end Go.Proofs.YtddmnddocbmjnaaGreat.Dv
