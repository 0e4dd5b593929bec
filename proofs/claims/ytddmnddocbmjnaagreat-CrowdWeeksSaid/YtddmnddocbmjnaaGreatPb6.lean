/- Part 6 of the proof: CrowdWeeks: whatever plain data comes in, the call returns true and leaves its arguments as they were. No condition. -/
import Derived.Test.YtddmnddocbmjnaaGreatPb5
import Derived.Deep.LoopGhost
import Derived.Laws.Sem
set_option linter.all false
set_option linter.unusedVariables false
set_option linter.unusedSectionVars false
set_option linter.unusedSimpArgs false
namespace Go.Proofs.YtddmnddocbmjnaaGreat.Dv
open Go.RowKit
theorem PT.setF_leaf {α : Type} (f n : Nat) (v : Option α) : PT.setF (f + 1) .leaf n v = PT.setF (f + 1) (.node none .leaf .leaf) n v := by
  unfold PT.setF
  rfl
theorem PT.setF_comm {α : Type} (a b : Option α) : ∀ (f g : Nat) (t : PT α) (n m : Nat), n < f → m < g → n ≠ m → PT.setF g (PT.setF f t n a) m b = PT.setF f (PT.setF g t m b) n a := by
  intro f
  induction f with
  | zero => intro g t n m h; omega
  | succ f ih =>
    intro g t n m hn hm hne
    cases g with
    | zero => omega
    | succ g =>
      have key : ∀ (u : Option α) (l r : PT α), PT.setF (g + 1) (PT.setF (f + 1) (.node u l r) n a) m b = PT.setF (f + 1) (PT.setF (g + 1) (.node u l r) m b) n a := by
        intro u l r
        simp only [PT.setF]
        by_cases h1 : n = 0
        · subst h1
          have h2 : m ≠ 0 := fun e => hne e.symm
          simp only [if_true, if_neg h2, PT.setF]
          by_cases h3 : m % 2 = 1
          · simp [if_pos h3, PT.setF]
          · simp [if_neg h3, PT.setF]
        · simp only [if_neg h1]
          by_cases h2 : m = 0
          · subst h2
            by_cases h3 : n % 2 = 1
            · simp [if_pos h3, PT.setF, h1]
            · simp [if_neg h3, PT.setF, h1]
          · simp only [if_neg h2]
            by_cases h3 : n % 2 = 1
            · by_cases h4 : m % 2 = 1
              · simp only [if_pos h3, if_pos h4, PT.setF, if_neg h1, if_neg h2]
                rw [ih g l (n / 2) (m / 2) (by omega) (by omega) (by omega)]
              · simp only [if_pos h3, if_neg h4, PT.setF, if_neg h1, if_neg h2]
            · by_cases h4 : m % 2 = 1
              · simp only [if_neg h3, if_pos h4, PT.setF, if_neg h1, if_neg h2]
              · simp only [if_neg h3, if_neg h4, PT.setF, if_neg h1, if_neg h2]
                rw [ih g r (n / 2 - 1) (m / 2 - 1) (by omega) (by omega) (by omega)]
      cases t with
      | leaf =>
        rw [PT.setF_leaf f n a, PT.setF_leaf g m b]
        exact key none .leaf .leaf
      | node u l r => exact key u l r
theorem PT.set_comm {α : Type} (t : PT α) (a b : Option α) {n m : Nat} (h : n ≠ m) : (t.set n a).set m b = (t.set m b).set n a := PT.setF_comm a b _ _ t n m (by omega) (by omega) h
theorem applyUp_set : ∀ (b : List (Nat × Option AObj)) (h : PT AObj) (k : Nat) (v : Option AObj), (∀ y ∈ b, y.1 ≠ k) → applyUp (h.set k v) b = (applyUp h b).set k v
  | [], h, k, v, _ => rfl
  | y :: ys, h, k, v, hne => by
    simp only [applyUp]
    rw [← PT.set_comm h y.2 v (hne y (by simp)), applyUp_set ys _ k v (fun z hz => hne z (by simp [hz]))]
theorem applyUp_comm : ∀ (a b : List (Nat × Option AObj)) (h : PT AObj), (∀ x ∈ a, ∀ y ∈ b, x.1 ≠ y.1) → applyUp (applyUp h a) b = applyUp (applyUp h b) a
  | [], b, h, _ => rfl
  | x :: xs, b, h, hne => by
    simp only [applyUp]
    rw [applyUp_comm xs b _ (fun z hz y hy => hne z (by simp [hz]) y hy), applyUp_set b h x.1 x.2 (fun y hy e => hne x (by simp) y hy e.symm)]
theorem applyUp_get : ∀ (a : List (Nat × Option AObj)) (h : PT AObj) (k : Nat), k ∉ a.map (·.1) → (applyUp h a).get k = h.get k
  | [], h, k, _ => rfl
  | x :: xs, h, k, hk => by
    simp only [List.map_cons, List.mem_cons, not_or] at hk
    simp only [applyUp]
    rw [applyUp_get xs _ k hk.2, PT.get_set_ne _ _ (Ne.symm hk.1)]
theorem putD_comm (t : PT DV) {x y : Option Tmp} (u v : DV) (h : ∀ d, x = some d → y ≠ some d) : putD (putD t x u) y v = putD (putD t y v) x u := by
  cases x with
  | none => rfl
  | some d =>
    cases y with
    | none => rfl
    | some e =>
      have hne : d ≠ e := fun he => h d rfl (he ▸ rfl)
      exact PT.set_comm t _ _ hne
section
variable {P : Program} {G : Cfg} {fn : FuncId} {cl : CallF} {ops : Array Oper} {h h' : PT AObj} {t t' : PT DV}
def ExtLoc (G : Cfg) : Prop := ∀ g F, G.ext g = some F → ∀ xs h h' id e, F xs h id = some e → (∀ i ∈ e.rd, h'.get i = h.get i) → F xs h' id = some e
theorem opE_loc (hL : ExtLoc G) {o : Op} {id : Nat} {e : Eff} (hd : opE P G fn cl o t h id = some e) (hh : ∀ i ∈ e.rd, h'.get i = h.get i) : opE P G fn cl o t h' id = some e := by
  cases o
  case load ty x =>
    obtain ⟨d, h1, h2⟩ := bind2 hd
    simp only [opE, h1, Option.bind_some]
    exact ld_loc h2 hh
  case store ty x y =>
    simp only [opE] at hd ⊢
    split at hd
    · exact sto_loc hd hh
    · cases hd
  case lookup ty x k ok =>
    simp only [opE] at hd ⊢
    split at hd
    · exact lkp_loc hd hh
    · cases hd
  case mapUpdate ty m k x =>
    simp only [opE] at hd ⊢
    split at hd
    · exact mup_loc hd hh
    · cases hd
  case insert ty m k x =>
    simp only [opE] at hd ⊢
    split at hd
    · exact mup_loc hd hh
    · cases hd
  case call c =>
    simp only [opE] at hd ⊢
    split at hd
    · obtain ⟨zas, h1, h2⟩ := bind2 hd
      simp only [h1, Option.bind_some]
      exact builtin_loc h2 hh
    · split at hd
      · split at hd
        · split at hd
          · rename_i hc
            rw [if_pos hc]
            split at hd
            · split at hd
              · rename_i F hF
                exact hL _ _ hF _ _ _ _ _ hd hh
              · cases hd
            · cases hd
            · exact callE_loc hd hh
          · cases hd
        · cases hd
      · cases hd
    · cases hd
  case makeMap ty r => cases r <;> exact hd
  all_goals exact hd
theorem optL_congr {α β : Type} {f g : α → Option β} : ∀ {l : List α}, (∀ x ∈ l, f x = g x) → optL f l = optL g l
  | [], _ => rfl
  | x :: xs, hx => by
    simp only [optL]
    rw [hx x (by simp), optL_congr (fun y hy => hx y (by simp [hy]))]
theorem evp_congr {l : List (Nat × Operand)} (hx : ∀ x ∈ l, ev t' x.2 = ev t x.2) : evp t' l = evp t l := optL_congr (fun x hm => by simp only [hx x hm])
theorem opE_congr {o : Op} {id : Nat} (hx : ∀ x ∈ o.operands, ev t' x = ev t x) : opE P G fn cl o t' h id = opE P G fn cl o t h id := by
  cases o
  case build ty ps => simp only [opE]; rw [evp_congr fun x hm => hx x.2 (by simp only [Op.operands, List.mem_toArray, List.mem_map]; exact ⟨x, hm, rfl⟩)]
  case buildSlice ty n ps => simp only [opE]; rw [evp_congr fun x hm => hx x.2 (by simp only [Op.operands, List.mem_toArray, List.mem_map]; exact ⟨x, hm, rfl⟩)]
  case makeFunc f fi ca =>
    simp only [opE, evs]
    rw [optL_congr fun x hm => hx x (by simp only [Op.operands, Array.mem_append]; exact .inl (by simpa using hm)), optL_congr fun x hm => hx x (by simp only [Op.operands, Array.mem_append]; exact .inr (by simpa using hm))]
  case makeMap ty r => cases r <;> rfl
  case slice ty x lo hi mx =>
    simp only [opE]
    rw [hx x (by simp [Op.operands]), optL_congr (l := lo.toList) fun y hm => hx y (by simp only [Op.operands, Array.mem_append]; left; left; right; cases lo <;> simp_all), optL_congr (l := hi.toList) fun y hm => hx y (by simp only [Op.operands, Array.mem_append]; left; right; cases hi <;> simp_all), optL_congr (l := mx.toList) fun y hm => hx y (by simp only [Op.operands, Array.mem_append]; right; cases mx <;> simp_all)]
  case call c =>
    have ha : evs t' c.args.toList = evs t c.args.toList := optL_congr fun x hm => hx x (by simp only [Op.operands, Call.operands, Array.mem_append]; exact .inr (by simpa using hm))
    simp only [opE]
    rw [ha]
    cases hc : c.callee with
    | builtin b => rfl
    | invoke r m => rfl
    | value f =>
      simp only
      rw [hx f (by simp [Op.operands, Call.operands, hc])]
  all_goals (simp only [Op.operands] at hx; first | rfl | (simp at hx; simp [opE, hx]; done))
theorem refCall_congr {o : Op} (hx : ∀ x ∈ o.operands, ev t' x = ev t x) : refCall P G fn o t' = refCall P G fn o t := by
  cases o
  case call c =>
    have ha : evs t' c.args.toList = evs t c.args.toList := optL_congr fun x hm => hx x (by simp only [Op.operands, Call.operands, Array.mem_append]; exact .inr (by simpa using hm))
    simp only [refCall]
    rw [ha]
    cases hc : c.callee with
    | builtin b => rfl
    | invoke r m => rfl
    | value f =>
      simp only
      rw [hx f (by simp [Op.operands, Call.operands, hc])]
  all_goals rfl
def outI (P : Program) (G : Cfg) (fn : FuncId) (cl : CallF) (ops : Array Oper) (base i : Nat) (t : PT DV) (h : PT AObj) (nx : Nat) : Option (DV × PT AObj × Nat × Log) := match ops[i]? with
  | none => none
  | some o => match wantD ops t o with
    | some true => match refCall P G fn o.op t with
      | some (g, xs) => (cl g xs h nx).map fun r => (r.1, r.2.1, r.2.2, { ran := true, big := true })
      | none => (opE P G fn cl o.op t h (base + i)).map fun e => (e.dv, applyUp h e.up, nx, { ran := true, rd := e.rd, wr := e.up.map (·.1) })
    | some false => some (.p (.tup []), h, nx, {})
    | none => none
theorem stepI_out {base i : Nat} {o : Oper} (ho : ops[i]? = some o) (s : St) : stepI P G fn cl ops base i s = (outI P G fn cl ops base i s.t s.h s.nx).map fun r => (⟨putD s.t o.dst r.1, r.2.1, r.2.2.1⟩, r.2.2.2) := by
  unfold stepI outI
  rw [ho]
  simp only
  cases hw : wantD ops s.t o with
  | none => rfl
  | some b =>
    cases b with
    | false => rfl
    | true =>
      simp only [stepD]
      cases hr : refCall P G fn o.op s.t with
      | some g =>
        obtain ⟨g, xs⟩ := g
        simp only
        cases hc : cl g xs s.h s.nx with
        | none => rfl
        | some r => rfl
      | none =>
        simp only
        cases hc : opE P G fn cl o.op s.t s.h (base + i) with
        | none => rfl
        | some e => rfl
theorem outI_tmp {base i : Nat} {o : Oper} (ho : ops[i]? = some o) {d : Option Tmp} (v : DV) (hd : ∀ x, d = some x → x ∉ o.looksAt ops) (h : PT AObj) (nx : Nat) : outI P G fn cl ops base i (putD t d v) h nx = outI P G fn cl ops base i t h nx := by
  cases d with
  | none => rfl
  | some d =>
    have hd := hd d rfl
    have hx : ∀ x ∈ o.op.operands, ev (t.set d (some v)) x = ev t x := by
      intro x hm
      cases x with
      | tmp j =>
        have : d ≠ j := fun e => hd (by
          subst e
          exact List.mem_append_left _ (List.mem_filterMap.2 ⟨.tmp d, by simpa using hm, rfl⟩))
        simp only [ev, PT.get_set_ne _ _ this]
      | _ => rfl
    have hw : wantD ops (t.set d (some v)) o = wantD ops t o := by
      unfold wantD
      cases hg : o.guard with
      | none => rfl
      | some g =>
        obtain ⟨j, wnt⟩ := g
        simp only
        cases hj : (ops[j]?).bind (·.dst) with
        | none => rfl
        | some e =>
          have : d ≠ e := fun he => hd (by subst he; simp [Oper.looksAt, hg, hj])
          simp only [PT.get_set_ne _ _ this]
    simp only [outI, ho, putD, hw, refCall_congr hx, opE_congr hx]
theorem outI_idle {base i : Nat} {nx : Nat} {r : DV × PT AObj × Nat × Log} (ho : outI P G fn cl ops base i t h nx = some r) (hr : r.2.2.2.ran = false) : r.2.1 = h ∧ r.2.2.1 = nx ∧ ∀ h' nx', outI P G fn cl ops base i t h' nx' = some (r.1, h', nx', r.2.2.2) := by
  unfold outI at ho
  split at ho
  · cases ho
  · rename_i o hop
    split at ho
    · split at ho
      · rename_i g xs hg
        cases hc : cl g xs h nx with
        | none => rw [hc] at ho; cases ho
        | some q => rw [hc] at ho; cases ho; cases hr
      · cases hc : opE P G fn cl o.op t h (base + i) with
        | none => rw [hc] at ho; cases ho
        | some e => rw [hc] at ho; cases ho; cases hr
    · rename_i hw
      cases ho
      exact ⟨rfl, rfl, fun h' nx' => by simp only [outI, hop, hw]⟩
    · cases ho
theorem outI_ran (hL : ExtLoc G) {base i : Nat} {nx : Nat} {r : DV × PT AObj × Nat × Log} (ho : outI P G fn cl ops base i t h nx = some r) (hr : r.2.2.2.ran = true) (hb : r.2.2.2.big = false) : ∃ up, r.2.1 = applyUp h up ∧ r.2.2.1 = nx ∧ r.2.2.2.wr = up.map (·.1) ∧
    ∀ h' nx', (∀ k ∈ r.2.2.2.rd, h'.get k = h.get k) → outI P G fn cl ops base i t h' nx' = some (r.1, applyUp h' up, nx', r.2.2.2) := by
  unfold outI at ho
  split at ho
  · cases ho
  · rename_i o hop
    split at ho
    · rename_i hw
      split at ho
      · rename_i g xs hg
        cases hc : cl g xs h nx with
        | none => rw [hc] at ho; cases ho
        | some q => rw [hc] at ho; cases ho; cases hb
      · rename_i hg
        cases hc : opE P G fn cl o.op t h (base + i) with
        | none => rw [hc] at ho; cases ho
        | some e =>
          rw [hc] at ho
          cases ho
          exact ⟨e.up, rfl, rfl, rfl, fun h' nx' hh => by simp only [outI, hop, hw, hg, opE_loc hL hc hh, Option.map_some]⟩
    · cases ho; cases hr
    · cases ho
theorem meets_no {a b : List Nat} (h : meets a b = false) : ∀ x ∈ a, x ∉ b := by
  intro x hx hb
  unfold meets at h
  rw [List.any_eq_false] at h
  exact h x hx (by simpa using hb)
theorem swap (hL : ExtLoc G) {base i j : Nat} {oi oj : Oper} (hi : ops[i]? = some oi) (hj : ops[j]? = some oj) (hap : oi.apart ops oj = true) {li lj : Log} (hcl : clash li lj = false) {s s1 s2 : St} (h1 : stepI P G fn cl ops base i s = some (s1, li)) (h2 : stepI P G fn cl ops base j s1 = some (s2, lj)) :
    ∃ s1', stepI P G fn cl ops base j s = some (s1', lj) ∧ stepI P G fn cl ops base i s1' = some (s2, li) := by
  obtain ⟨a1, a2, a3⟩ := Oper.apart_spec hap
  rw [stepI_out hi] at h1
  rw [stepI_out hj] at h2
  cases hoi : outI P G fn cl ops base i s.t s.h s.nx with
  | none => rw [hoi] at h1; cases h1
  | some ri =>
    rw [hoi] at h1
    cases h1
    cases hoj : outI P G fn cl ops base j (putD s.t oi.dst ri.1) ri.2.1 ri.2.2.1 with
    | none => rw [hoj] at h2; cases h2
    | some rj =>
      rw [hoj] at h2
      cases h2
      rw [outI_tmp hj _ a1] at hoj
      have com : putD (putD s.t oi.dst ri.1) oj.dst rj.1 = putD (putD s.t oj.dst rj.1) oi.dst ri.1 := putD_comm _ _ _ a2
      cases hrj : rj.2.2.2.ran with
      | false =>
        obtain ⟨e1, e2, e3⟩ := outI_idle hoj hrj
        refine ⟨⟨putD s.t oj.dst rj.1, s.h, s.nx⟩, ?_, ?_⟩
        · rw [stepI_out hj, e3]; rfl
        · rw [stepI_out hi, outI_tmp hi _ a3, hoi]
          simp only [Option.map_some, com, e1, e2]
      | true =>
        cases hri : ri.2.2.2.ran with
        | false =>
          obtain ⟨e1, e2, e3⟩ := outI_idle hoi hri
          rw [e1, e2] at hoj
          refine ⟨⟨putD s.t oj.dst rj.1, rj.2.1, rj.2.2.1⟩, ?_, ?_⟩
          · rw [stepI_out hj, hoj]; rfl
          · rw [stepI_out hi, outI_tmp hi _ a3, e3]
            simp only [Option.map_some, com]
        | true =>
          unfold clash at hcl
          simp only [hri, hrj, Bool.true_and, Bool.or_eq_false_iff] at hcl
          obtain ⟨⟨⟨⟨b1, b2⟩, m1⟩, m2⟩, m3⟩ := hcl
          obtain ⟨ui, e1, e2, e3, e4⟩ := outI_ran hL hoi hri b1
          obtain ⟨uj, f1, f2, f3, f4⟩ := outI_ran hL hoj hrj b2
          have hij := f4 s.h s.nx (fun k hk => by
            rw [e1, applyUp_get _ _ _ (fun hm => meets_no m1 k (by rw [e3]; exact hm) hk)])
          have hji := e4 (applyUp s.h uj) s.nx (fun k hk => applyUp_get _ _ _ (fun hm => meets_no m3 k hk (by rw [f3]; exact hm)))
          refine ⟨⟨putD s.t oj.dst rj.1, applyUp s.h uj, s.nx⟩, ?_, ?_⟩
          · rw [stepI_out hj, hij]; rfl
          · rw [stepI_out hi, outI_tmp hi _ a3, hji]
            simp only [Option.map_some, com, f1, f2, e1, e2]
            rw [applyUp_comm ui uj s.h (fun x hx y hy e => meets_no m2 x.1 (by rw [e3]; exact List.mem_map_of_mem hx) (by rw [f3, e]; exact List.mem_map_of_mem hy))]
end
end Go.Proofs.YtddmnddocbmjnaaGreat.Dv
namespace Go.Proofs.YtddmnddocbmjnaaGreat.Dv
open Go.RowKit
def dstOK (n : Nat) (ops : Array Oper) : Bool := ops.toList.all fun o => match o.dst with
  | some d => decide (d < n)
  | none => true
def edgesOK : Nat → List Oper → Bool
  | _, [] => true
  | i, o :: os => o.after.toList.all (fun e => !Region.binds .any e || decide (e.on < i)) && edgesOK (i + 1) os
def apartA (ops : Array Oper) (bef : Array Nat) (i : Nat) (oi : Oper) : Nat → List Oper → Bool
  | _, [] => true
  | j, oj :: os => ((bef.getD j 0).testBit i || oi.apart ops oj) && apartA ops bef i oi (j + 1) os
def apartOK (ops : Array Oper) (bef : Array Nat) : Nat → List Oper → Bool
  | _, [] => true
  | i, o :: os => apartA ops bef i o (i + 1) os && apartOK ops bef (i + 1) os
def regOK (n : Nat) (ops : Array Oper) (draw : Bool) : Bool := dstOK n ops && (!draw || (edgesOK 0 ops.toList && apartOK ops (Region.before ops) 0 ops.toList))
theorem dstOK_spec {n : Nat} {ops : Array Oper} (h : dstOK n ops = true) (i : Nat) (o : Oper) (ho : ops[i]? = some o) (d : Tmp) (hd : o.dst = some d) : d < n := by
  unfold dstOK at h
  rw [List.all_eq_true] at h
  have := h o (by have := Array.mem_of_getElem? ho; simpa using this)
  rw [hd] at this
  simpa using this
theorem edgesOK_spec : ∀ {os : List Oper} {i : Nat}, edgesOK i os = true → ∀ (k : Nat) (o : Oper), os[k]? = some o → ∀ e ∈ o.after, Region.binds .any e = true → e.on < i + k
  | [], i, _, k, o, ho => by simp at ho
  | a :: os, i, h, k, o, ho => by
    simp only [edgesOK, Bool.and_eq_true] at h
    cases k with
    | zero =>
      simp at ho
      subst ho
      intro e he hb
      have := List.all_eq_true.1 h.1 e (by simpa using he)
      simpa [hb] using this
    | succ k =>
      intro e he hb
      have := edgesOK_spec h.2 k o (by simpa using ho) e he hb
      omega
theorem apartA_spec {ops : Array Oper} {bef : Array Nat} {i : Nat} {oi : Oper} : ∀ {os : List Oper} {j : Nat}, apartA ops bef i oi j os = true → ∀ (k : Nat) (o : Oper), os[k]? = some o → (bef.getD (j + k) 0).testBit i = true ∨ oi.apart ops o = true
  | [], j, _, k, o, ho => by simp at ho
  | a :: os, j, h, k, o, ho => by
    simp only [apartA, Bool.and_eq_true, Bool.or_eq_true] at h
    cases k with
    | zero => simp at ho; subst ho; exact h.1
    | succ k =>
      have := apartA_spec h.2 k o (by simpa using ho)
      rwa [show j + 1 + k = j + (k + 1) by omega] at this
theorem apartOK_spec {ops : Array Oper} {bef : Array Nat} : ∀ {os : List Oper} {b : Nat}, apartOK ops bef b os = true → ∀ (i j : Nat) (oi oj : Oper), i < j → os[i]? = some oi → os[j]? = some oj → (bef.getD (b + j) 0).testBit (b + i) = true ∨ oi.apart ops oj = true
  | [], b, _, i, j, oi, oj, _, hi, _ => by simp at hi
  | a :: os, b, h, i, j, oi, oj, hij, hi, hj => by
    simp only [apartOK, Bool.and_eq_true] at h
    cases j with
    | zero => omega
    | succ j =>
      cases i with
      | zero =>
        simp at hi
        subst hi
        have := apartA_spec h.1 j oj (by simpa using hj)
        rwa [show b + 1 + j = b + (j + 1) by omega] at this
      | succ i =>
        have := apartOK_spec h.2 i j oi oj (by omega) (by simpa using hi) (by simpa using hj)
        rwa [show b + 1 + j = b + (j + 1) by omega, show b + 1 + i = b + (i + 1) by omega] at this
theorem inner_bit (acc : Array Nat) (j : Nat) : ∀ (es : List Edge) (s : Nat), (es.foldl (fun s e => if Region.binds .any e then s ||| 2 ^ e.on ||| acc.getD e.on 0 else s) s).testBit j = true →
    s.testBit j = true ∨ ∃ e ∈ es, Region.binds .any e = true ∧ (e.on = j ∨ (acc.getD e.on 0).testBit j = true)
  | [], s, h => .inl h
  | e :: es, s, h => by
    simp only [List.foldl_cons] at h
    rcases inner_bit acc j es _ h with h1 | ⟨e', he', hb, h1⟩
    · split at h1
      · rename_i hb
        rw [Nat.testBit_or, Nat.testBit_or, Nat.testBit_two_pow] at h1
        simp only [Bool.or_eq_true, decide_eq_true_eq] at h1
        rcases h1 with (h1 | h1) | h1
        · exact .inl h1
        · exact .inr ⟨e, by simp, hb, .inl h1⟩
        · exact .inr ⟨e, by simp, hb, .inr h1⟩
      · exact .inl h1
    · exact .inr ⟨e', by simp [he'], hb, h1⟩
theorem before_list (j : Nat) : ∀ (os : List Oper) (acc : Array Nat), (∀ k, k < acc.size → (os.foldl (fun acc o => acc.push (o.after.foldl (fun s e => if Region.binds .any e then s ||| 2 ^ e.on ||| acc.getD e.on 0 else s) 0)) acc)[k]? = acc[k]?) ∧
    ∀ (k : Nat) (o : Oper), os[k]? = some o → ((os.foldl (fun acc o => acc.push (o.after.foldl (fun s e => if Region.binds .any e then s ||| 2 ^ e.on ||| acc.getD e.on 0 else s) 0)) acc).getD (acc.size + k) 0).testBit j = true →
      ∃ e ∈ o.after, Region.binds .any e = true ∧ (e.on = j ∨ ((os.foldl (fun acc o => acc.push (o.after.foldl (fun s e => if Region.binds .any e then s ||| 2 ^ e.on ||| acc.getD e.on 0 else s) 0)) acc).getD e.on 0).testBit j = true)
  | [], acc => ⟨fun k _ => rfl, fun k o ho => by simp at ho⟩
  | a :: os, acc => by
    simp only [List.foldl_cons]
    obtain ⟨h1, h2⟩ := before_list j os (acc.push (a.after.foldl (fun s e => if Region.binds .any e then s ||| 2 ^ e.on ||| acc.getD e.on 0 else s) 0))
    refine ⟨fun k hk => ?_, fun k o ho hb => ?_⟩
    · rw [h1 k (by simp; omega), Array.getElem?_push_lt (by omega)]
      simp [hk]
    · cases k with
      | zero =>
        simp at ho
        subst ho
        rw [Array.getD_eq_getD_getElem?, Nat.add_zero, h1 _ (by simp), Array.getElem?_push_size, Option.getD_some, ← Array.foldl_toList] at hb
        rcases inner_bit acc j _ 0 hb with h3 | ⟨e, he, hb', h3⟩
        · simp at h3
        · refine ⟨e, by simpa using he, hb', h3.imp id fun h4 => ?_⟩
          rw [Array.getD_eq_getD_getElem?] at h4 ⊢
          cases hx : acc[e.on]? with
          | none => rw [hx] at h4; simp at h4
          | some v =>
            have hlt := (Array.getElem?_eq_some_iff.1 hx).1
            rw [h1 _ (by simp; omega), Array.getElem?_push_lt (by omega)]
            rw [hx] at h4
            have : acc[e.on] = v := by have := Array.getElem?_eq_getElem hlt; rw [hx] at this; simpa using this.symm
            simpa [this] using h4
      | succ k => exact h2 k o (by simpa using ho) (by rw [Array.size_push, show acc.size + 1 + k = acc.size + (k + 1) by omega]; exact hb)
theorem before_bit {ops : Array Oper} {i j : Nat} {o : Oper} (ho : ops[i]? = some o) (hb : ((Region.before ops).getD i 0).testBit j = true) : ∃ e ∈ o.after, Region.binds .any e = true ∧ (e.on = j ∨ ((Region.before ops).getD e.on 0).testBit j = true) := by
  have h := (before_list j ops.toList #[]).2 i o (by simpa using ho)
  unfold Region.before at hb ⊢
  rw [← Array.foldl_toList] at hb ⊢
  simp only [List.size_toArray, List.length_nil, Nat.zero_add] at h
  exact h hb
section
variable {P : Program} {G : Cfg} {fn : FuncId} {cl : CallF}
def Fit (bef : Array Nat) (x y : Nat × Log) : Prop := (bef.getD y.1 0).testBit x.1 = true ∨ clash x.2 y.2 = false
theorem indepA_spec {bef : Array Nat} {la : Log} {i : Nat} : ∀ {ls : List Log} {j : Nat}, indepAux bef la i j ls = true → ∀ y ∈ (List.range' j ls.length).zip ls, Fit bef (i, la) y
  | [], j, _, y, hy => by simp at hy
  | l :: ls, j, h, y, hy => by
    simp only [indepAux, Bool.and_eq_true, Bool.or_eq_true, Bool.not_eq_true'] at h
    simp only [List.length_cons, List.range'_succ, List.zip_cons_cons, List.mem_cons] at hy
    rcases hy with hy | hy
    · subst hy; exact h.1
    · exact indepA_spec h.2 y hy
theorem indep_spec {bef : Array Nat} : ∀ {ls : List Log} {i : Nat}, indep bef i ls = true → ((List.range' i ls.length).zip ls).Pairwise (Fit bef)
  | [], i, _ => by simp
  | l :: ls, i, h => by
    simp only [indep, Bool.and_eq_true] at h
    simp only [List.length_cons, List.range'_succ, List.zip_cons_cons, List.pairwise_cons]
    exact ⟨fun y hy => indepA_spec h.1 y hy, indep_spec h.2⟩
theorem front (hL : ExtLoc G) {ops : Array Oper} {base : Nat} {x : Nat × Log} {ox : Oper} (hx : ops[x.1]? = some ox) : ∀ (l1 : List (Nat × Log)) {l2 : List (Nat × Log)} {s r : St}, (∀ y ∈ l1, ∃ oy, ops[y.1]? = some oy ∧ oy.apart ops ox = true ∧ clash y.2 x.2 = false) → Run P G fn cl ops base (l1 ++ x :: l2) s r →
    ∃ s1, stepI P G fn cl ops base x.1 s = some (s1, x.2) ∧ Run P G fn cl ops base (l1 ++ l2) s1 r
  | [], l2, s, r, _, hr => hr
  | y :: l1, l2, s, r, hy, hr => by
    obtain ⟨s', h1, h2⟩ := hr
    obtain ⟨s'', h3, h4⟩ := front hL hx l1 (fun z hz => hy z (by simp [hz])) h2
    obtain ⟨oy, ho, ha, hc⟩ := hy y (by simp)
    obtain ⟨s1', h5, h6⟩ := swap hL ho hx ha hc h1 h3
    exact ⟨s1', h5, s'', h6, h4⟩
theorem getD_lt {l : Array Bool} {i : Nat} (h : i < l.size) (a b : Bool) : l.getD i a = l.getD i b := by
  simp [Array.getD_eq_getD_getElem?, Array.getElem?_eq_getElem h]
theorem any_ok (hE : ExtOK P G) (hL : ExtLoc G) (H : CallsOK P cl) {n : Nat} {ops : Array Oper} {base : Nat} (hn : ∀ (i : Nat) o, ops[i]? = some o → ∀ d, o.dst = some d → d < n) {Q : Exit → Act → World → Prop}
    (hedge : ∀ (i : Nat) (o : Oper), ops[i]? = some o → ∀ e ∈ o.after, Region.binds .any e = true → e.on < i) (hap : ∀ (i j : Nat) (oi oj : Oper), i < j → ops[i]? = some oi → ops[j]? = some oj → ((Region.before ops).getD j 0).testBit i = true ∨ oi.apart ops oj = true) :
    ∀ (fuel : Nat) (l : List (Nat × Log)) (listed : Array Bool) {ρ : Rho} {w : World} {s r : St} {a : Act}, l.length = fuel → listed.size = ops.size → (∀ i, i < ops.size → (listed.getD i true = false ↔ i ∈ l.map (·.1))) → (∀ i ∈ l.map (·.1), i < ops.size) → (l.map (·.1)).Pairwise (· < ·) → l.Pairwise (Fit (Region.before ops)) →
      (∀ k, listed.getD k false = true → ∀ j, ((Region.before ops).getD k 0).testBit j = true → listed.getD j false = true) → Run P G fn cl ops base l s r → SR n ρ w s a → (∀ i ∈ l.map (·.1), ¬ ρ.al (base + i) ∧ base + i < s.nx) →
      (∀ ρ' w' a', SR n ρ' w' r a' → Stp ρ w s.h ρ' w' r.h → s.nx ≤ r.nx → (∀ k, ρ'.al k → ρ.al k ∨ (∃ i ∈ l.map (·.1), k = base + i) ∨ s.nx ≤ k) → Q .normal a' w') → wpAny P .any ops Q fuel listed a w
  | 0, l, listed, ρ, w, s, r, a, hlen, hsz, hl, hlt, hsort, hfit, hcl, hr, sr, hids, hQ => by
    have : l = [] := List.eq_nil_of_length_eq_zero hlen
    subst this
    refine ⟨?_, ?_⟩
    · apply List.eq_nil_iff_forall_not_mem.2
      intro i hi
      obtain ⟨h1, o, ho, _⟩ := mem_ready.1 hi
      have := (hl i (Array.getElem?_eq_some_iff.1 ho).1).1 h1
      simp at this
    · simp only [Run] at hr
      subst hr
      exact hQ ρ w a sr (Stp.refl _ _ _) (Nat.le_refl _) (fun k hk => .inl hk)
  | fuel + 1, l, listed, ρ, w, s, r, a, hlen, hsz, hl, hlt, hsort, hfit, hcl, hr, sr, hids, hQ => by
    refine ⟨fun hemp => ?_, fun i hi => ?_⟩
    · exfalso
      cases l with
      | nil => simp at hlen
      | cons x0 l0 =>
        have hx0 := hlt x0.1 (by simp)
        have hmem : x0.1 ∈ Region.ready .any ops listed := by
          rw [mem_ready]
          refine ⟨(hl x0.1 hx0).2 (by simp), ops[x0.1], Array.getElem?_eq_getElem hx0, fun e he hb => ?_⟩
          have hlt' := hedge x0.1 _ (Array.getElem?_eq_getElem hx0) e he hb
          have hes : e.on < ops.size := by omega
          cases hh : listed.getD e.on false with
          | true => rfl
          | false =>
            have := (hl e.on hes).1 (by rw [getD_lt (by omega) true false]; exact hh)
            simp only [List.map_cons, List.mem_cons] at this
            simp only [List.map_cons, List.pairwise_cons] at hsort
            rcases this with h | h
            · omega
            · have := hsort.1 _ h
              omega
        rw [hemp] at hmem
        simp at hmem
    · obtain ⟨h1, o, ho, hall⟩ := mem_ready.1 hi
      have his : i < ops.size := (Array.getElem?_eq_some_iff.1 ho).1
      have hil := (hl i his).1 h1
      obtain ⟨x, hxl, hxi⟩ := List.mem_map.1 hil
      subst hxi
      obtain ⟨l1, l2, rfl⟩ := List.append_of_mem hxl
      have hready : ∀ j, ((Region.before ops).getD x.1 0).testBit j = true → listed.getD j false = true := by
        intro j hj
        obtain ⟨e, he, hb, h2⟩ := before_bit ho hj
        have h3 := hall e he hb
        rcases h2 with h2 | h2
        · rw [← h2]; exact h3
        · exact hcl e.on h3 j h2
      rw [List.pairwise_append] at hfit
      have hsort' := hsort
      rw [List.map_append, List.map_cons, List.pairwise_append] at hsort'
      obtain ⟨s1, hst, hrun⟩ := front hL ho l1 (fun y hy => by
        have hy1 := hlt y.1 (by simp only [List.map_append, List.mem_append]; exact .inl (List.mem_map_of_mem hy))
        have hyl : listed.getD y.1 true = false := (hl y.1 hy1).2 (by simp only [List.map_append, List.mem_append]; exact .inl (List.mem_map_of_mem hy))
        have hnb : ¬ ((Region.before ops).getD x.1 0).testBit y.1 = true := fun hb => by
          have := hready y.1 hb
          rw [getD_lt (by omega) false true, hyl] at this
          cases this
        have hlt2 : y.1 < x.1 := hsort'.2.2 y.1 (List.mem_map_of_mem hy) x.1 (by simp)
        exact ⟨ops[y.1], Array.getElem?_eq_getElem hy1, (hap y.1 x.1 _ o hlt2 (Array.getElem?_eq_getElem hy1) ho).resolve_left hnb, (hfit.2.2 y hy x (by simp)).resolve_left hnb⟩) hr
      obtain ⟨hi1, hi2⟩ := hids x.1 (by simp)
      have hsub : ∀ k, k ∈ (l1 ++ l2).map (·.1) → k ∈ (l1 ++ x :: l2).map (·.1) := fun k hk => by
        simp only [List.map_append, List.map_cons, List.mem_append, List.mem_cons] at hk ⊢
        rcases hk with h | h
        · exact .inl h
        · exact .inr (.inr h)
      have hxn : x.1 ∉ (l1 ++ l2).map (·.1) := fun hk => by
        simp only [List.map_append, List.mem_append] at hk
        rcases hk with h | h
        · have := hsort'.2.2 x.1 h x.1 (by simp)
          omega
        · have := hsort'.2.1
          rw [List.pairwise_cons] at this
          have := this.1 x.1 h
          omega
      have hsl : (l1 ++ l2).Sublist (l1 ++ x :: l2) := List.Sublist.append (List.Sublist.refl _) (List.sublist_cons_self _ _)
      refine stepI_ok hE H (hn x.1) hst sr hi1 hi2 (fun ρ' w' a' sr' st hle al => ?_)
      refine any_ok hE hL H hn hedge hap fuel (l1 ++ l2) _ (by simp at hlen ⊢; omega) (by simpa using hsz) (fun k hk => ?_) (fun k hk => hlt k (hsub k hk)) (hsort.sublist (hsl.map _)) (by rw [← List.pairwise_append] at hfit; exact hfit.sublist hsl) (fun k hk j hj => ?_) hrun sr' (fun k hk => ⟨fun hal => ?_, ?_⟩) (fun ρ2 w2 a2 sr2 st2 hle2 al2 => ?_)
      · by_cases e : x.1 = k
        · subst e
          have : (listed.setIfInBounds x.1 true).getD x.1 true = true := by simp [Array.getD_eq_getD_getElem?, Array.getElem?_setIfInBounds, hsz, his]
          rw [this]
          exact ⟨fun h => (by cases h), fun h => absurd h hxn⟩
        · rw [getD_set_ne true e, hl k hk]
          refine ⟨fun h => ?_, hsub k⟩
          simp only [List.map_append, List.map_cons, List.mem_append, List.mem_cons] at h ⊢
          rcases h with h | h | h
          · exact .inl h
          · exact absurd h.symm e
          · exact .inr h
      · by_cases e : x.1 = k
        · subst e
          exact getD_set_true (hready j hj)
        · rw [getD_set_ne false e] at hk
          exact getD_set_true (hcl k hk j hj)
      · rcases al _ hal with h | h | h
        · exact (hids k (hsub k hk)).1 h
        · have : k = x.1 := by omega
          exact hxn (this ▸ hk)
        · have := (hids k (hsub k hk)).2
          omega
      · exact Nat.lt_of_lt_of_le (hids k (hsub k hk)).2 hle
      · refine hQ ρ2 w2 a2 sr2 (st.trans st2) (Nat.le_trans hle hle2) (fun k hk => ?_)
        rcases al2 k hk with h | ⟨i, hi', h⟩ | h
        · rcases al k h with h | h | h
          · exact .inl h
          · exact .inr (.inl ⟨x.1, by simp, h⟩)
          · exact .inr (.inr h)
        · exact .inr (.inl ⟨i, hsub i hi', h⟩)
        · exact .inr (.inr (by omega))
end
end Go.Proofs.YtddmnddocbmjnaaGreat.Dv
namespace Go.Proofs.YtddmnddocbmjnaaGreat.Dv
open Go.RowKit
def okCode (n : Nat) : Code → Bool
  | .region _ ops draw => regOK n ops draw
  | .seq a b => okCode n a && okCode n b
  | .cond _ a b => okCode n a && okCode n b
  | .block _ c => okCode n c
  | .loop c => okCode n c
  | _ => true
def CodeOK (P : Program) : Prop := ∀ (f : FuncId) (fn : Func) (c : Code), P.funcs[f]? = some fn → fn.body = some c → okCode fn.ntmps c = true
def toExit : DX → Exit
  | .normal => .normal
  | .exit id => .exit id
  | .ret => .ret
section
variable {P : Program} {G : Cfg} {fn : FuncId} {cl : CallF}
def After (n : Nat) (ρ : Rho) (w : World) (s : St) (r : St) (a' : Act) (w' : World) : Prop := ∃ ρ', SR n ρ' w' r a' ∧ Stp ρ w s.h ρ' w' r.h ∧ s.nx ≤ r.nx ∧ ∀ j, ρ'.al j → ρ.al j ∨ s.nx ≤ j
theorem After.trans {n : Nat} {ρ ρ1 : Rho} {w w1 w2 : World} {s s1 r : St} {a2 : Act} (h1 : Stp ρ w s.h ρ1 w1 s1.h) (h2 : s.nx ≤ s1.nx) (h3 : ∀ j, ρ1.al j → ρ.al j ∨ s.nx ≤ j) (h : After n ρ1 w1 s1 r a2 w2) : After n ρ w s r a2 w2 := by
  obtain ⟨ρ2, sr, st, hle, al⟩ := h
  refine ⟨ρ2, sr, h1.trans st, Nat.le_trans h2 hle, fun j hj => ?_⟩
  rcases al j hj with h | h
  · exact h3 j h
  · exact .inr (Nat.le_trans h2 h)
theorem SR.drew {n : Nat} {ρ : Rho} {w : World} {s : St} {a : Act} (h : SR n ρ w s a) : SR n ρ w.drew s a := ⟨h.inv.drew1, h.tr.stp (Stp.drew1 ρ w s.h), h.size, h.defs, h.lt⟩
theorem region_ok (hE : ExtOK P G) (hL : ExtLoc G) (H : CallsOK P cl) (hm : P.follows .mixedOrders = true) {n id : Nat} {ops : Array Oper} {draw : Bool} (hok : regOK n ops draw = true) {s r : St} {ls : List Log} {ρ : Rho} {w : World} {a : Act}
    (hr : runOps P G fn cl ops s.nx ops.toList { s with nx := s.nx + ops.size } = some (r, ls)) (hind : draw = true → indep (Region.before ops) 0 ls = true) (sr : SR n ρ w s a) {Q : Exit → Act → World → Prop} (hQ : ∀ a' w', After n ρ w s r a' w' → Q .normal a' w') : (Code.region id ops draw).wp P Q a w := by
  unfold regOK at hok
  simp only [Bool.and_eq_true, Bool.or_eq_true, Bool.not_eq_true'] at hok
  obtain ⟨hdst, hdr⟩ := hok
  have hn := dstOK_spec hdst
  obtain ⟨hlen, hrun⟩ := runOps_run (base := s.nx) ops.toList 0 _ r ls rfl (by simpa using hr)
  have hfst : ((List.range' 0 ops.toList.length).zip ls).map (·.1) = List.range ops.size := by
    rw [List.map_fst_zip (by simp [hlen]), List.range_eq_range']
    simp
  have ids : ∀ i ∈ ((List.range' 0 ops.toList.length).zip ls).map (·.1), ¬ ρ.al (s.nx + i) ∧ s.nx + i < s.nx + ops.size := by
    intro i hi
    rw [hfst, List.mem_range] at hi
    exact ⟨fun h => by have := sr.lt _ h; omega, by omega⟩
  have sr' : SR n ρ w { s with nx := s.nx + ops.size } a := ⟨sr.inv, sr.tr, sr.size, sr.defs, fun k hk => Nat.lt_of_lt_of_le (sr.lt k hk) (Nat.le_add_right _ _)⟩
  have fin : ∀ {w0 : World} (_ : Stp ρ w s.h ρ w0 s.h) (ρ' : Rho) (w' : World) (a' : Act), SR n ρ' w' r a' → Stp ρ w0 s.h ρ' w' r.h → s.nx + ops.size ≤ r.nx → (∀ k, ρ'.al k → ρ.al k ∨ (∃ i ∈ ((List.range' 0 ops.toList.length).zip ls).map (·.1), k = s.nx + i) ∨ s.nx + ops.size ≤ k) → Q .normal a' w' := by
    intro w0 h0 ρ' w' a' h1 h2 h3 h4
    refine hQ a' w' ⟨ρ', h1, h0.trans h2, by omega, fun j hj => ?_⟩
    rcases h4 j hj with h | ⟨i, _, h⟩ | h
    · exact .inl h
    · exact .inr (by omega)
    · exact .inr (by omega)
  cases draw with
  | false =>
    refine wp_region ?_
    rw [← hfst]
    refine run_ok hE H hn _ hrun sr' ?_ ids (fun ρ' w' a' h1 h2 h3 h4 => fin (Stp.refl _ _ _) ρ' w' a' h1 h2 h3 h4)
    rw [hfst]
    exact List.nodup_range
  | true =>
    refine wp_region_any hm ?_
    have hdr := hdr.resolve_left (by simp)
    have hedge : ∀ (i : Nat) (o : Oper), ops[i]? = some o → ∀ e ∈ o.after, Region.binds .any e = true → e.on < i := fun i o ho e he hb => by
      have := edgesOK_spec hdr.1 i o (by simpa using ho) e he hb
      omega
    have hap : ∀ (i j : Nat) (oi oj : Oper), i < j → ops[i]? = some oi → ops[j]? = some oj → ((Region.before ops).getD j 0).testBit i = true ∨ oi.apart ops oj = true := fun i j oi oj hij hi hj => by
      have := apartOK_spec hdr.2 i j oi oj hij (by simpa using hi) (by simpa using hj)
      simpa using this
    have hfit := indep_spec (hind rfl)
    rw [hlen] at hfit
    refine any_ok hE hL H hn hedge hap _ _ _ (by simp [hlen]) (by simp) (fun i hi => ?_) (fun i hi => by rw [hfst, List.mem_range] at hi; exact hi) (by rw [hfst]; exact List.pairwise_lt_range) hfit (fun k hk => ?_) hrun sr'.drew ids (fun ρ' w' a' h1 h2 h3 h4 => fin (Stp.drew1 _ _ _) ρ' w' a' h1 h2 h3 h4)
    · rw [hfst, List.mem_range]
      simp [Array.getD_eq_getD_getElem?, Array.getElem?_replicate, hi]
    · exfalso
      rw [Array.getD_eq_getD_getElem?, Array.getElem?_replicate] at hk
      split at hk <;> simp at hk
theorem exec_ok (hE : ExtOK P G) (hL : ExtLoc G) (H : CallsOK P cl) (hm : P.follows .mixedOrders = true) {n k : Nat} : ∀ (c : Code), okCode n c = true → ∀ {s r : St} {x : DX} {ρ : Rho} {w : World} {a : Act}, exec P G fn cl k c s = some (x, r) → SR n ρ w s a →
    ∀ {Q : Exit → Act → World → Prop}, (∀ a' w', After n ρ w s r a' w' → Q (toExit x) a' w') → c.wp P Q a w
  | .skip, _, s, r, x, ρ, w, a, hx, sr, Q, hQ => by
    simp only [exec] at hx
    cases hx
    exact wp_skip (hQ a w ⟨ρ, sr, Stp.refl _ _ _, Nat.le_refl _, fun j hj => .inl hj⟩)
  | .region id ops draw, hok, s, r, x, ρ, w, a, hx, sr, Q, hQ => by
    simp only [exec] at hx
    split at hx
    · rename_i s' ls hr
      split at hx
      · cases hx
      · rename_i hi
        cases hx
        refine region_ok hE hL H hm hok hr (fun hd => ?_) sr hQ
        subst hd
        simpa using hi
    · cases hx
  | .seq p q, hok, s, r, x, ρ, w, a, hx, sr, Q, hQ => by
    simp only [okCode, Bool.and_eq_true] at hok
    simp only [exec] at hx
    refine wp_seq ?_
    split at hx
    · rename_i s1 h1
      refine exec_ok hE hL H hm p hok.1 h1 sr (fun a1 w1 hA => ?_)
      obtain ⟨ρ1, sr1, st1, hle1, al1⟩ := hA
      exact exec_ok hE hL H hm q hok.2 hx sr1 (fun a2 w2 hB => hQ a2 w2 (After.trans st1 hle1 al1 hB))
    · rename_i hne
      refine exec_ok hE hL H hm p hok.1 hx sr (fun a1 w1 hA => ?_)
      have := hQ a1 w1 hA
      cases x with
      | normal => exact absurd hx (hne r)
      | exit id => exact this
      | ret => exact this
  | .cond c p q, hok, s, r, x, ρ, w, a, hx, sr, Q, hQ => by
    simp only [okCode, Bool.and_eq_true] at hok
    simp only [exec] at hx
    split at hx
    · rename_i hc
      obtain ⟨d, h1, h2⟩ := bind2 hc
      exact wp_cond_true (asB_ok h2 (ev_ok sr.tr h1)) (exec_ok hE hL H hm p hok.1 hx sr hQ)
    · rename_i hc
      obtain ⟨d, h1, h2⟩ := bind2 hc
      exact wp_cond_false (asB_ok h2 (ev_ok sr.tr h1)) (exec_ok hE hL H hm q hok.2 hx sr hQ)
    · cases hx
  | .block id c, hok, s, r, x, ρ, w, a, hx, sr, Q, hQ => by
    simp only [okCode] at hok
    simp only [exec] at hx
    refine wp_block ?_
    split at hx
    · rename_i j s1 h1
      split at hx
      · rename_i hj
        cases hx
        refine exec_ok hE hL H hm c hok h1 sr (fun a1 w1 hA => ?_)
        simp only [toExit, Exit.inBlock, if_pos hj]
        exact hQ a1 w1 hA
      · rename_i hj
        cases hx
        refine exec_ok hE hL H hm c hok h1 sr (fun a1 w1 hA => ?_)
        simp only [toExit, Exit.inBlock, if_neg hj]
        exact hQ a1 w1 hA
    · rename_i hne
      refine exec_ok hE hL H hm c hok hx sr (fun a1 w1 hA => ?_)
      have := hQ a1 w1 hA
      cases x with
      | normal => exact this
      | exit id => exact absurd hx (hne id r)
      | ret => exact this
  | .loop c, hok, s, r, x, ρ, w, a, hx, sr, Q, hQ => by
    simp only [okCode] at hok
    simp only [exec] at hx
    refine wp_loop_ghost (fun m a' w' => ∃ s' ρ', iter (exec P G fn cl k c) m s' = some (x, r) ∧ SR n ρ' w' s' a' ∧ Stp ρ w s.h ρ' w' s'.h ∧ s.nx ≤ s'.nx ∧ ∀ j, ρ'.al j → ρ.al j ∨ s.nx ≤ j) k ⟨s, ρ, hx, sr, Stp.refl _ _ _, Nat.le_refl _, fun j hj => .inl hj⟩ ?_
    rintro m a1 w1 ⟨s1, ρ1, hit, sr1, st1, hle1, al1⟩
    cases m with
    | zero => simp [iter] at hit
    | succ m =>
      simp only [iter] at hit
      split at hit
      · rename_i s2 h2
        refine exec_ok hE hL H hm c hok h2 sr1 (fun a2 w2 hA => ?_)
        obtain ⟨ρ2, sr2, st2, hle2, al2⟩ := After.trans st1 hle1 al1 hA
        exact ⟨m, Nat.lt_succ_self m, s2, ρ2, hit, sr2, st2, hle2, al2⟩
      · rename_i hne
        refine exec_ok hE hL H hm c hok hit sr1 (fun a2 w2 hA => ?_)
        have := hQ a2 w2 (After.trans st1 hle1 al1 hA)
        cases x with
        | normal => exact absurd hit (hne r)
        | exit id => exact this
        | ret => exact this
  | .exit id, _, s, r, x, ρ, w, a, hx, sr, Q, hQ => by
    simp only [exec] at hx
    cases hx
    exact wp_exit (hQ a w ⟨ρ, sr, Stp.refl _ _ _, Nat.le_refl _, fun j hj => .inl hj⟩)
  | .ret, _, s, r, x, ρ, w, a, hx, sr, Q, hQ => by
    simp only [exec] at hx
    cases hx
    exact wp_ret (hQ a w ⟨ρ, sr, Stp.refl _ _ _, Nat.le_refl _, fun j hj => .inl hj⟩)
  | .goto _, _, s, r, x, ρ, w, a, hx, sr, Q, hQ => by simp [exec] at hx
  | .label _, _, s, r, x, ρ, w, a, hx, sr, Q, hQ => by simp [exec] at hx
  | .scope _, _, s, r, x, ρ, w, a, hx, sr, Q, hQ => by simp [exec] at hx
end
end Go.Proofs.YtddmnddocbmjnaaGreat.Dv
namespace Go.Proofs.YtddmnddocbmjnaaGreat.Dv
open Go.RowKit
section
variable {P : Program} {G : Cfg}
theorem argsT_get : ∀ (ds : List DV) (i : Nat) (t : PT DV) (j : Nat), (argsT i ds t).get j = if i ≤ j ∧ j < i + ds.length then ds[j - i]? else t.get j
  | [], i, t, j => by
    rw [if_neg (by simp)]; rfl
  | d :: ds, i, t, j => by
    simp only [argsT, argsT_get ds, PT.get_set, List.length_cons]
    by_cases h1 : i = j
    · subst h1
      rw [if_neg (by omega), if_pos rfl, if_pos (by omega)]
      simp
    · rw [if_neg h1]
      by_cases h2 : i + 1 ≤ j ∧ j < i + 1 + ds.length
      · rw [if_pos h2, if_pos (by omega), show j - i = (j - (i + 1)) + 1 by omega]
        simp
      · rw [if_neg h2, if_neg (by omega)]
theorem args_tr {F : Addr → Value → Prop} {ρ : Rho} {T : Nat → Nat → Prop} {zas : List DV} {vs : List Value} (ha : DRepT F ρ T zas vs) (m : Nat) : TR F ρ T (argsT 0 zas .leaf) (vs.toArray ++ Array.replicate m undef) := by
  intro i
  rw [argsT_get]
  simp only [Nat.zero_le, true_and, Nat.zero_add, Nat.sub_zero, PT.get_leaf]
  by_cases h : i < zas.length
  · rw [if_pos h]
    obtain ⟨v, hv, hd⟩ := ha.get i zas[i] (List.getElem?_eq_getElem h)
    rw [List.getElem?_eq_getElem h]
    simp only [Option.getD_some]
    have hlt := (List.getElem?_eq_some_iff.1 hv).1
    have : (vs.toArray ++ Array.replicate m undef).getD i undef = v := by
      rw [Array.getD_eq_getD_getElem?, Array.getElem?_append_left (by simpa using hlt)]
      simp [hv]
    rw [this]
    exact hd
  · rw [if_neg h]
    have hl := ha.len
    have : (vs.toArray ++ Array.replicate m undef).getD i undef = undef := by
      rw [Array.getD_eq_getD_getElem?, Array.getElem?_append_right (by simp; omega)]
      rw [Array.getElem?_replicate]
      split <;> rfl
    rw [this]
    exact udf_rep
def resV (tm : Array Value) : ResultVar → Sem Value
  | .tmp t => pure (tm.getD t undef)
  | .cell b t => do loadVar t (← asAddr (tm.getD b undef))
theorem results_eq (fn : Func) (tm : Array Value) : Go.results fn tm = (do let vs ← fn.results.mapM (resV tm); pure (if h : vs.size = 1 then vs[0] else .tuple vs)) := by
  refine congrArg (fun f => (do let vs ← fn.results.mapM f; pure (if h : vs.size = 1 then vs[0] else .tuple vs) : Sem Value)) (funext fun r => ?_)
  cases r <;> rfl
theorem resD_ok {n : Nat} {ρ : Rho} {w : World} {s : St} {a : Act} (sr : SR n ρ w s a) {r : ResultVar} {d : DV} (hd : resD P r s = some d) :
    ∃ v, (resV a.tmps r).run P w = .ok v w ∧ DR w s.h ρ d v := by
  cases r with
  | tmp t =>
    simp only [resD] at hd
    cases hd
    exact ⟨_, rfl, sr.tr t⟩
  | cell b t =>
    simp only [resD] at hd
    split at hd
    · rename_i x hx
      cases hl : ld P t x s.h with
      | none => rw [hl] at hd; cases hd
      | some e =>
        rw [hl] at hd
        cases hd
        have hb := sr.tr b
        rw [hx] at hb
        obtain ⟨v, hv, hdv, _⟩ := ld_ok sr.inv hl hb
        refine ⟨v, ?_, hdv⟩
        have hp : ∃ ad, a.tmps.getD b undef = .pointer (some ad) := by
          cases hq : a.tmps.getD b undef with
          | pointer p =>
            cases p with
            | some ad => exact ⟨ad, rfl⟩
            | none => rw [hq] at hv; simp [Instr.loadAt, Instr.sureAddr] at hv
          | _ => rw [hq] at hv; simp [Instr.loadAt, Instr.sureAddr] at hv
        obtain ⟨ad, hp⟩ := hp
        rw [hp] at hv
        simp only [resV, hp]
        simpa [resV, Instr.loadAt, Instr.sureAddr, asAddr] using hv
    · cases hd
theorem mapM_ok {n : Nat} {ρ : Rho} {w : World} {s : St} {a : Act} (sr : SR n ρ w s a) : ∀ {rs : List ResultVar} {ds : List DV}, optL (fun r => resD P r s) rs = some ds →
    ∃ vs, (rs.mapM (fun r => (resV a.tmps r))).run P w = .ok vs w ∧ DRT w s.h ρ ds vs
  | [], ds, hd => by
    simp only [optL] at hd
    cases hd
    exact ⟨[], rfl, by simp [DRepT]⟩
  | r :: rs, ds, hd => by
    simp only [optL] at hd
    cases h1 : resD P r s with
    | none => rw [h1] at hd; cases hd
    | some d =>
      rw [h1] at hd
      cases h2 : optL (fun r => resD P r s) rs with
      | none => rw [h2] at hd; cases hd
      | some ys =>
        rw [h2] at hd
        cases hd
        obtain ⟨v, hv, hdv⟩ := resD_ok sr h1
        obtain ⟨vs, hvs, hdvs⟩ := mapM_ok sr h2
        refine ⟨v :: vs, ?_, by simp only [DRepT]; exact ⟨v, vs, rfl, hdv, hdvs⟩⟩
        rw [List.mapM_cons]
        simp only [Sem.run_bind, hv, Result.andThen_ok, hvs, Sem.run_pure]
def oneOr : List Value → Value
  | [v] => v
  | vs => .tuple vs.toArray
theorem results_run {fn : Func} {tm : Array Value} {w : World} {vs : List Value} (h : (fn.results.toList.mapM (fun r => (resV tm r))).run P w = .ok vs w) :
    (Go.results fn tm).run P w = .ok (oneOr vs) w := by
  rw [results_eq, Array.mapM_eq_mapM_toList]
  simp only [map_eq_pure_bind, bind_assoc, pure_bind, Sem.run_bind, Sem.run_pure]
  rw [h]
  simp only [Result.andThen_ok]
  cases vs with
  | nil => simp [oneOr]
  | cons v vs => cases vs <;> simp [oneOr]
theorem results_ok {n : Nat} {ρ : Rho} {w : World} {s : St} {a : Act} (sr : SR n ρ w s a) {fn : Func} {d : DV} (hd : results P fn.results.toList s = some d) : ∃ v, (Go.results fn a.tmps).run P w = .ok v w ∧ DR w s.h ρ d v := by
  unfold Dv.results at hd
  split at hd
  · rename_i r hr
    obtain ⟨v, hv, hdv⟩ := resD_ok sr hd
    refine ⟨v, ?_, hdv⟩
    have := results_run (P := P) (fn := fn) (tm := a.tmps) (w := w) (vs := [v]) (by
      rw [hr, List.mapM_cons]
      simp only [Sem.run_bind, hv, Result.andThen_ok, List.mapM_nil, Sem.run_pure])
    exact this
  · rename_i rs hne
    cases h1 : optL (fun r => resD P r s) fn.results.toList with
    | none => rw [h1] at hd; cases hd
    | some ds =>
      rw [h1] at hd
      cases hd
      obtain ⟨vs, hvs, hdvs⟩ := mapM_ok sr h1
      refine ⟨_, results_run hvs, ?_⟩
      have hl := hdvs.len
      have hl2 := (optL_len h1).1
      unfold oneOr
      split
      · rename_i v
        exfalso
        have hl : ds.length = 1 := by simpa using hl.symm
        cases hrs : fn.results.toList with
        | nil => rw [hrs, hl] at hl2; simp at hl2
        | cons r rest =>
          cases rest with
          | nil => exact hne r hrs
          | cons r2 rest => rw [hrs, hl] at hl2; simp at hl2
      · exact DRep.mkTup hdvs
theorem call_ok (hE : ExtOK P G) (hL : ExtLoc G) (hC : CodeOK P) (hm : P.follows .mixedOrders = true) : ∀ k, CallsOK P (call P G k)
  | 0 => fun f zas h nx r h' n' hc => by simp [call] at hc
  | k + 1 => fun f zas h nx r h' n' hc => by
    have H := call_ok hE hL hC hm k
    simp only [call] at hc
    split at hc
    · cases hc
    · rename_i fn hf
      split at hc
      · cases hc
      · rename_i c hb
        split at hc
        · rename_i hlen
          have hle : ∃ x s, exec P G f (call P G k) k c ⟨argsT 0 zas .leaf, h, nx⟩ = some (x, s) ∧ (x = .normal ∨ x = .ret) ∧ results P fn.results.toList s = some r ∧ h' = s.h ∧ n' = s.nx := by
            split at hc
            · rename_i s hx
              cases hr : results P fn.results.toList s with
              | none => rw [hr] at hc; cases hc
              | some d => rw [hr] at hc; cases hc; exact ⟨_, s, hx, .inl rfl, hr, rfl, rfl⟩
            · rename_i s hx
              cases hr : results P fn.results.toList s with
              | none => rw [hr] at hc; cases hc
              | some d => rw [hr] at hc; cases hc; exact ⟨_, s, hx, .inr rfl, hr, rfl, rfl⟩
            · cases hc
          obtain ⟨x, s, hx, hxx, hr, rfl, rfl⟩ := hle
          intro ρ w vs inv hvs hlt
          · refine calls_of_wp hf hb ?_
            have sr : SR fn.ntmps ρ w ⟨argsT 0 zas .leaf, h, nx⟩ { tmps := vs.toArray ++ Array.replicate (fn.ntmps - vs.toArray.size) undef, defers := [] } := ⟨inv, args_tr hvs _, by have := hvs.len; simp; omega, rfl, hlt⟩
            refine exec_ok hE hL H hm c (hC f fn c hf hb) hx sr (fun a' w' hA => ?_)
            obtain ⟨ρ', sr', st, hle, al⟩ := hA
            obtain ⟨v, hv, hdv⟩ := results_ok sr' hr
            have fin : a'.defers = [] ∧ ∃ v, (Go.results fn a'.tmps).run P w' = .ok v w' ∧ ∃ v2 ρ', Ending.returned v = .returned v2 ∧ Stp ρ w h ρ' w' s.h ∧ Inv ρ' w' s.h ∧ DR w' s.h ρ' r v2 ∧ nx ≤ s.nx ∧ ∀ k, ρ'.al k → ρ.al k ∨ nx ≤ k ∧ k < s.nx := ⟨sr'.defs, v, hv, v, ρ', rfl, st, sr'.inv, hdv, hle, fun k hk => (al k hk).imp id fun h => ⟨h, sr'.lt k hk⟩⟩
            rcases hxx with rfl | rfl
            · exact fin
            · exact fin
        · cases hc
end
end Go.Proofs.YtddmnddocbmjnaaGreat.Dv
namespace Go.Proofs.YtddmnddocbmjnaaGreat.Dv
def LeC (cl cl' : CallF) : Prop := ∀ g xs h n r, cl g xs h n = some r → cl' g xs h n = some r
section
variable {P : Program} {G : Cfg} {fn : FuncId} {cl cl' : CallF}
theorem callE_mono (hc : LeC cl cl') {md : Mode} {g : FuncId} {xs : List DV} {h : PT AObj} {id : Nat} {e : Eff} (hd : callE md cl g xs h id = some e) : callE md cl' g xs h id = some e := by
  unfold callE at hd ⊢
  split at hd
  · cases hd
  · rename_i ps rd hsn
    split at hd
    · cases hd
    · rename_i r h1 n1 hcl
      simp only [hc _ _ _ _ _ hcl]
      exact hd
theorem opE_mono (hc : LeC cl cl') {o : Op} {t : PT DV} {h : PT AObj} {id : Nat} {e : Eff} (hd : opE P G fn cl o t h id = some e) : opE P G fn cl' o t h id = some e := by
  cases o
  case call c =>
    simp only [opE] at hd ⊢
    split at hd
    · exact hd
    · split at hd
      · split at hd
        · split at hd
          · rename_i hcc
            rw [if_pos hcc]
            split at hd
            · exact hd
            · cases hd
            · exact callE_mono hc hd
          · cases hd
        · cases hd
      · cases hd
    · cases hd
  case makeMap ty r => cases r <;> exact hd
  all_goals exact hd
theorem stepD_mono (hc : LeC cl cl') {o : Oper} {id : Nat} {s : St} {r : St × Log} (hd : stepD P G fn cl o id s = some r) : stepD P G fn cl' o id s = some r := by
  unfold stepD at hd ⊢
  split at hd
  · rename_i g xs hr
    split at hd
    · rename_i hcl
      simp only [hc _ _ _ _ _ hcl]
      exact hd
    · cases hd
  · split at hd
    · rename_i e he
      simp only [opE_mono hc he]
      exact hd
    · cases hd
theorem runOps_mono (hc : LeC cl cl') {ops : Array Oper} : ∀ {os : List Oper} {id : Nat} {s : St} {r : St × List Log}, runOps P G fn cl ops id os s = some r → runOps P G fn cl' ops id os s = some r
  | [], id, s, r, hd => hd
  | o :: os, id, s, r, hd => by
    simp only [runOps] at hd ⊢
    split at hd
    · split at hd
      · rename_i s' lg hst
        simp only [stepD_mono hc hst]
        split at hd
        · rename_i hrec
          simp only [runOps_mono hc hrec]
          exact hd
        · cases hd
      · cases hd
    · split at hd
      · rename_i hrec
        simp only [runOps_mono hc hrec]
        exact hd
      · cases hd
    · cases hd
theorem iter_mono {f f' : St → Option (DX × St)} (hf : ∀ s r, f s = some r → f' s = some r) : ∀ {n n' : Nat} {s : St} {r : DX × St}, n ≤ n' → iter f n s = some r → iter f' n' s = some r
  | 0, n', s, r, _, hd => by simp [iter] at hd
  | n + 1, 0, s, r, hn, _ => by omega
  | n + 1, n' + 1, s, r, hn, hd => by
    simp only [iter] at hd ⊢
    split at hd
    · rename_i s' hs
      simp only [hf _ _ hs]
      exact iter_mono hf (by omega) hd
    · rename_i hne
      rw [hf _ _ hd]
      obtain ⟨x, s'⟩ := r
      cases x with
      | normal => exact absurd hd (hne s')
      | exit id => rfl
      | ret => rfl
theorem exec_mono (hc : LeC cl cl') {k k' : Nat} (hk : k ≤ k') : ∀ (c : Code) {s : St} {r : DX × St}, exec P G fn cl k c s = some r → exec P G fn cl' k' c s = some r
  | .skip, s, r, hd => hd
  | .region id ops draw, s, r, hd => by
    simp only [exec] at hd ⊢
    split at hd
    · rename_i hr
      simp only [runOps_mono hc hr]
      exact hd
    · cases hd
  | .seq a b, s, r, hd => by
    simp only [exec] at hd ⊢
    split at hd
    · rename_i s' hs
      simp only [exec_mono hc hk a hs]
      exact exec_mono hc hk b hd
    · rename_i hne
      rw [exec_mono hc hk a hd]
      obtain ⟨x, s'⟩ := r
      cases x with
      | normal => exact absurd hd (hne s')
      | exit id => rfl
      | ret => rfl
  | .cond c a b, s, r, hd => by
    simp only [exec] at hd ⊢
    split at hd
    · exact exec_mono hc hk a hd
    · exact exec_mono hc hk b hd
    · cases hd
  | .block id c, s, r, hd => by
    simp only [exec] at hd ⊢
    split at hd
    · rename_i j s' hs
      simp only [exec_mono hc hk c hs]
      exact hd
    · rename_i hne
      rw [exec_mono hc hk c hd]
      obtain ⟨x, s'⟩ := r
      cases x with
      | normal => rfl
      | exit id => exact absurd hd (hne id s')
      | ret => rfl
  | .loop c, s, r, hd => by
    simp only [exec] at hd ⊢
    exact iter_mono (fun s r h => exec_mono hc hk c h) hk hd
  | .exit id, s, r, hd => hd
  | .ret, s, r, hd => hd
  | .goto _, s, r, hd => by simp [exec] at hd
  | .label _, s, r, hd => by simp [exec] at hd
  | .scope _, s, r, hd => by simp [exec] at hd
  | .rangeFunc .., s, r, hd => by simp [exec] at hd
  | .refuse _, s, r, hd => by simp [exec] at hd
theorem call_mono : ∀ {k k' : Nat}, k ≤ k' → LeC (call P G k) (call P G k')
  | 0, k', _ => fun g xs h n r hd => by simp [call] at hd
  | k + 1, 0, hk => by omega
  | k + 1, k' + 1, hk => fun g xs h n r hd => by
    have hc := call_mono (Nat.le_of_succ_le_succ hk)
    simp only [call] at hd ⊢
    split at hd
    · cases hd
    · split at hd
      · cases hd
      · rename_i c hb
        split at hd
        · rename_i hl
          rw [if_pos hl]
          split at hd
          · rename_i s hx
            simp only [exec_mono hc (Nat.le_of_succ_le_succ hk) c hx]
            exact hd
          · rename_i s hx
            simp only [exec_mono hc (Nat.le_of_succ_le_succ hk) c hx]
            exact hd
          · cases hd
        · cases hd
end
end Go.Proofs.YtddmnddocbmjnaaGreat.Dv
