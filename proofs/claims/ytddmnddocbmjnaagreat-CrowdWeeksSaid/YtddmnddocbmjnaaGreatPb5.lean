/- Part 5 of the proof: CrowdWeeks: whatever plain data comes in, the call returns true and leaves its arguments as they were. No condition. -/
import Derived.Test.YtddmnddocbmjnaaGreatPb4
import Derived.Orders
set_option linter.all false
set_option linter.unusedVariables false
set_option linter.unusedSectionVars false
set_option linter.unusedSimpArgs false
namespace Go.Proofs.YtddmnddocbmjnaaGreat.Dv
open Go.RowKit
section
variable {P : Program} {ρ ρ0 ρ1 : Rho} {w w1 : World} {h hf h1 : PT AObj}
def COK (P : Program) (g : FuncId) (vs : List Value) (ρ : Rho) (w : World) (h : PT AObj) (id : Nat) (e : Eff) : Prop :=
  Calls P g vs.toArray w fun en w' => ∃ v ρ', en = .returned v ∧ Stp ρ w h ρ' w' (applyUp h e.up) ∧ Inv ρ' w' (applyUp h e.up) ∧ DR w' (applyUp h e.up) ρ' e.dv v ∧ ∀ i, ρ'.al i → ρ.al i ∨ i = id
def CallsOK (P : Program) (cl : CallF) : Prop := ∀ f zas h nx r h' n', cl f zas h nx = some (r, h', n') → ∀ ρ w vs, Inv ρ w h → DRT w h ρ zas vs → (∀ k, ρ.al k → k < nx) →
  Calls P f vs.toArray w fun e w' => ∃ v ρ', e = .returned v ∧ Stp ρ w h ρ' w' h' ∧ Inv ρ' w' h' ∧ DR w' h' ρ' r v ∧ nx ≤ n' ∧ ∀ k, ρ'.al k → ρ.al k ∨ nx ≤ k ∧ k < n'
theorem applyUp_append : ∀ (a b : List (Nat × Option AObj)) (h : PT AObj), applyUp h (a ++ b) = applyUp (applyUp h a) b
  | [], b, h => rfl
  | u :: us, b, h => by simp only [List.cons_append, applyUp]; exact applyUp_append us b _
def inner (ρ : Rho) (w : World) (hf : PT AObj) : Rho := ⟨fun _ => 0, fun _ => 0, fun _ => 0, fun _ => 0, fun _ => False, fun b o => b < w.heap.size ∧ Wf hf ρ b o⟩
theorem no_wr (ρ0 : Rho) (b o : Nat) : ¬ Wr .leaf ρ0 b o := by rintro ⟨i, ob, hg, _⟩; simp at hg
theorem inner_inv (ρ : Rho) (w : World) (hf : PT AObj) : Inv (inner ρ w hf) w .leaf := ⟨fun id ob hg => by simp at hg, fun i j x y hg => by simp at hg, fun b o hb => hb.1, fun id ob o hg => by simp at hg⟩
theorem inner_fx {a : Addr} {v : Value} (hx : Fx w (Wf hf ρ) a v) : Fx w (Wf .leaf (inner ρ w hf)) a v := ⟨hx.1, hx.2.1, fun hw => hw.elim (fun h => hx.2.2 h.2) (no_wr _ _ _)⟩
theorem outer (s : Stp ρ0 w .leaf ρ1 w1 h1) : ∀ b, b < w.heap.size → w1.heap[b]? = w.heap[b]? := fun b hb => s.blocks b hb (fun o => no_wr _ _ _)
theorem Stp.over (s : Stp ρ0 w .leaf ρ1 w1 h1) (ρ : Rho) (hf : PT AObj) : Stp ρ w hf ρ w1 hf :=
  ⟨s.os, s.tape, s.output, s.size, fun b hb _ => outer s b hb, fun a ha _ => cell_of_heap (outer s _ ha), fun _ _ _ h => h, fun _ h => h, fun _ _ => ⟨rfl, rfl, rfl⟩, fun _ _ _ h => ⟨h, rfl⟩, rfl, s.dn⟩
theorem Wf.lt (inv : Inv ρ w hf) {b o : Nat} (hw : Wf hf ρ b o) : b < w.heap.size := by
  rcases hw with hw | ⟨i, ob, hg, hb, _⟩
  · exact inv.fb _ _ hw
  · rw [← hb]; exact (inv.obj i ob hg).2.1
theorem seen (inv : Inv ρ w hf) (s : Stp (inner ρ w hf) w .leaf ρ1 w1 h1) {b o : Nat} (hw : Wf hf ρ b o) : ρ1.frn b o := by
  rw [s.frn]; exact ⟨hw.lt inv, hw⟩
theorem seen_fx (inv : Inv ρ w hf) (s : Stp (inner ρ w hf) w .leaf ρ1 w1 h1) {a : Addr} {v : Value} (hx : Fx w1 (Wf h1 ρ1) a v) : Fx w1 (Wf hf ρ) a v := ⟨hx.1, hx.2.1, fun hw => hx.2.2 (.inl (seen inv s hw))⟩
theorem take_ok (inv : Inv ρ w hf) (s : Stp (inner ρ w hf) w .leaf ρ1 w1 h1) (inv1 : Inv ρ1 w1 h1) {i id : Nat} (hid : ¬ ρ.al id) {ob : AObj} (ho : h1.get i = some ob) (hblk : w.heap.size ≤ ρ1.blk i) (ob' : AObj) (e' : Nat)
    (hor : Stp ρ w hf (ρ.add id (ρ1.blk i) (ρ1.st i) (ρ1.cap i) e') w1 (hf.set id (some ob')) → OR w1 (hf.set id (some ob')) (ρ.add id (ρ1.blk i) (ρ1.st i) (ρ1.cap i) e') id ob') :
    Stp ρ w hf (ρ.add id (ρ1.blk i) (ρ1.st i) (ρ1.cap i) e') w1 (hf.set id (some ob')) ∧ Inv (ρ.add id (ρ1.blk i) (ρ1.st i) (ρ1.cap i) e') w1 (hf.set id (some ob')) := by
  have ne : ∀ j, ρ.al j → j ≠ id := fun j hj he => hid (he ▸ hj)
  have st : Stp ρ w hf (ρ.add id (ρ1.blk i) (ρ1.st i) (ρ1.cap i) e') w1 (hf.set id (some ob')) := by
    refine ⟨s.os, s.tape, s.output, s.size, fun b hb _ => outer s b hb, fun a ha _ => cell_of_heap (outer s _ ha), ?_, fun _ h => .inl h, fun j hj => ?_, ?_, rfl, s.dn⟩
    · rintro b q hb ⟨j, x, hj, hbk, hc⟩
      by_cases ej : id = j
      · subst ej
        simp only [Rho.add_blk] at hbk
        omega
      · rw [PT.get_set_ne _ _ ej] at hj
        obtain ⟨e1, e2, e3, e4⟩ := Rho.add_old (ρ := ρ) (ρ1.blk i) (ρ1.st i) (ρ1.cap i) e' (Ne.symm ej)
        rw [e1] at hbk
        refine ⟨j, x, hj, hbk, ?_⟩
        cases x <;> simp only [e2, e4] at hc ⊢ <;> exact hc
    · obtain ⟨e1, e2, e3, _⟩ := Rho.add_old (ρ := ρ) (ρ1.blk i) (ρ1.st i) (ρ1.cap i) e' (ne j hj)
      exact ⟨e1, e2, e3⟩
    · intro j k hj ht
      unfold Tp at *
      rw [PT.get_set_ne _ _ (Ne.symm (ne j hj))] at ht
      exact ⟨ht, (Rho.add_old (ρ := ρ) (ρ1.blk i) (ρ1.st i) (ρ1.cap i) e' (ne j hj)).2.2.2⟩
  refine ⟨st, inv.step st id ?_ ?_⟩
  · intro j x hne hj
    rw [PT.get_set_ne _ _ (Ne.symm hne)] at hj
    exact ⟨hj, outer s _ (inv.obj j x hj).2.1⟩
  · intro x hx
    rw [PT.get_set_same] at hx
    injection hx with hx
    subst hx
    refine ⟨Rho.add_al .., by simpa using (inv1.obj i ob ho).2.1, hor st, fun j y hne hj => ?_, fun q hq => ?_⟩
    · rw [PT.get_set_ne _ _ (Ne.symm hne)] at hj
      have := (inv.obj j y hj).2.1
      simp only [Rho.add_blk]
      omega
    · have := inv.fb _ _ hq
      simp only [Rho.add_blk] at this
      omega
def Wo (ob : AObj) (st e o : Nat) : Prop := match ob with
  | .cells _ fz => fz = false ∧ st ≤ o
  | .tip _ => st + e ≤ o
  | .map _ => True
theorem take_wf {i id : Nat} {ob' : AObj} {e' : Nat} {b o : Nat} (hw : Wf (hf.set id (some ob')) (ρ.add id (ρ1.blk i) (ρ1.st i) (ρ1.cap i) e') b o) :
    Wf hf ρ b o ∨ b = ρ1.blk i ∧ Wo ob' (ρ1.st i) e' o := by
  rcases hw with hw | ⟨j, ob, hg, hb, hc⟩
  · exact .inl (.inl hw)
  · by_cases ej : id = j
    · subst ej
      rw [PT.get_set_same] at hg
      injection hg with hg
      subst hg
      simp only [Rho.add_blk, Rho.add_st, Rho.add_ext] at hb hc
      exact .inr ⟨hb.symm, by cases ob' <;> simpa [Wo] using hc⟩
    · rw [PT.get_set_ne _ _ ej] at hg
      obtain ⟨e1, e2, e3, e4⟩ := Rho.add_old (ρ := ρ) (ρ1.blk i) (ρ1.st i) (ρ1.cap i) e' (Ne.symm ej)
      rw [e1] at hb
      refine .inl (.inr ⟨j, ob, hg, hb, ?_⟩)
      cases ob <;> simp only [e2, e4] at hc ⊢ <;> exact hc
theorem blk_new (s : Stp ρ0 w .leaf ρ1 w1 h1) {b o : Nat} (hw : Wr h1 ρ1 b o) : w.heap.size ≤ b := Nat.le_of_not_lt fun hlt => no_wr _ _ _ (s.wr b o hlt hw)
theorem own_ok (inv : Inv ρ w hf) (s : Stp (inner ρ w hf) w .leaf ρ1 w1 h1) (inv1 : Inv ρ1 w1 h1) {id : Nat} (hid : ¬ ρ.al id) {ar : Bool} {r : DV} {rd : List Nat} {fz : List (Nat × Option AObj)} (hfz : applyUp h fz = hf) {e : Eff} (hd : own ar h1 r id rd fz = some e)
    {v : Value} (hr : DR w1 h1 ρ1 r v) : ∃ ρ', Stp ρ w hf ρ' w1 (applyUp h e.up) ∧ Inv ρ' w1 (applyUp h e.up) ∧ DR w1 (applyUp h e.up) ρ' e.dv v ∧ ∀ i, ρ'.al i → ρ.al i ∨ i = id := by
  have so := s.over ρ hf
  have io : Inv ρ w1 hf := inv.same so (outer s)
  unfold own at hd
  split at hd
  · cases hd
    simp only [hfz]
    exact ⟨ρ, so, io, by simpa [DRep] using hr, fun i hi => .inl hi⟩
  · cases hd
    simp only [hfz]
    exact ⟨ρ, so, io, by simpa [DRep] using hr, fun i hi => .inl hi⟩
  · rename_i i l
    split at hd
    · rename_i k ho
      simp only [DRep] at hr
      obtain ⟨hal, hp, hT⟩ := hr
      obtain ⟨c, rfl, hlc, hel, hext, hcap⟩ := hT k ho
      have wr1 : ∀ o, ρ1.st i + ρ1.ext i ≤ o → Wr h1 ρ1 (ρ1.blk i) o := fun o hle => ⟨i, _, ho, rfl, hle⟩
      have hblk := blk_new s (wr1 _ (Nat.le_refl _))
      obtain ⟨_, _, arr, T, hg, hsz⟩ := inv1.obj i _ ho
      split at hd
      · rename_i har
        split at hd
        · cases hd
        · rename_i d ds
          split at hd
          · cases hd
          · rename_i hnr
            have hnr : PDV.refL ((d :: ds).flatMap PDV.cells) = false := by simpa using hnr
            obtain ⟨vs, hvl, hvlen, hcell⟩ := PRepE.flat hel
            have arrget : ∀ (j : Nat) (v : Value), vs[j]? = some v → arr[ρ1.st i + j]? = some v := by
              intro j v hj
              have h3 := (hcell j v hj).2.1
              rw [add_lit0] at h3
              simp only [World.cell?, hg, Option.isSome_none, Bool.false_eq_true, if_false, Nat.zero_add] at h3
              exact h3
            have fin : ∀ (es : Option Nat), esK es = k → ∃ ρ', Stp ρ w hf ρ' w1 (hf.set id (some (.cells (flatC (d :: ds)) false))) ∧ Inv ρ' w1 (hf.set id (some (.cells (flatC (d :: ds)) false))) ∧ DR w1 (hf.set id (some (.cells (flatC (d :: ds)) false))) ρ' (.ms id 0 (d :: ds).length (d :: ds).length es) (.slice (some ⟨ρ1.blk i, ρ1.st i, none⟩) (d :: ds).length c) ∧ ∀ i, ρ'.al i → ρ.al i ∨ i = id := by
              intro es hes
              obtain ⟨st, i2⟩ := take_ok inv s inv1 hid ho hblk (.cells (flatC (d :: ds)) false) 0 (fun _ => by
                simp only [OR, Rho.add_blk, Rho.add_st, Rho.add_cap]
                exact ⟨arr, T, vs, hg, hsz, DRepL.of_plain (PRepL.noref hnr hvl), arrget⟩)
              refine ⟨_, st, i2, ?_, fun _ hi => hi⟩
              simp only [DRep, Rho.add_blk, Rho.add_st, Rho.add_cap]
              refine ⟨Rho.add_al .., c, rfl, Nat.le_refl _, hlc, ?_⟩
              unfold esK at hes
              rw [hes]
              omega
            split at hd
            · cases hd
              simp only [applyUp_append, hfz, applyUp]
              exact fin (some k) rfl
            · split at hd
              · rename_i hk1
                cases hd
                simp only [applyUp_append, hfz, applyUp]
                exact fin none hk1.symm
              · cases hd
      · rename_i har
        cases hd
        simp only [applyUp_append, hfz, applyUp]
        obtain ⟨st, i2⟩ := take_ok inv s inv1 hid ho hblk (.tip k) (ρ1.ext i) (fun _ => by
          simp only [OR, Rho.add_blk, Rho.add_st, Rho.add_cap]
          exact ⟨arr, T, hg, hsz⟩)
        refine ⟨_, st, i2, ?_, fun _ hi => hi⟩
        have mono : ∀ a v, Fx w1 (Wf h1 ρ1) a v → Fx w1 (Wf (hf.set id (some (.tip k))) (ρ.add id (ρ1.blk i) (ρ1.st i) (ρ1.cap i) (ρ1.ext i))) a v := fun a v hx => ⟨hx.1, hx.2.1, fun hw => by
          rcases take_wf hw with hw | ⟨hb, hc⟩
          · exact hx.2.2 (.inl (seen inv s hw))
          · exact hx.2.2 (.inr (hb ▸ wr1 _ hc))⟩
        simp only [DRep, Rho.add_blk, Rho.add_st, Rho.add_cap, Rho.add_ext]
        refine ⟨Rho.add_al .., PRep.mono mono _ _ hp, fun k' hk' => ?_⟩
        unfold Tp at hk'
        rw [PT.get_set_same] at hk'
        injection hk' with hk'
        injection hk' with hk'
        subst hk'
        exact ⟨c, rfl, hlc, PRepE.mono mono _ _ _ _ hel, hext, hcap⟩
    · cases hd
  · rename_i i n av es
    split at hd
    · rename_i cs ho
      split at hd
      · rename_i ps rd1 hsn
        split at hd
        · cases hd
        · rename_i hni
          have hni : i ∉ rd1 := by simpa using hni
          cases hd
          simp only [applyUp_append, hfz, applyUp]
          simp only [DRep] at hr
          obtain ⟨hal, c, rfl, hla, hac, hcap⟩ := hr
          have wr1 : ∀ o, ρ1.st i ≤ o → Wr h1 ρ1 (ρ1.blk i) o := fun o hle => ⟨i, _, ho, rfl, rfl, hle⟩
          have hblk := blk_new s (wr1 _ (Nat.le_refl _))
          obtain ⟨_, arr, T, vs, hg, hsz, hv, ha, hcl⟩ := obj_cells inv1 ho
          have mono : ∀ a v, Fx w1 (Wf h1 ρ1) a v → Fx w1 (Wf (hf.set id (some (.cells (ps.map .p) false))) (ρ.add id (ρ1.blk i) (ρ1.st i) (ρ1.cap i) 0)) a v := fun a v hx => ⟨hx.1, hx.2.1, fun hw => by
            rcases take_wf hw with hw | ⟨hb, hc⟩
            · exact hx.2.2 (.inl (seen inv s hw))
            · exact hx.2.2 (.inr (hb ▸ wr1 _ hc.2))⟩
          have hpl := snapL_L hsn (G := Fx w1 (Wf (hf.set id (some (.cells (ps.map .p) false))) (ρ.add id (ρ1.blk i) (ρ1.st i) (ρ1.cap i) 0))) (fun d _ q r' hq hr v hv => snapF_ok inv1 mono 40 hq (fun j hj cs' fz' ho' o v' hle hc' => ⟨(inv1.obj j _ ho').2.1, hc', fun hw => by
            rcases take_wf hw with hw | ⟨hb, hc⟩
            · exact inv1.fd j _ o ho' (seen inv s hw)
            · have := inv1.inj j i _ _ ho' ho hb
              exact hni (this ▸ hr j hj)⟩) hv) hv
          obtain ⟨st, i2⟩ := take_ok inv s inv1 hid ho hblk (.cells (ps.map .p) false) 0 (fun _ => by
            simp only [OR, Rho.add_blk, Rho.add_st, Rho.add_cap]
            exact ⟨arr, T, vs, hg, hsz, DRepL.of_plain hpl, ha⟩)
          refine ⟨_, st, i2, ?_, fun _ hi => hi⟩
          simp only [DRep, Rho.add_blk, Rho.add_st, Rho.add_cap]
          exact ⟨Rho.add_al .., c, rfl, hla, hac, hcap⟩
      · cases hd
    · cases hd
  · cases hd
theorem callE_ok (inv : Inv ρ w h) {id : Nat} (hid : ¬ ρ.al id) {cl : CallF} (H : CallsOK P cl) {md : Mode} {g : FuncId} {zas : List DV} {e : Eff} (hd : callE md cl g zas h id = some e) {vs : List Value} (ha : DRT w h ρ zas vs) : COK P g vs ρ w h id e := by
  unfold callE at hd
  split at hd
  · cases hd
  · rename_i ps rd hsn
    split at hd
    · cases hd
    · rename_i r h1 n1 hcl
      obtain ⟨sf, invf, hfr, hfz⟩ := freeze_ok (h := h) rd inv (fun j => .inl rfl)
      generalize hhf : applyUp h (freeze h rd) = hf at sf invf hfr hfz
      have hargs : PRepT (Fx w (Wf hf ρ)) ps vs := snapL_T hsn (fun d _ q r' hq hr v hv => snapF_ok inv (fun a v hx => sf.fx a v hx) 40 hq (fun i hi cs fz ho o v' hle hc' => by
        have hz := hfz i (.inl (hr i hi)) cs fz ho
        refine ⟨(inv.obj i _ ho).2.1, hc', ?_⟩
        rintro (hw | ⟨j, ob, hj, hb, hw⟩)
        · exact inv.fd i _ o ho hw
        · have := invf.inj j i _ _ hj hz hb
          subst this
          rw [hz] at hj
          injection hj with hj
          subst hj
          cases hw.1) hv) ha
      have hcall := H _ _ _ _ _ _ _ hcl
      have hc := hcall (inner ρ w hf) w vs (inner_inv ρ w hf) (DRepT.of_plain (PRepT.mono (fun a v hx => inner_fx hx) _ _ hargs)) (fun k hk => hk.elim)
      refine Calls.mono hc ?_
      rintro en w1 ⟨v, ρ1, hen, s, inv1, hr, _⟩
      have so := s.over ρ hf
      have io : Inv ρ w1 hf := invf.same so (outer s)
      have ow : ∀ ar, own ar h1 r id rd (freeze h rd) = some e → ∃ v ρ', en = .returned v ∧ Stp ρ w h ρ' w1 (applyUp h e.up) ∧ Inv ρ' w1 (applyUp h e.up) ∧ DR w1 (applyUp h e.up) ρ' e.dv v ∧ ∀ i, ρ'.al i → ρ.al i ∨ i = id := by
        intro ar he
        obtain ⟨ρ', s2, i2, d2, a2⟩ := own_ok invf s inv1 hid hhf he hr
        exact ⟨v, ρ', hen, sf.trans s2, i2, d2, a2⟩
      cases md with
      | pure =>
        simp only at hd
        split at hd
        · rename_i q rd1 hq
          cases hd
          have hp : PRep (Fx w1 (Wf hf ρ)) q v := snapF_ok inv1 (fun a v hx => seen_fx invf s hx) 40 hq (fun j hj cs' fz' ho' o v' hle hc' => ⟨(inv1.obj j _ ho').2.1, hc', fun hw => inv1.fd j _ o ho' (seen invf s hw)⟩) hr
          cases hqr : q.ref with
          | true =>
            refine ⟨v, ρ, hen, ?_, ?_, ?_, fun i hi => .inl hi⟩ <;> simp only [if_true, hhf]
            · exact sf.trans so
            · exact io
            · exact hp
          | false =>
            have so' := s.over ρ h
            refine ⟨v, ρ, hen, ?_, ?_, ?_, fun i hi => .inl hi⟩ <;> simp only [Bool.false_eq_true, if_false, applyUp]
            · exact so'
            · exact inv.same so' (outer s)
            · exact PRep.noref hqr hp
        · cases hd
      | ownT => exact ow false hd
      | ownA => exact ow true hd
      | ref => cases hd
      | ext => cases hd
end
end Go.Proofs.YtddmnddocbmjnaaGreat.Dv
namespace Go.Proofs.YtddmnddocbmjnaaGreat.Dv
open Go.RowKit
section
variable {P : Program} {ρ : Rho} {w : World} {h : PT AObj}
theorem clr_ok (inv : Inv ρ w h) {t : TypeId} {x : DV} {e : Eff} (hd : clr P t x h = some e) {vx : Value} (hx : DR w h ρ x vx) (ts : List TypeId) (ty : TypeId) (xs : List Value) :
    ∃ w', (Builtin.clear_ (t :: ts).toArray ty (vx :: xs).toArray).run P w = .ok (.tuple #[]) w' ∧ Stp ρ w h ρ w' (applyUp h e.up) ∧ Inv ρ w' (applyUp h e.up) ∧ e.dv = udf := by
  have zero : ∀ {el : TypeId} (_ : P.underlying t = some (.slice el)) (ad : Option Addr) (c : Nat), vx = .slice ad 0 c → (Builtin.clear_ (t :: ts).toArray ty (vx :: xs).toArray).run P w = .ok (.tuple #[]) w := by
    intro el hu ad c hv
    subst hv
    cases ad <;> simp [Builtin.clear_, run_underlying hu]
  have fin : ∀ {el : TypeId} (_ : P.underlying t = some (.slice el)) (ad : Option Addr) (c : Nat), vx = .slice ad 0 c → unitE = some e → ∃ w', (Builtin.clear_ (t :: ts).toArray ty (vx :: xs).toArray).run P w = .ok (.tuple #[]) w' ∧ Stp ρ w h ρ w' (applyUp h e.up) ∧ Inv ρ w' (applyUp h e.up) ∧ e.dv = udf := by
    intro el hu ad c hv he
    unfold unitE at he
    cases he
    exact ⟨w, zero hu ad c hv, Stp.refl _ _ _, inv, rfl⟩
  unfold clr at hd
  split at hd
  · rename_i hu
    simp only [DRep] at hx
    exact fin hu none 0 hx hd
  · rename_i hu
    simp only [DRep] at hx
    obtain ⟨a, hx⟩ := hx
    exact fin hu a 0 hx hd
  · rename_i hu
    simp only [DRep, PRep] at hx
    obtain ⟨a, c, sz, hx, _⟩ := hx
    exact fin hu a c (by simpa using hx) hd
  · rename_i hu
    simp only [DRep] at hx
    obtain ⟨_, c, hx, _⟩ := hx
    exact fin hu _ c hx hd
  · rename_i el i off n av es hne hu
    split at hd
    · rename_i z c hz ho
      split at hd
      · rename_i hc
        obtain ⟨hzl, hpos, hle⟩ := hc
        cases hd
        simp only [DRep] at hx
        obtain ⟨hal, cp, rfl, hla, hac, hcap⟩ := hx
        have hn0 : n ≠ 0 := fun e => by subst e; simp at hne
        obtain ⟨inf, v, hi, hv, _, hzr⟩ := zeroT_ok hz
        obtain ⟨_, arr, T, vs, h1, h2, h3, h4, _⟩ := obj_cells inv ho
        have hvz : v.cells.size = esK es := by have := (hzr (F := Fx w (Wf h ρ)) (ρ := ρ) (T := Tp h)).len; simpa [hzl] using this
        have hzc := zc_cells (n := n) hvz hpos
        have hvl : vs.length = c.length := h3.len
        have hzlen : (zerosV v.cells.toList n).length = n * esK es := by rw [zerosV_len]; simp [hvz]
        have hcapv : vs.length ≤ ρ.cap i := by
          by_cases hzz : vs.length = 0
          · omega
          · have := h4 (vs.length - 1) (vs[vs.length - 1]'(by omega)) (List.getElem?_eq_getElem (by omega))
            have := (Array.getElem?_eq_some_iff.1 this).1
            omega
        have hfit : ρ.st i + off + 0 + (zerosV v.cells.toList n).length ≤ arr.size := by rw [hzlen]; omega
        have hzz : DRL w h ρ (zeros z n) (zerosV v.cells.toList n) := zeros_rep hzr n
        have hst := run_storeCells_at P (ρ.blk i) (ρ.st i + off) T (zerosV v.cells.toList n) 0 arr w h1 hfit (scal_of hzz)
        rw [setRow_shape] at hst
        have hsz : ((setAt arr.toList (ρ.st i + off) (zerosV v.cells.toList n)).toArray).size = arr.size := by
          simp only [List.size_toArray]
          rw [setAt_len _ _ _ (by simpa using hfit)]
          simp
        obtain ⟨s, i2⟩ := write_cells inv ho h1 hsz (fun o hlt => by
            simp only [List.getElem?_toArray]
            rw [setAt_get _ _ _ (by simp; omega), if_pos (by omega)]
            simp) (DRepL.setAt h3 hzz off) (fun j v' hj => by
            have := setAt_arr (arr := arr.toList) (st := ρ.st i) (xs := zerosV v.cells.toList n) (fun j v hj => by simpa using h4 j v hj) (by omega) (by simp; omega) j v' hj
            simpa using this)
        refine ⟨_, ?_, s, i2, rfl⟩
        have hzr2 := zeroT_run (P := P) hi hv w
        obtain ⟨n', rfl⟩ : ∃ n', n = n' + 1 := ⟨n - 1, by omega⟩
        simp only [Builtin.clear_, List.getElem?_toArray, List.getElem?_cons_zero, Sem.run_bind, run_underlying hu, Result.andThen_ok, hzr2, hzc]
        simp [hst]
      · cases hd
    · cases hd
  · cases hd
theorem optL_len {α β : Type} {f : α → Option β} : ∀ {l : List α} {r : List β}, optL f l = some r → r.length = l.length ∧ ∀ (j : Nat) (a : α), l[j]? = some a → ∃ b, r[j]? = some b ∧ f a = some b
  | [], r, h => by simp [optL] at h; subst h; simp
  | x :: xs, r, h => by
    simp only [optL] at h
    cases h1 : f x with
    | none => rw [h1] at h; cases h
    | some d =>
      rw [h1] at h
      cases h2 : optL f xs with
      | none => rw [h2] at h; cases h
      | some ys =>
        rw [h2] at h
        cases h
        obtain ⟨hl, hr⟩ := optL_len h2
        refine ⟨by simp [hl], fun j a hj => ?_⟩
        cases j with
        | zero => simp at hj; subst hj; exact ⟨d, by simp, h1⟩
        | succ j => simp at hj; simpa using hr j a hj
theorem evp_ok {t : PT DV} {a : Act} (ht : TR (Fx w (Wf h ρ)) ρ (Tp h) t a.tmps) {ps : List (Nat × Operand)} {l : List (Nat × DV)} (hl : evp t ps = some l) :
    l.length = (ps.map fun p => (p.1, a.eval p.2)).length ∧ ∀ (j : Nat) (p : Nat × DV) (q : Nat × Value), l[j]? = some p → (ps.map fun p => (p.1, a.eval p.2))[j]? = some q → p.1 = q.1 ∧ DR w h ρ p.2 q.2 := by
  obtain ⟨h1, h2⟩ := optL_len hl
  refine ⟨by simp [h1], fun j p q hp hq => ?_⟩
  rw [List.getElem?_map] at hq
  cases hj : ps[j]? with
  | none => rw [hj] at hq; cases hq
  | some x =>
    rw [hj] at hq
    cases hq
    obtain ⟨b, hb, hf⟩ := h2 j x hj
    rw [hp] at hb
    cases hb
    cases he : ev t x.2 with
    | none => rw [he] at hf; cases hf
    | some d =>
      rw [he] at hf
      cases hf
      exact ⟨rfl, ev_ok ht he⟩
def Post (ρ : Rho) (w : World) (h : PT AObj) (id : Nat) (e : Eff) (v : Value) (w' : World) : Prop := ∃ ρ', Stp ρ w h ρ' w' (applyUp h e.up) ∧ Inv ρ' w' (applyUp h e.up) ∧ DR w' (applyUp h e.up) ρ' e.dv v ∧ ∀ i, ρ'.al i → ρ.al i ∨ i = id
section
variable {o : Oper} {a : Act} {K : Act → World → Prop} {Q : Exit → Act → World → Prop} {id : Nat} {e : Eff} (hK : ∀ v w', Post ρ w h id e v w' → K (a.put o.dst v) w')
include hK
theorem wp_val {s : Sem Value} (he : execOp a.eval o = (do pure (.value (← s)))) (hv : VOK P s ρ w h id e) : o.wp P a w K Q := by
  obtain ⟨v, w', ρ', hr, h1, h2, h3, h4⟩ := hv
  simp only [Oper.wp, he, Sem.run_bind, hr, Result.andThen_ok, Sem.run_pure, Oper.upon]
  exact hK v w' ⟨ρ', h1, h2, h3, h4⟩
theorem wp_pureV {s : Sem Value} (inv : Inv ρ w h) (he : execOp a.eval o = (do pure (.value (← s)))) {v : Value} (hr : s.run P w = .ok v w) (hd : DR w h ρ e.dv v) (hu : e.up = []) : o.wp P a w K Q :=
  wp_val hK he (VOK.pure inv hr hd hu)
theorem wp_unit {s : Sem Unit} (he : execOp a.eval o = (do s; pure .skip)) (hv : ∃ w', s.run P w = .ok () w' ∧ Stp ρ w h ρ w' (applyUp h e.up) ∧ Inv ρ w' (applyUp h e.up) ∧ e.dv = udf) : o.wp P a w K Q := by
  obtain ⟨w', hr, h1, h2, h3⟩ := hv
  simp only [Oper.wp, he, Sem.run_bind, hr, Result.andThen_ok, Sem.run_pure, Oper.upon]
  exact hK undef w' ⟨ρ, h1, h2, by rw [h3]; exact udf_rep, fun i hi => .inl hi⟩
theorem wp_call {g : FuncId} {vs : List Value} (he : (execOp a.eval o).run P w = .ok (.enter g vs.toArray) w) (hc : COK P g vs ρ w h id e) : o.wp P a w K Q := by
  simp only [Oper.wp, he, Oper.upon]
  refine Calls.mono hc ?_
  rintro en w' ⟨v, ρ', rfl, h1, h2, h3, h4⟩
  exact hK v w' ⟨ρ', h1, h2, h3, h4⟩
end
theorem callable_run {g : FuncId} (hc : callable P g = true) (args : Array Value) (w : World) : (callFunc g args).run P w = .ok (.enter g args) w := by
  unfold callable at hc
  split at hc
  · rename_i fn hf
    simp only [Bool.and_eq_true, bne_iff_ne, ne_eq] at hc
    obtain ⟨h1, h2⟩ := hc
    cases hb : fn.body with
    | none => rw [hb] at h2; cases h2
    | some c => simp [callFunc, hf, h1, hb]
  · cases hc
theorem target_run {f : DV} {zas : List DV} {g : FuncId} {xs : List DV} (hd : target f zas = some (g, xs)) {fv : Value} {vs : List Value} (hf : DR w h ρ f fv) (ha : DRT w h ρ zas vs) :
    ∃ us : List Value, DRT w h ρ xs us ∧ ∀ (args : Array Value), args = vs.toArray → ∃ d, (Deferred.ofValue fv args).run P w = .ok d w ∧ (callable P g = true → (invoke d.target d.args).run P w = .ok (.enter g us.toArray) w) := by
  unfold target at hd
  split at hd
  · rename_i fi ca
    split at hd
    · rename_i hz
      obtain ⟨h1, h2⟩ := hz
      cases hd
      simp only [DRep, PRep] at hf
      obtain ⟨rfl, _⟩ := hf
      refine ⟨vs, ha, fun args hargs => ⟨_, rfl, fun hc => ?_⟩⟩
      have e1 : fi = #[] := by simpa using h1
      have e2 : ca = #[] := by simpa using h2
      subst e1 e2 hargs
      simp [invoke, callable_run hc]
    · cases hd
  · cases hd
    simp only [DRep, PRep] at hf
    obtain ⟨f, c, rfl, h1, h2⟩ := hf
    refine ⟨f ++ vs ++ c, DRepT.append (DRepT.append (DRepT.of_plain h1) ha) (DRepT.of_plain h2), fun args hargs => ⟨_, rfl, fun hc => ?_⟩⟩
    subst hargs
    simp [invoke, callable_run hc]
  · cases hd
    simp only [DRep] at hf
    obtain ⟨f, c, rfl, h1, h2⟩ := hf
    refine ⟨f ++ vs ++ c, DRepT.append (DRepT.append h1 ha) h2, fun args hargs => ⟨_, rfl, fun hc => ?_⟩⟩
    subst hargs
    simp [invoke, callable_run hc]
  · cases hd
def ExtOK (P : Program) (G : Cfg) : Prop := ∀ g F, G.ext g = some F → ∀ xs h id e, F xs h id = some e → ∀ ρ w vs, Inv ρ w h → ¬ ρ.al id → DRT w h ρ xs vs → COK P g vs ρ w h id e
end
end Go.Proofs.YtddmnddocbmjnaaGreat.Dv
namespace Go.Proofs.YtddmnddocbmjnaaGreat.Dv
open Go.RowKit
section
variable {P : Program} {ρ : Rho} {w : World} {h : PT AObj}
theorem okE_eq {d : DV} {e : Eff} (h : okE d = some e) : e = { dv := d } := by unfold okE at h; cases h; rfl
theorem bind2 {α β : Type} {x : Option α} {f : α → Option β} {b : β} (h : x.bind f = some b) : ∃ a, x = some a ∧ f a = some b := Option.bind_eq_some_iff.1 h
theorem parts_eq (a : Act) (ps : Array (Nat × Operand)) : (ps.map fun (i, x) => (i, a.eval x)) = (ps.toList.map fun p => (p.1, a.eval p.2)).toArray := by
  apply Array.ext'
  simp
theorem args_eq (a : Act) (xs : Array Operand) : xs.map a.eval = (xs.toList.map a.eval).toArray := by
  apply Array.ext'
  simp
theorem hd_opt {t : PT DV} {a : Act} (ht : TR (Fx w (Wf h ρ)) ρ (Tp h) t a.tmps) {x : Option Operand} {l : List DV} (hl : optL (ev t) x.toList = some l) :
    (∀ d, l.head? = some d → ∃ v, x.map a.eval = some v ∧ DR w h ρ d v) ∧ (l.head? = none → x.map a.eval = none) := by
  cases x with
  | none => simp only [Option.toList, optL] at hl; cases hl; exact ⟨fun d hd => by simp at hd, fun _ => rfl⟩
  | some x =>
    simp only [Option.toList, optL] at hl
    cases hx : ev t x with
    | none => rw [hx] at hl; cases hl
    | some d =>
      rw [hx] at hl
      cases hl
      exact ⟨fun d' hd' => by simp at hd'; subst hd'; exact ⟨_, rfl, ev_ok ht hx⟩, fun hn => by simp at hn⟩
theorem wp_run {o : Oper} {a : Act} {K : Act → World → Prop} {Q : Exit → Act → World → Prop} {id : Nat} {e : Eff} (hK : ∀ v w', Post ρ w h id e v w' → K (a.put o.dst v) w') (inv : Inv ρ w h) {v : Value} (hr : (execOp a.eval o).run P w = .ok (.value v) w) (hd : DR w h ρ e.dv v) (hu : e.up = []) : o.wp P a w K Q := by
  simp only [Oper.wp, hr, Oper.upon]
  refine hK v w ⟨ρ, ?_, ?_, ?_, fun i hi => .inl hi⟩ <;> rw [hu]
  · exact Stp.refl _ _ _
  · exact inv
  · exact hd
theorem builtin_ok (inv : Inv ρ w h) {id : Nat} (hid : ¬ ρ.al id) {ar : Bool} {b : Builtin} {ts : List TypeId} {zas : List DV} {e : Eff} (hd : builtinD P ar b ts zas h id = some e) {vs : List Value} (ha : DRT w h ρ zas vs) (ty : TypeId) (cs : Array Bool) :
    ∃ s : Sem Value, builtin b ts.toArray ty cs vs.toArray = (do pure (.value (← s))) ∧ VOK P s ρ w h id e := by
  unfold builtinD at hd
  split at hd
  · split at hd
    · rename_i t ts' x xs
      cases hl : lenD P t x h with
      | none => rw [hl] at hd; cases hd
      | some r =>
        rw [hl] at hd
        cases hd
        simp only [DRepT] at ha
        obtain ⟨v, vs', rfl, hv, _⟩ := ha
        exact ⟨_, rfl, VOK.pure inv (lenD_ok inv hl hv ts' ty vs') (i_rep _ _) rfl⟩
    · cases hd
  · split at hd
    · rename_i t ts' x xs
      simp only [DRepT] at ha
      obtain ⟨v, vs', rfl, hv, _⟩ := ha
      split at hd
      · rename_i hu
        have := okE_eq hd
        subst this
        simp only [DRep] at hv
        subst hv
        exact ⟨_, rfl, VOK.pure inv (v := .int .i64 0) (by simp [Builtin.cap_, run_underlying hu, goInt]) (i_rep _ _) rfl⟩
      · rename_i hu
        have := okE_eq hd
        subst this
        simp only [DRep] at hv
        obtain ⟨ad, rfl⟩ := hv
        exact ⟨_, rfl, VOK.pure inv (v := .int .i64 0) (by simp [Builtin.cap_, run_underlying hu, goInt]) (i_rep _ _) rfl⟩
      · cases hd
    · cases hd
  · split at hd
    · rename_i a x xs
      simp only [DRepT] at ha
      obtain ⟨va, vs', rfl, hva, vx, vs2, rfl, hvx, _⟩ := ha
      exact ⟨_, rfl, app_ok inv hid hd hva hvx ty vs2⟩
    · cases hd
  · split at hd
    · rename_i x xs
      obtain ⟨d, h1, h2⟩ := bind2 hd
      have := okE_eq h2
      subst this
      simp only [DRepT] at ha
      obtain ⟨v, vs', rfl, hv, hvs⟩ := ha
      obtain ⟨r, hr, hrr⟩ := fold_mx (P := P) h1 hv hvs
      exact ⟨_, rfl, VOK.pure inv (v := r) (by simpa [Builtin.max_] using hr) hrr rfl⟩
    · cases hd
  · split at hd
    · rename_i x xs
      obtain ⟨d, h1, h2⟩ := bind2 hd
      have := okE_eq h2
      subst this
      simp only [DRepT] at ha
      obtain ⟨v, vs', rfl, hv, hvs⟩ := ha
      obtain ⟨r, hr, hrr⟩ := fold_mx (P := P) h1 hv hvs
      exact ⟨_, rfl, VOK.pure inv (v := r) (by simpa [Builtin.min_] using hr) hrr rfl⟩
    · cases hd
  · split at hd
    · rename_i t ts' x xs
      simp only [DRepT] at ha
      obtain ⟨v, vs', rfl, hv, _⟩ := ha
      obtain ⟨w', hr, s, i2, hu⟩ := clr_ok inv hd hv ts' ty vs'
      exact ⟨_, rfl, .tuple #[], w', ρ, hr, s, i2, by rw [hu]; exact udf_rep, fun i hi => .inl hi⟩
    · cases hd
  · cases hd
theorem opE_ok {G : Cfg} (hE : ExtOK P G) {fn : FuncId} {cl : CallF} (H : CallsOK P cl) (inv : Inv ρ w h) {id : Nat} (hid : ¬ ρ.al id) {o : Oper} {t : PT DV} {a : Act} (ht : TR (Fx w (Wf h ρ)) ρ (Tp h) t a.tmps) {e : Eff}
    (hd : opE P G fn cl o.op t h id = some e) {K : Act → World → Prop} {Q : Exit → Act → World → Prop} (hK : ∀ v w', Post ρ w h id e v w' → K (a.put o.dst v) w') : o.wp P a w K Q := by
  obtain ⟨dst, op, type, pos, after, guard⟩ := o
  cases op
  case move x =>
    obtain ⟨d, h1, h2⟩ := bind2 hd
    have := okE_eq h2
    subst this
    exact wp_pureV hK (s := pure (a.eval x)) inv rfl (v := a.eval x) rfl (ev_ok ht h1) rfl
  case assign x =>
    obtain ⟨d, h1, h2⟩ := bind2 hd
    have := okE_eq h2
    subst this
    exact wp_pureV hK (s := pure (a.eval x)) inv rfl (v := a.eval x) rfl (ev_ok ht h1) rfl
  case pick c x y =>
    simp only [opE] at hd
    split at hd
    · rename_i x' y' hc hx hy
      obtain ⟨d, h1, h2⟩ := bind2 hc
      have := okE_eq hd
      subst this
      exact wp_run hK inv (v := a.eval x) (by simp only [execOp]; rw [asB_ok h2 (ev_ok ht h1)]; simp [asBool]) (ev_ok ht hx) rfl
    · rename_i x' y' hc hx hy
      obtain ⟨d, h1, h2⟩ := bind2 hc
      have := okE_eq hd
      subst this
      exact wp_run hK inv (v := a.eval y) (by simp only [execOp]; rw [asB_ok h2 (ev_ok ht h1)]; simp [asBool]) (ev_ok ht hy) rfl
    · cases hd
  case alloc el =>
    obtain ⟨z, h1, h2⟩ := bind2 hd
    cases h2
    exact wp_val hK rfl (alloc_ok inv hid h1)
  case box el x =>
    obtain ⟨d, h1, h2⟩ := bind2 hd
    split at h2
    · cases h2
    · rename_i hn
      cases h2
      exact wp_val hK rfl (box_ok inv hid el (by simpa using hn) (ev_ok ht h1))
  case build ty ps =>
    obtain ⟨d, h1, h2⟩ := bind2 hd
    obtain ⟨l, h3, h4⟩ := bind2 h1
    have := okE_eq h2
    subst this
    obtain ⟨hl, hr⟩ := evp_ok ht h3
    obtain ⟨v, hv, hdv⟩ := bld_ok h4 hl hr
    exact wp_pureV hK inv (by simp only [execOp]; rw [parts_eq]) hv hdv rfl
  case buildSlice ty n ps =>
    obtain ⟨l, h3, h4⟩ := bind2 hd
    obtain ⟨hl, hr⟩ := evp_ok ht h3
    exact wp_val hK (by simp only [execOp]; rw [parts_eq]) (bldS_ok inv hid h4 hl hr)
  case load ty x =>
    obtain ⟨d, h1, h2⟩ := bind2 hd
    obtain ⟨v, hv, hdv, hu⟩ := ld_ok inv h2 (ev_ok ht h1)
    exact wp_pureV hK inv rfl hv hdv hu
  case store ty x y =>
    simp only [opE] at hd
    split at hd
    · rename_i p v hp hv
      exact wp_unit hK rfl (sto_ok inv hd (ev_ok ht hp) (ev_ok ht hv))
    · cases hd
  case nilCheck x =>
    simp only [opE] at hd
    split at hd
    · rename_i i o hx
      have hev := ev_ok ht hx
      have := okE_eq hd
      subst this
      have hv := hev
      simp only [DRep] at hv
      exact wp_pureV hK (s := pure (a.eval x)) inv (by simp only [execOp]; rw [hv.2]; rfl) (v := a.eval x) rfl hev rfl
    · rename_i l hx
      have hev := ev_ok ht hx
      have := okE_eq hd
      subst this
      have hv := hev
      simp only [DRep, PRep] at hv
      obtain ⟨ad, xs, hv, _⟩ := hv
      exact wp_pureV hK (s := pure (a.eval x)) inv (by simp only [execOp]; rw [hv]; rfl) (v := a.eval x) rfl hev rfl
    · cases hd
  case binOp op ty x y b =>
    simp only [opE] at hd
    split at hd
    · rename_i d1 d2 hx hy
      obtain ⟨d, h1, h2⟩ := bind2 hd
      have := okE_eq h2
      subst this
      obtain ⟨v, hv, hg, hdv⟩ := bin_ok h1 (ev_ok ht hx) (ev_ok ht hy) x y
      exact wp_pureV hK (s := do eqGuard op ty x y (a.eval x) (a.eval y); binOp op ty (a.eval x) (a.eval y)) inv rfl (by simp only [Sem.run_bind, hg, Result.andThen_ok, hv]) hdv rfl
    · cases hd
  case unOp op ty x =>
    obtain ⟨d, h1, h2⟩ := bind2 hd
    obtain ⟨d1, h3, h4⟩ := bind2 h1
    have := okE_eq h2
    subst this
    obtain ⟨v, hv, hdv⟩ := un_ok (P := P) h4 (ev_ok ht h3)
    exact wp_pureV hK inv rfl hv hdv rfl
  case convert s d x =>
    obtain ⟨d, h1, h2⟩ := bind2 hd
    obtain ⟨d1, h3, h4⟩ := bind2 h1
    have := okE_eq h2
    subst this
    obtain ⟨v, hv, hdv⟩ := conv_ok h4 (ev_ok ht h3)
    exact wp_pureV hK inv rfl hv hdv rfl
  case makeFunc f fi ca =>
    simp only [opE] at hd
    split at hd
    · rename_i x y hx hy
      have := okE_eq hd
      subst this
      exact wp_pureV hK inv rfl (by simp only [Instr.makeFunc, Sem.run_pure]; rfl) (by rw [args_eq, args_eq]; exact DRep.mkClo (evs_ok ht hx) (evs_ok ht hy)) rfl
    · cases hd
  case makeMap ty c =>
    cases c with
    | some c => cases hd
    | none =>
      cases hd
      exact wp_val hK rfl (makeMap_ok inv hid ty)
  case makeSlice ty l c =>
    simp only [opE] at hd
    split at hd
    · rename_i k n k' m el hl hc hel
      split at hd
      · rename_i es z by_ hes hz hb
        split at hd
        · rename_i hcc
          obtain ⟨h0, hnm, hm, hmb, hzl⟩ := hcc
          cases hd
          obtain ⟨d1, h1, h2⟩ := bind2 hl
          obtain ⟨d2, h3, h4⟩ := bind2 hc
          exact wp_val hK (by simp only [execOp]; rw [asI_ok h2 (ev_ok ht h1), asI_ok h4 (ev_ok ht h3)]) (makeSlice_ok inv hid hel hes hz hb h0 hnm hm hmb hzl k k')
        · cases hd
      · cases hd
    · cases hd
  case slice ty x lo hi mx =>
    simp only [opE] at hd
    split at hd
    · rename_i d l r m hx hl hr hm
      obtain ⟨d1, h1, h2⟩ := bind2 hd
      have := okE_eq h2
      subst this
      obtain ⟨a1, a2⟩ := hd_opt ht hl
      obtain ⟨b1, b2⟩ := hd_opt ht hr
      obtain ⟨c1, c2⟩ := hd_opt ht hm
      obtain ⟨v, hv, hdv⟩ := slc_ok h1 (ev_ok ht hx) a1 a2 b1 b2 c1 c2
      exact wp_pureV hK inv rfl hv hdv rfl
    · cases hd
  case fieldAddr s x f =>
    obtain ⟨d, h1, h2⟩ := bind2 hd
    obtain ⟨d1, h3, h4⟩ := bind2 h1
    have := okE_eq h2
    subst this
    obtain ⟨v, hv, hdv⟩ := fadr_ok h4 (ev_ok ht h3)
    exact wp_pureV hK inv rfl hv hdv rfl
  case field s x f =>
    obtain ⟨d, h1, h2⟩ := bind2 hd
    obtain ⟨d1, h3, h4⟩ := bind2 h1
    have := okE_eq h2
    subst this
    obtain ⟨v, hv, hdv⟩ := fld_ok h4 (ev_ok ht h3)
    exact wp_pureV hK inv rfl hv hdv rfl
  case indexAddr ty x i =>
    simp only [opE] at hd
    split at hd
    · rename_i d1 d2 hx hy
      obtain ⟨d, h1, h2⟩ := bind2 hd
      have := okE_eq h2
      subst this
      obtain ⟨v, hv, hdv⟩ := iadr_ok h1 (ev_ok ht hx) (ev_ok ht hy)
      exact wp_pureV hK inv rfl hv hdv rfl
    · cases hd
  case index ty x i =>
    simp only [opE] at hd
    split at hd
    · rename_i d1 d2 hx hy
      obtain ⟨d, h1, h2⟩ := bind2 hd
      have := okE_eq h2
      subst this
      obtain ⟨v, hv, hdv⟩ := idx_ok h1 (ev_ok ht hx) (ev_ok ht hy)
      exact wp_pureV hK inv rfl hv hdv rfl
    · cases hd
  case lookup ty x k ok =>
    simp only [opE] at hd
    split at hd
    · rename_i d1 d2 hx hy
      obtain ⟨v, hv, hdv, hu⟩ := lkp_ok inv hd (ev_ok ht hx) (ev_ok ht hy)
      exact wp_pureV hK inv rfl hv hdv hu
    · cases hd
  case mapUpdate ty m k x =>
    simp only [opE] at hd
    split at hd
    · rename_i d1 d2 d3 hx hy hz
      exact wp_unit hK rfl (mup_ok inv hd (ev_ok ht hx) (ev_ok ht hy) (ev_ok ht hz))
    · cases hd
  case insert ty m k x =>
    simp only [opE] at hd
    split at hd
    · rename_i d1 d2 d3 hx hy hz
      exact wp_unit hK rfl (mup_ok inv hd (ev_ok ht hx) (ev_ok ht hy) (ev_ok ht hz))
    · cases hd
  case extract x i =>
    obtain ⟨d, h1, h2⟩ := bind2 hd
    obtain ⟨d1, h3, h4⟩ := bind2 h1
    have := okE_eq h2
    subst this
    obtain ⟨v, hv, hdv⟩ := xtr_ok (P := P) h4 (ev_ok ht h3)
    exact wp_pureV hK inv rfl hv hdv rfl
  case call c =>
    simp only [opE] at hd
    split at hd
    · rename_i b hcal
      obtain ⟨zas, h1, h2⟩ := bind2 hd
      obtain ⟨s, hs, hv⟩ := builtin_ok inv hid h2 (evs_ok ht h1) type (c.args.map fun | .const _ => true | _ => false)
      refine wp_val hK (s := s) ?_ hv
      rw [← hs]
      simp only [execOp, resolve, hcal, args_eq, Array.toArray_toList]
      rfl
    · rename_i f hcal
      split at hd
      · rename_i fv zas hf has
        split at hd
        · rename_i g xs htg
          split at hd
          · rename_i hca
            obtain ⟨us, hus, hrun⟩ := target_run (P := P) htg (ev_ok ht hf) (evs_ok ht has)
            obtain ⟨dd, hd1, hd2⟩ := hrun _ (args_eq a c.args)
            have henter : (execOp a.eval { dst := dst, op := .call c, type := type, pos := pos, after := after, guard := guard }).run P w = .ok (.enter g us.toArray) w := by
              simp only [execOp, resolve, hcal, Sem.run_bind]
              rw [hd1]
              simp only [Result.andThen_ok]
              exact hd2 hca
            split at hd
            · split at hd
              · rename_i F hF
                exact wp_call hK henter (hE g F hF _ _ _ _ hd _ _ _ inv hid hus)
              · cases hd
            · cases hd
            · exact wp_call hK henter (callE_ok inv hid H hd hus)
          · cases hd
        · cases hd
      · cases hd
    · cases hd
  all_goals (simp only [opE] at hd; cases hd)
end
end Go.Proofs.YtddmnddocbmjnaaGreat.Dv
namespace Go.Proofs.YtddmnddocbmjnaaGreat.Dv
open Go.RowKit
section
variable {P : Program} {G : Cfg} {fn : FuncId} {cl : CallF}
structure SR (n : Nat) (ρ : Rho) (w : World) (s : St) (a : Act) : Prop where
  inv : Inv ρ w s.h
  tr : TR (Fx w (Wf s.h ρ)) ρ (Tp s.h) s.t a.tmps
  size : a.tmps.size = n
  defs : a.defers = []
  lt : ∀ k, ρ.al k → k < s.nx
theorem TR.put {F : Addr → Value → Prop} {ρ : Rho} {T : Nat → Nat → Prop} {t : PT DV} {a : Act} (ht : TR F ρ T t a.tmps) {d : Option Tmp} (hd : ∀ i, d = some i → i < a.tmps.size) {dv : DV} {v : Value} (hv : DRep F ρ T dv v) : TR F ρ T (putD t d dv) (a.put d v).tmps := by
  cases d with
  | none => exact ht
  | some d =>
    have hlt := hd d rfl
    intro i
    simp only [putD, Act.put, PT.get_set, Array.getD_eq_getD_getElem?, Array.getElem?_setIfInBounds]
    by_cases e : d = i
    · subst e; simp [hlt, hv]
    · simp only [if_neg e]
      simpa [Array.getD_eq_getD_getElem?] using ht i
theorem TR.stp {ρ ρ' : Rho} {w w' : World} {h h' : PT AObj} (s : Stp ρ w h ρ' w' h') {t : PT DV} {tm : Array Value} (ht : TR (Fx w (Wf h ρ)) ρ (Tp h) t tm) : TR (Fx w' (Wf h' ρ')) ρ' (Tp h') t tm := fun i => s.dr (ht i)
theorem put_size (a : Act) (d : Option Tmp) (v : Value) : (a.put d v).tmps.size = a.tmps.size := by cases d <;> simp [Act.put]
theorem put_defers (a : Act) (d : Option Tmp) (v : Value) : (a.put d v).defers = a.defers := by cases d <;> rfl
theorem want_ok {ops : Array Oper} {F : Addr → Value → Prop} {ρ : Rho} {T : Nat → Nat → Prop} {t : PT DV} {a : Act} (ht : TR F ρ T t a.tmps) {o : Oper} {b : Bool} (hw : wantD ops t o = some b) : Region.wanted o (yielded ops a.tmps) = b := by
  unfold wantD at hw
  unfold Region.wanted
  split at hw
  · rename_i hg
    cases hw
    rw [hg]
  · rename_i j wnt hg
    rw [hg]
    simp only
    split at hw
    · rename_i hd
      cases hw
      simp [yielded, hd]
    · rename_i d hd
      have hr := ht d
      split at hw
      · rename_i b' hb
        cases hw
        rw [hb] at hr
        simp only [Option.getD_some, DRep, PRep] at hr
        have : a.tmps[d]? = some (.bool b') := by
          rw [Array.getD_eq_getD_getElem?] at hr
          cases hh : a.tmps[d]? with
          | none => rw [hh] at hr; simp [undef] at hr
          | some v => rw [hh] at hr; simp at hr; rw [hr.1]
        simp [yielded, hd, this]
      · rename_i hb
        cases hw
        rw [hb] at hr
        simp only [Option.getD_some, DRep, PRep, PRepT] at hr
        obtain ⟨xs, hr, rfl⟩ := hr
        have : a.tmps[d]? = none ∨ a.tmps[d]? = some (.tuple #[]) := by
          rw [Array.getD_eq_getD_getElem?] at hr
          cases hh : a.tmps[d]? with
          | none => exact .inl rfl
          | some v => rw [hh] at hr; simp at hr; rw [hr]; exact .inr rfl
        rcases this with h | h <;> simp [yielded, hd, h]
      · cases hw
def stepI (P : Program) (G : Cfg) (fn : FuncId) (cl : CallF) (ops : Array Oper) (base i : Nat) (s : St) : Option (St × Log) := match ops[i]? with
  | none => none
  | some o => match wantD ops s.t o with
    | some true => stepD P G fn cl o (base + i) s
    | some false => some ({ s with t := putD s.t o.dst (.p (.tup [])) }, {})
    | none => none
theorem refCall_op {o : Op} {t : PT DV} {g : FuncId} {xs : List DV} (hr : refCall P G fn o t = some (g, xs)) : ∃ c f fv zas, o = .call c ∧ c.callee = .value f ∧ ev t f = some fv ∧ evs t c.args.toList = some zas ∧ target fv zas = some (g, xs) ∧ callable P g = true := by
  unfold refCall at hr
  split at hr
  · rename_i c
    split at hr
    · rename_i f hc
      split at hr
      · rename_i fv zas h1 h2
        split at hr
        · rename_i g' xs' h3
          split at hr
          · rename_i h4
            cases hr
            exact ⟨c, f, fv, zas, rfl, hc, h1, h2, h3, h4.2⟩
          · cases hr
        · cases hr
      · cases hr
    · cases hr
  · cases hr
theorem stepI_ok (hE : ExtOK P G) (H : CallsOK P cl) {n : Nat} {ρ : Rho} {w : World} {s s1 : St} {a : Act} {ops : Array Oper} {base i : Nat} {lg : Log} (hn : ∀ o, ops[i]? = some o → ∀ d, o.dst = some d → d < n) (hs : stepI P G fn cl ops base i s = some (s1, lg)) (sr : SR n ρ w s a) (hid : ¬ ρ.al (base + i)) (hlt : base + i < s.nx)
    {K : Act → World → Prop} {Q : Exit → Act → World → Prop} (hK : ∀ ρ' w' a', SR n ρ' w' s1 a' → Stp ρ w s.h ρ' w' s1.h → s.nx ≤ s1.nx → (∀ k, ρ'.al k → ρ.al k ∨ k = base + i ∨ s.nx ≤ k) → K a' w') : wpOp P ops Q i K a w := by
  unfold stepI at hs
  split at hs
  · cases hs
  · rename_i o ho
    have hdst : ∀ d, o.dst = some d → d < a.tmps.size := fun d hd => by rw [sr.size]; exact hn o ho d hd
    unfold wpOp
    simp only [ho]
    split at hs
    · rename_i hw
      rw [want_ok sr.tr hw]
      simp only [if_true]
      refine .inl ?_
      unfold stepD at hs
      split at hs
      · rename_i g xs hr
        split at hs
        · rename_i r h' n' hcl
          cases hs
          obtain ⟨c, f, fv, zas, hop, hcal, h1, h2, h3, h4⟩ := refCall_op hr
          obtain ⟨us, hus, hrun⟩ := target_run (P := P) h3 (ev_ok sr.tr h1) (evs_ok sr.tr h2)
          obtain ⟨dd, hd1, hd2⟩ := hrun _ (args_eq a c.args)
          have henter : (execOp a.eval o).run P w = .ok (.enter g us.toArray) w := by
            simp only [execOp, hop, resolve, hcal, Sem.run_bind]
            rw [hd1]
            simp only [Result.andThen_ok]
            exact hd2 h4
          have hcall := H _ _ _ _ _ _ _ hcl
          have hc := hcall ρ w us sr.inv hus sr.lt
          simp only [Oper.wp, henter, Oper.upon]
          refine Calls.mono hc ?_
          rintro en w' ⟨v, ρ', rfl, st, i2, dr, hle, al⟩
          refine hK ρ' w' _ ⟨i2, (sr.tr.stp st).put hdst dr, by rw [put_size]; exact sr.size, by rw [put_defers]; exact sr.defs, fun k hk => ?_⟩ st hle (fun k hk => ?_)
          · rcases al k hk with h | h
            · exact Nat.lt_of_lt_of_le (sr.lt k h) hle
            · exact h.2
          · rcases al k hk with h | h
            · exact .inl h
            · exact .inr (.inr h.1)
        · cases hs
      · split at hs
        · rename_i e he
          cases hs
          refine opE_ok hE H sr.inv hid sr.tr he ?_
          rintro v w' ⟨ρ', st, i2, dr, al⟩
          refine hK ρ' w' _ ⟨i2, (sr.tr.stp st).put hdst dr, by rw [put_size]; exact sr.size, by rw [put_defers]; exact sr.defs, fun k hk => ?_⟩ st (Nat.le_refl _) (fun k hk => ?_)
          · rcases al k hk with h | h
            · exact sr.lt k h
            · rw [h]; exact hlt
          · rcases al k hk with h | h
            · exact .inl h
            · exact .inr (.inl h)
        · cases hs
    · rename_i hw
      cases hs
      rw [want_ok sr.tr hw]
      simp only [Bool.false_eq_true, if_false]
      exact hK ρ w _ ⟨sr.inv, sr.tr.put hdst udf_rep, by rw [put_size]; exact sr.size, by rw [put_defers]; exact sr.defs, sr.lt⟩ (Stp.refl _ _ _) (Nat.le_refl _) (fun k hk => .inl hk)
    · cases hs
def Run (P : Program) (G : Cfg) (fn : FuncId) (cl : CallF) (ops : Array Oper) (base : Nat) : List (Nat × Log) → St → St → Prop
  | [], s, r => s = r
  | x :: l, s, r => ∃ s1, stepI P G fn cl ops base x.1 s = some (s1, x.2) ∧ Run P G fn cl ops base l s1 r
theorem runOps_run {ops : Array Oper} {base : Nat} : ∀ (os : List Oper) (i : Nat) (s r : St) (ls : List Log), ops.toList.drop i = os → runOps P G fn cl ops (base + i) os s = some (r, ls) →
    ls.length = os.length ∧ Run P G fn cl ops base ((List.range' i os.length).zip ls) s r
  | [], i, s, r, ls, hos, hr => by
    simp only [runOps] at hr
    cases hr
    exact ⟨rfl, rfl⟩
  | o :: os, i, s, r, ls, hos, hr => by
    have ho : ops[i]? = some o := by
      have := congrArg (·[0]?) hos
      simpa using this
    have hos' : ops.toList.drop (i + 1) = os := by
      rw [← List.tail_drop, hos]; rfl
    simp only [runOps] at hr
    split at hr
    · rename_i hw
      split at hr
      · rename_i s' lg hst
        split at hr
        · rename_i s2 ls' hrec
          cases hr
          obtain ⟨h1, h2⟩ := runOps_run os (i + 1) s' r ls' hos' hrec
          refine ⟨by simp [h1], ?_⟩
          simp only [List.length_cons, List.range'_succ, List.zip_cons_cons, Run]
          exact ⟨s', by simp only [stepI, ho, hw]; exact hst, h2⟩
        · cases hr
      · cases hr
    · rename_i hw
      split at hr
      · rename_i s2 ls' hrec
        cases hr
        obtain ⟨h1, h2⟩ := runOps_run os (i + 1) _ r ls' hos' hrec
        refine ⟨by simp [h1], ?_⟩
        simp only [List.length_cons, List.range'_succ, List.zip_cons_cons, Run]
        exact ⟨_, by simp only [stepI, ho, hw], h2⟩
      · cases hr
    · cases hr
theorem run_ok (hE : ExtOK P G) (H : CallsOK P cl) {n : Nat} {ops : Array Oper} {base : Nat} (hn : ∀ (i : Nat) o, ops[i]? = some o → ∀ d, o.dst = some d → d < n) {Q : Exit → Act → World → Prop} :
    ∀ (l : List (Nat × Log)) {ρ : Rho} {w : World} {s r : St} {a : Act}, Run P G fn cl ops base l s r → SR n ρ w s a → (l.map (·.1)).Nodup → (∀ i ∈ l.map (·.1), ¬ ρ.al (base + i) ∧ base + i < s.nx) →
      (∀ ρ' w' a', SR n ρ' w' r a' → Stp ρ w s.h ρ' w' r.h → s.nx ≤ r.nx → (∀ k, ρ'.al k → ρ.al k ∨ (∃ i ∈ l.map (·.1), k = base + i) ∨ s.nx ≤ k) → Q .normal a' w') → wpOps P ops Q (l.map (·.1)) a w
  | [], ρ, w, s, r, a, hr, sr, _, _, hQ => by
    simp only [Run] at hr
    subst hr
    exact hQ ρ w a sr (Stp.refl _ _ _) (Nat.le_refl _) (fun k hk => .inl hk)
  | x :: l, ρ, w, s, r, a, hr, sr, hnd, hids, hQ => by
    obtain ⟨s1, h1, h2⟩ := hr
    simp only [List.map_cons] at hnd hids ⊢
    rw [wpOps_cons]
    obtain ⟨hi1, hi2⟩ := hids x.1 (by simp)
    refine stepI_ok hE H (hn x.1) h1 sr hi1 hi2 (fun ρ' w' a' sr' st hle al => ?_)
    rw [List.nodup_cons] at hnd
    refine run_ok hE H hn l h2 sr' hnd.2 (fun i hi => ⟨fun hk => ?_, ?_⟩) (fun ρ2 w2 a2 sr2 st2 hle2 al2 => ?_)
    · rcases al _ hk with h | h | h
      · exact (hids i (by simp [hi])).1 h
      · have : i = x.1 := by omega
        exact hnd.1 (this ▸ hi)
      · have := (hids i (by simp [hi])).2
        omega
    · exact Nat.lt_of_lt_of_le (hids i (by simp [hi])).2 hle
    · refine hQ ρ2 w2 a2 sr2 (st.trans st2) (Nat.le_trans hle hle2) (fun k hk => ?_)
      rcases al2 k hk with h | ⟨i, hi, h⟩ | h
      · rcases al k h with h | h | h
        · exact .inl h
        · exact .inr (.inl ⟨x.1, by simp, h⟩)
        · exact .inr (.inr h)
      · exact .inr (.inl ⟨i, by simp [hi], h⟩)
      · exact .inr (.inr (by omega))
end
end Go.Proofs.YtddmnddocbmjnaaGreat.Dv
namespace Go.Proofs.YtddmnddocbmjnaaGreat.Dv
open Go.RowKit
section
variable {P : Program} {h h' : PT AObj}
theorem snapL_loc {f f' : DV → Option (PDV × List Nat)} : ∀ {l : List DV} {ps : List PDV} {rd : List Nat}, snapL f l = some (ps, rd) → (∀ d ∈ l, ∀ q r, f d = some (q, r) → (∀ i ∈ r, i ∈ rd) → f' d = some (q, r)) → snapL f' l = some (ps, rd)
  | [], ps, rd, hs, _ => by simpa [snapL] using hs
  | d :: ds, ps, rd, hs, hf => by
    simp only [snapL] at hs ⊢
    split at hs
    · cases hs
    · rename_i x r hx
      split at hs
      · cases hs
      · rename_i xs rs hxs
        cases hs
        rw [hf d (by simp) x r hx (fun i hi => List.mem_append_left _ hi)]
        simp only
        rw [snapL_loc hxs (fun d' hd' q r' hq hr => hf d' (by simp [hd']) q r' hq (fun i hi => List.mem_append_right _ (hr i hi)))]
theorem snapF_loc : ∀ (n : Nat) {d : DV} {q : PDV} {rd : List Nat}, snapF h n d = some (q, rd) → (∀ i ∈ rd, h'.get i = h.get i) → snapF h' n d = some (q, rd)
  | 0, d, q, rd, hs, _ => by simp [snapF] at hs
  | n + 1, d, q, rd, hs, hh => by
    have rcc : ∀ (d : DV) (q : PDV) (r : List Nat), snapF h n d = some (q, r) → (∀ i ∈ r, i ∈ rd) → snapF h' n d = some (q, r) := fun d q r hq hr => snapF_loc n hq (fun i hi => hh i (hr i hi))
    cases d with
    | p d => simpa [snapF] using hs
    | ow id l => simpa [snapF] using hs
    | nil => simpa [snapF] using hs
    | zc => simpa [snapF] using hs
    | mm id => simp [snapF] at hs
    | any => simp [snapF] at hs
    | agg l =>
      simp only [snapF] at hs ⊢
      cases hl : snapL (snapF h n) l with
      | none => rw [hl] at hs; cases hs
      | some r =>
        rw [hl] at hs
        cases hs
        rw [snapL_loc hl (fun d _ q r' hq hr => rcc d q r' hq hr)]
        rfl
    | tup l =>
      simp only [snapF] at hs ⊢
      cases hl : snapL (snapF h n) l with
      | none => rw [hl] at hs; cases hs
      | some r =>
        rw [hl] at hs
        cases hs
        rw [snapL_loc hl (fun d _ q r' hq hr => rcc d q r' hq hr)]
        rfl
    | clo fn a b =>
      simp only [snapF] at hs ⊢
      split at hs
      · rename_i x r y q' hx hy
        cases hs
        rw [snapL_loc hx (fun d _ q r' hq hr => rcc d q r' hq (fun i hi => List.mem_append_left _ (hr i hi))), snapL_loc hy (fun d _ q r' hq hr => rcc d q r' hq (fun i hi => List.mem_append_right _ (hr i hi)))]
      · cases hs
    | mp id off =>
      simp only [snapF] at hs ⊢
      split at hs
      · rename_i cs fz ho
        cases hl : snapL (snapF h n) (cs.drop off) with
        | none => rw [hl] at hs; cases hs
        | some r =>
          rw [hl] at hs
          cases hs
          rw [hh id (by simp), ho]
          simp only
          rw [snapL_loc hl (fun d _ q r' hq hr => rcc d q r' hq (fun i hi => List.mem_cons_of_mem _ (hr i hi)))]
          rfl
      · cases hs
    | ms id off len av es =>
      simp only [snapF] at hs ⊢
      split at hs
      · rename_i cs fz ho
        cases hl : snapL (snapF h n) ((cs.drop off).take (len * es.getD 1)) with
        | none => rw [hl] at hs; cases hs
        | some r =>
          rw [hl] at hs
          simp only [Option.bind_some] at hs
          have hs0 := hs
          split at hs
          · rename_i hc
            cases hs
            rw [hh id (by simp), ho]
            simp only
            rw [snapL_loc hl (fun d _ q r' hq hr => rcc d q r' hq (fun i hi => List.mem_cons_of_mem _ (hr i hi)))]
            simp only [Option.bind_some]
            exact hs0
          · cases hs
      · cases hs
theorem freeze_loc : ∀ {is : List Nat}, (∀ i ∈ is, h'.get i = h.get i) → freeze h' is = freeze h is
  | [], _ => rfl
  | i :: is, hh => by
    simp only [freeze]
    rw [hh i (by simp), freeze_loc (fun j hj => hh j (by simp [hj]))]
theorem own_rd {ar : Bool} {h1 : PT AObj} {r : DV} {id : Nat} {rd : List Nat} {fz : List (Nat × Option AObj)} {e : Eff} (hd : own ar h1 r id rd fz = some e) : e.rd = rd := by
  revert hd
  unfold own
  repeat' split
  all_goals (intro hd; cases hd; try rfl)
theorem callE_loc {md : Mode} {cl : CallF} {g : FuncId} {zas : List DV} {id : Nat} {e : Eff} (hd : callE md cl g zas h id = some e) (hh : ∀ i ∈ e.rd, h'.get i = h.get i) : callE md cl g zas h' id = some e := by
  have hd0 := hd
  unfold callE at hd ⊢
  split at hd
  · cases hd
  · rename_i ps rd hsn
    split at hd
    · cases hd
    · rename_i r h1 n1 hcl
      have hrd : e.rd = rd := by
        revert hd
        repeat' split
        all_goals (intro hd)
        all_goals first | exact own_rd hd | (cases hd; rfl) | cases hd
      rw [hrd] at hh
      have hsn' : snaps h' zas = some (ps, rd) := snapL_loc hsn (fun d _ q r' hq hr => snapF_loc 40 hq (fun i hi => hh i (hr i hi)))
      rw [hsn']
      simp only [hcl, freeze_loc hh]
      exact hd
theorem ld_loc {t : TypeId} {a : DV} {e : Eff} (hd : ld P t a h = some e) (hh : ∀ i ∈ e.rd, h'.get i = h.get i) : ld P t a h' = some e := by
  cases a with
  | mp i off =>
    have hi : i ∈ e.rd := by
      revert hd
      unfold ld
      repeat' split
      all_goals (intro hd; first | (cases hd; done) | skip)
      all_goals (rename_i hm; first | (cases hm; cases hd; simp; done) | (cases hd; simp_all; done))
    unfold ld at hd ⊢
    simp only [hh i hi]
    exact hd
  | p d => cases d <;> (unfold ld at hd ⊢; exact hd)
  | _ => unfold ld at hd ⊢; exact hd
theorem sto_loc {t : TypeId} {a x : DV} {e : Eff} (hd : sto P t a x h = some e) (hh : ∀ i ∈ e.rd, h'.get i = h.get i) : sto P t a x h' = some e := by
  have hd0 := hd
  unfold sto at hd ⊢
  split at hd
  · rename_i k i off hk
    split at hd
    · rename_i cs ho
      split at hd
      · rename_i hc
        cases hd
        simp only [hh i (by simp), ho]
        rw [if_pos hc]
      · cases hd
    · cases hd
  · cases hd
theorem src_loc {k : Nat} {x : DV} {r : List DV × Nat × List Nat} (hd : src h k x = some r) (hh : ∀ i ∈ r.2.2, h'.get i = h.get i) : src h' k x = some r := by
  cases x with
  | ms i off n av es =>
    simp only [src] at hd ⊢
    split at hd
    · rename_i cs fz ho
      split at hd
      · rename_i hc
        cases hd
        rw [hh i (by simp), ho]
        simp only
        rw [if_pos hc]
      · cases hd
    · cases hd
  | p d => cases d with
    | s v => cases v <;> exact hd
    | _ => exact hd
  | _ => exact hd
theorem lenD_loc {t : TypeId} {x : DV} {r : Nat × List Nat} (hd : lenD P t x h = some r) (hh : ∀ i ∈ r.2, h'.get i = h.get i) : lenD P t x h' = some r := by
  unfold lenD at hd ⊢
  cases hu : P.underlying t with
  | none => rw [hu] at hd; cases hd
  | some u =>
    rw [hu] at hd
    cases x with
    | mm i =>
      cases u with
      | map a b =>
        simp only at hd ⊢
        split at hd
        · rename_i es ho
          cases hd
          rw [hh i (by simp), ho]
        · cases hd
      | _ => exact hd
    | p d =>
      cases d with
      | s v => cases v <;> cases u <;> exact hd
      | _ => cases u <;> exact hd
    | _ => cases u <;> exact hd
theorem clr_loc {t : TypeId} {x : DV} {e : Eff} (hd : clr P t x h = some e) (hh : ∀ i ∈ e.rd, h'.get i = h.get i) : clr P t x h' = some e := by
  unfold clr at hd ⊢
  cases hu : P.underlying t with
  | none => rw [hu] at hd; cases hd
  | some u =>
    rw [hu] at hd
    cases x with
    | ms i off n av es =>
      cases n with
      | zero => cases u <;> exact hd
      | succ n =>
        cases u with
        | slice el =>
          simp only at hd ⊢
          split at hd
          · rename_i z c hz ho
            split at hd
            · rename_i hc
              cases hd
              rw [hh i (by simp), ho, hz]
              simp only
              rw [if_pos hc]
            · cases hd
          · cases hd
        | _ => exact hd
    | p d =>
      cases d with
      | lst l => cases l <;> cases u <;> exact hd
      | _ => cases u <;> exact hd
    | _ => cases u <;> exact hd
theorem lkp_loc {t : TypeId} {x k : DV} {ok : Bool} {e : Eff} (hd : lkp P t x k ok h = some e) (hh : ∀ i ∈ e.rd, h'.get i = h.get i) : lkp P t x k ok h' = some e := by
  have hd0 := hd
  unfold lkp at hd
  split at hd
  · rename_i kt el ks i kk hmt
    split at hd
    · rename_i hc
      split at hd
      · rename_i es ho
        have hi : i ∈ e.rd := by
          revert hd
          repeat' split
          all_goals (intro hd; cases hd; try simp)
        rw [← hd0]
        unfold lkp
        simp only [hmt, hh i hi]
      · cases hd
    · cases hd
  · cases hd
theorem mup_loc {t : TypeId} {x k v : DV} {e : Eff} (hd : mup P t x k v h = some e) (hh : ∀ i ∈ e.rd, h'.get i = h.get i) : mup P t x k v h' = some e := by
  have hd0 := hd
  unfold mup at hd
  split at hd
  · rename_i kt el ks i kk hmt
    split at hd
    · rename_i hc
      split at hd
      · rename_i es ho
        have hi : i ∈ e.rd := by
          revert hd
          repeat' split
          all_goals (intro hd; cases hd; try simp)
        rw [← hd0]
        unfold mup
        simp only [hmt, hh i hi]
      · cases hd
    · cases hd
  · cases hd
theorem more_loc {t : TypeId} {e : TypeId} {k by_ : Nat} {x : DV} {r : List DV × Nat × List Nat} : moreD P t e k by_ x h = some r → (∀ i ∈ r.2.2, h'.get i = h.get i) → moreD P t e k by_ x h' = some r := by
  unfold moreD
  intro hd hh
  cases hu : P.underlying t with
  | none => rw [hu] at hd; cases hd
  | some u =>
    rw [hu] at hd
    cases u with
    | slice el => exact src_loc hd hh
    | string => exact src_loc hd hh
    | int k => cases x with
      | p d => cases d with
        | s v => cases v <;> exact hd
        | _ => exact hd
      | _ => exact hd
    | _ => cases hd
theorem fresh_rd (ar : Bool) (es : Option Nat) (n : Nat) (cs : List DV) (id : Nat) (rd : List Nat) : (fresh ar es n cs id rd).rd = rd := by
  unfold fresh
  split <;> rfl
theorem app_loc {ar : Bool} {ts : List TypeId} {a x : DV} {id : Nat} {e : Eff} (hd : app P ar ts a x h id = some e) (hh : ∀ i ∈ e.rd, h'.get i = h.get i) : app P ar ts a x h' id = some e := by
  unfold app at hd ⊢
  split at hd
  · rename_i t tx ts'
    split at hd
    · rename_i el hel
      split at hd
      · rename_i es by_ hes hb
        split at hd
        · rename_i hc
          split at hd
          · cases hd
          · rename_i cs n rd hm
            have sub : ∀ i ∈ rd, i ∈ e.rd := by
              revert hd
              repeat' split
              all_goals (intro hd; first | (cases hd; done) | (cases hd; intro i hi; first | exact hi | (rw [fresh_rd]; exact hi) | exact List.mem_cons_of_mem _ hi))
            have hm' := more_loc (P := P) (h' := h') hm (fun i hi => hh i (sub i hi))
            rw [if_pos hc]
            rw [hm']
            cases a with
            | ow i l =>
              simp only at hd ⊢
              by_cases hn : n = 0
              · simpa [hn] using hd
              · rw [if_neg hn] at hd ⊢
                have hi : i ∈ e.rd := by
                  revert hd
                  repeat' split
                  all_goals (intro hd; first | (cases hd; done) | (cases hd; simp))
                rw [hh i hi]
                exact hd
            | ms i off len av es' =>
              simp only at hd ⊢
              have hi : i ∈ e.rd := by
                revert hd
                repeat' split
                all_goals (intro hd; first | (cases hd; done) | (cases hd; simp))
              rw [hh i hi]
              exact hd
            | _ => exact hd
        · cases hd
      · cases hd
    · cases hd
  · cases hd
theorem builtin_loc {ar : Bool} {b : Builtin} {ts : List TypeId} {zas : List DV} {id : Nat} {e : Eff} (hd : builtinD P ar b ts zas h id = some e) (hh : ∀ i ∈ e.rd, h'.get i = h.get i) : builtinD P ar b ts zas h' id = some e := by
  unfold builtinD at hd ⊢
  split at hd
  · split at hd
    · rename_i t ts' x xs
      cases hl : lenD P t x h with
      | none => rw [hl] at hd; cases hd
      | some r =>
        rw [hl] at hd
        cases hd
        simp only [lenD_loc hl hh]
        rfl
    · cases hd
  · exact hd
  · split at hd
    · exact app_loc hd hh
    · cases hd
  · exact hd
  · exact hd
  · split at hd
    · exact clr_loc hd hh
    · cases hd
  · cases hd
end
end Go.Proofs.YtddmnddocbmjnaaGreat.Dv
