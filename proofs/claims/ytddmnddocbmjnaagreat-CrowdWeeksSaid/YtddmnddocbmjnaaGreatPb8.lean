/- Part 8 of the proof: CrowdWeeks: whatever plain data comes in, the call returns true and leaves its arguments as they were. No condition. -/
import Derived.Test.YtddmnddocbmjnaaGreatPb7
import Derived.Test.YtddmnddocbmjnaaGreatChecked
import Derived.KernelRfl
set_option linter.all false
set_option linter.unusedVariables false
set_option linter.unusedSectionVars false
set_option linter.unusedSimpArgs false
namespace Go.Proofs.YtddmnddocbmjnaaGreat.Dv
section
variable {P : Program} {G : Cfg} {fn : FuncId} {cl cl' : CallF}
theorem mCall_mono (hc : LeC cl cl') {g : FuncId} {xs : List DV} {dst : Option Nat} {id : Nat} {s : St} {r : St × Log} (hs : mCall G fn cl g xs dst id s = some r) : mCall G fn cl' g xs dst id s = some r := by
  unfold mCall at hs ⊢
  have eff : ∀ md, effS dst s (callE md cl g xs s.h id) = some r → effS dst s (callE md cl' g xs s.h id) = some r := by
    intro md hh
    cases he : callE md cl g xs s.h id with
    | none => rw [he] at hh; cases hh
    | some e => rw [callE_mono hc he]; rw [he] at hh; exact hh
  cases hm : G.mode fn g with
  | ref =>
    simp only [hm] at hs ⊢
    split at hs
    · rename_i hcl; simp only [hc _ _ _ _ _ hcl]; exact hs
    · cases hs
  | ext => simp only [hm] at hs ⊢; exact hs
  | pure => simp only [hm] at hs ⊢; exact eff _ hs
  | ownT => simp only [hm] at hs ⊢; exact eff _ hs
  | ownA => simp only [hm] at hs ⊢; exact eff _ hs
theorem mstep_mono (hc : LeC cl cl') {o : MO} {id : Nat} {s : St} {r : St × Log} (hs : mstep P G fn cl o id s = some r) : mstep P G fn cl' o id s = some r := by
  unfold mstep at hs ⊢
  split at hs
  · exact mCall_mono hc hs
  · unfold callvX at hs ⊢
    split at hs
    · rename_i ht
      split at hs
      · rename_i hcal
        simp only [ht, hcal, if_true]
        exact mCall_mono hc hs
      · cases hs
    · cases hs
  · exact hs
theorem mrun_mono (hc : LeC cl cl') : ∀ {ms : List MO} {id : Nat} {s : St} {r : St × List Log}, mrun P G fn cl id ms s = some r → mrun P G fn cl' id ms s = some r
  | [], id, s, r, hs => hs
  | m :: ms, id, s, r, hs => by
    simp only [mrun] at hs ⊢
    split at hs
    · split at hs
      · rename_i hst
        simp only [mstep_mono hc hst]
        split at hs
        · rename_i hrec; simp only [mrun_mono hc hrec]; exact hs
        · cases hs
      · cases hs
    · split at hs
      · rename_i hrec; simp only [mrun_mono hc hrec]; exact hs
      · cases hs
    · cases hs
theorem mexec_mono (hc : LeC cl cl') {k k' : Nat} (hk : k ≤ k') : ∀ (c : M) {s : St} {r : DX × St}, mexec P G fn cl k c s = some r → mexec P G fn cl' k' c s = some r
  | .skip, s, r, hd => hd
  | .reg dr ops, s, r, hd => by
    simp only [mexec] at hd ⊢
    split at hd
    · rename_i hr; simp only [mrun_mono hc hr]; exact hd
    · cases hd
  | .seq a b, s, r, hd => by
    simp only [mexec] at hd ⊢
    split at hd
    · rename_i s' hs
      simp only [mexec_mono hc hk a hs]
      exact mexec_mono hc hk b hd
    · rename_i hne
      rw [mexec_mono hc hk a hd]
      obtain ⟨x, s'⟩ := r
      cases x with
      | normal => exact absurd hd (hne s')
      | exit id => rfl
      | ret => rfl
  | .cond c a b, s, r, hd => by
    simp only [mexec] at hd ⊢
    split at hd
    · exact mexec_mono hc hk a hd
    · exact mexec_mono hc hk b hd
    · cases hd
  | .block id c, s, r, hd => by
    simp only [mexec] at hd ⊢
    split at hd
    · rename_i j s' hs
      simp only [mexec_mono hc hk c hs]
      exact hd
    · rename_i hne
      rw [mexec_mono hc hk c hd]
      obtain ⟨x, s'⟩ := r
      cases x with
      | normal => rfl
      | exit id => exact absurd hd (hne id s')
      | ret => rfl
  | .loop c, s, r, hd => by
    simp only [mexec] at hd ⊢
    exact iter_mono (fun s r h => mexec_mono hc hk c h) hk hd
  | .exit id, s, r, hd => hd
  | .ret, s, r, hd => hd
end
section
variable (P : Program) (G : Cfg)
noncomputable def callR : CallF := fun g xs h n => open Classical in if hx : ∃ r, ∃ k, call P G k g xs h n = some r then some hx.choose else none
theorem callR_of {k : Nat} {g : FuncId} {xs : List DV} {h : PT AObj} {n : Nat} {r : DV × PT AObj × Nat} (hc : call P G k g xs h n = some r) : callR P G g xs h n = some r := by
  unfold callR
  have hx : ∃ r, ∃ k, call P G k g xs h n = some r := ⟨r, k, hc⟩
  rw [dif_pos hx]
  obtain ⟨k', hk'⟩ := hx.choose_spec
  have h1 := call_mono (P := P) (G := G) (Nat.le_max_left k k') _ _ _ _ _ hc
  have h2 := call_mono (P := P) (G := G) (Nat.le_max_right k k') _ _ _ _ _ hk'
  rw [h1] at h2
  exact h2.symm
theorem callR_some {g : FuncId} {xs : List DV} {h : PT AObj} {n : Nat} {r : DV × PT AObj × Nat} (hc : callR P G g xs h n = some r) : ∃ k, call P G k g xs h n = some r := by
  unfold callR at hc
  split at hc
  · rename_i hx
    obtain ⟨k, hk⟩ := hx.choose_spec
    cases hc
    exact ⟨k, hk⟩
  · cases hc
theorem callR_le (k : Nat) : LeC (call P G k) (callR P G) := fun _ _ _ _ _ h => callR_of P G h
noncomputable def res (g : FuncId) (ps : List PDV) : Option PDV := match callR P G g (ps.map .p) .leaf 0 with
  | some (r, h, _) => (snap h r).map (·.1)
  | none => none
def X (fn : FuncId) (m : M) (s : St) (Q : DX → St → Prop) : Prop := ∃ k x r, mexec P G fn (call P G k) k m s = some (x, r) ∧ Q x r
def Ops (fn : FuncId) (ms : List MO) (id : Nat) (dr : Option (Array Nat)) (lg : List Log) (s : St) (Q : DX → St → Prop) : Prop := ∃ k s' ls, mrun P G fn (call P G k) id ms s = some (s', ls) ∧ indepO dr (lg.reverse ++ ls) = true ∧ Q .normal s'
def opsK (fn : FuncId) (os : List MO) (id : Nat) (dr : Option (Array Nat)) (lg : List Log) (Q : DX → St → Prop) : Option (St × Log) → Prop
  | some (s, l) => Ops P G fn os id dr (l :: lg) s Q
  | none => False
def opsW (fn : FuncId) (o : MO) (os : List MO) (id : Nat) (dr : Option (Array Nat)) (lg : List Log) (s : St) (Q : DX → St → Prop) : Option Bool → Prop
  | some true => opsK P G fn os (id + 1) dr lg Q (mstep P G fn (callR P G) o id s)
  | some false => Ops P G fn os (id + 1) dr ({} :: lg) { s with t := putD s.t o.dst (.p (.tup [])) } Q
  | none => False
def condX (fn : FuncId) (a b : M) (s : St) (Q : DX → St → Prop) : Option Bool → Prop
  | some true => X P G fn a s Q
  | some false => X P G fn b s Q
  | none => False
def kS (fn : FuncId) (b : M) (Q : DX → St → Prop) : DX → St → Prop
  | .normal, s => X P G fn b s Q
  | x, s => Q x s
def kB (id : Nat) (Q : DX → St → Prop) : DX → St → Prop
  | .exit j, s => if j = id then Q .normal s else Q (.exit j) s
  | x, s => Q x s
end
section
variable {P : Program} {G : Cfg} {fn : FuncId} {s : St} {Q : DX → St → Prop}
theorem mstepR {o : MO} {id : Nat} {r : St × Log} : mstep P G fn (callR P G) o id s = some r ↔ ∃ k, mstep P G fn (call P G k) o id s = some r := by
  constructor
  · have call : ∀ g xs, mCall G fn (callR P G) g xs o.dst id s = some r → ∃ k, mCall G fn (call P G k) g xs o.dst id s = some r := by
      intro g xs hs
      unfold mCall at hs ⊢
      have eff : ∀ md, effS o.dst s (callE md (callR P G) g xs s.h id) = some r → ∃ k, effS o.dst s (callE md (Dv.call P G k) g xs s.h id) = some r := by
        intro md hh
        unfold callE at hh ⊢
        split at hh
        · cases hh
        · rename_i ps rd hsn
          cases hc : callR P G g (ps.map .p) .leaf 0 with
          | none => rw [hc] at hh; cases hh
          | some q =>
            obtain ⟨k, hk⟩ := callR_some P G hc
            refine ⟨k, ?_⟩
            rw [hc] at hh
            simp only [hsn, hk]
            exact hh
      cases hm : G.mode fn g with
      | ref =>
        simp only [hm] at hs ⊢
        split at hs
        · rename_i hcl
          obtain ⟨k, hk⟩ := callR_some P G hcl
          exact ⟨k, by rw [hk]; exact hs⟩
        · cases hs
      | ext => simp only [hm] at hs ⊢; exact ⟨0, hs⟩
      | pure => simp only [hm] at hs ⊢; exact eff _ hs
      | ownT => simp only [hm] at hs ⊢; exact eff _ hs
      | ownA => simp only [hm] at hs ⊢; exact eff _ hs
    intro hs
    unfold mstep at hs ⊢
    split at hs
    · exact call _ _ hs
    · unfold callvX at hs ⊢
      split at hs
      · rename_i ht
        split at hs
        · rename_i hcal
          simp only [ht, hcal, if_true]
          exact call _ _ hs
        · cases hs
      · cases hs
    · exact ⟨0, hs⟩
  · rintro ⟨k, hk⟩
    exact mstep_mono (callR_le P G k) hk
theorem X_mono {m : M} {Q' : DX → St → Prop} (h : X P G fn m s Q) (hq : ∀ x r, Q x r → Q' x r) : X P G fn m s Q' := by
  obtain ⟨k, x, r, h1, h2⟩ := h
  exact ⟨k, x, r, h1, hq x r h2⟩
theorem X_skip : X P G fn .skip s Q ↔ Q .normal s := ⟨fun ⟨k, x, r, h, q⟩ => by simp only [mexec] at h; cases h; exact q, fun q => ⟨0, _, _, rfl, q⟩⟩
theorem X_exit {id : Nat} : X P G fn (.exit id) s Q ↔ Q (.exit id) s := ⟨fun ⟨k, x, r, h, q⟩ => by simp only [mexec] at h; cases h; exact q, fun q => ⟨0, _, _, rfl, q⟩⟩
theorem X_ret : X P G fn .ret s Q ↔ Q .ret s := ⟨fun ⟨k, x, r, h, q⟩ => by simp only [mexec] at h; cases h; exact q, fun q => ⟨0, _, _, rfl, q⟩⟩
theorem up {k k' : Nat} (hk : k ≤ k') {m : M} {r : DX × St} (h : mexec P G fn (call P G k) k m s = some r) : mexec P G fn (call P G k') k' m s = some r := mexec_mono (call_mono hk) hk m h
theorem X_seq {a b : M} : X P G fn (.seq a b) s Q ↔ X P G fn a s (kS P G fn b Q) := by
  constructor
  · rintro ⟨k, x, r, h, q⟩
    simp only [mexec] at h
    split at h
    · rename_i s' h1
      exact ⟨k, .normal, s', h1, k, x, r, h, q⟩
    · rename_i hne
      refine ⟨k, x, r, h, ?_⟩
      cases x with
      | normal => exact absurd h (hne r)
      | exit id => exact q
      | ret => exact q
  · rintro ⟨k, x, r, h, q⟩
    cases x with
    | normal =>
      obtain ⟨k', x', r', h', q'⟩ := q
      refine ⟨max k k', x', r', ?_, q'⟩
      simp only [mexec, up (Nat.le_max_left k k') h]
      exact up (Nat.le_max_right k k') h'
    | exit id => exact ⟨k, .exit id, r, by simp only [mexec, h], q⟩
    | ret => exact ⟨k, .ret, r, by simp only [mexec, h], q⟩
theorem X_cond {c : XA} {a b : M} : X P G fn (.cond c a b) s Q ↔ condX P G fn a b s Q (asB (evX s.t c)) := by
  constructor
  · rintro ⟨k, x, r, h, q⟩
    simp only [mexec] at h
    split at h
    · rename_i hb; rw [hb]; exact ⟨k, x, r, h, q⟩
    · rename_i hb; rw [hb]; exact ⟨k, x, r, h, q⟩
    · cases h
  · intro h
    cases hb : asB (evX s.t c) with
    | none => rw [hb] at h; exact h.elim
    | some b =>
      rw [hb] at h
      cases b with
      | true => obtain ⟨k, x, r, h, q⟩ := h; exact ⟨k, x, r, by simp only [mexec, hb, h], q⟩
      | false => obtain ⟨k, x, r, h, q⟩ := h; exact ⟨k, x, r, by simp only [mexec, hb, h], q⟩
theorem X_block {id : Nat} {c : M} : X P G fn (.block id c) s Q ↔ X P G fn c s (kB id Q) := by
  constructor
  · rintro ⟨k, x, r, h, q⟩
    simp only [mexec] at h
    split at h
    · rename_i j s' h1
      split at h
      · rename_i hj; cases h; exact ⟨k, .exit j, _, h1, by simp only [kB, if_pos hj]; exact q⟩
      · rename_i hj; cases h; exact ⟨k, .exit j, _, h1, by simp only [kB, if_neg hj]; exact q⟩
    · rename_i hne
      refine ⟨k, x, r, h, ?_⟩
      cases x with
      | normal => exact q
      | exit id => exact absurd h (hne id r)
      | ret => exact q
  · rintro ⟨k, x, r, h, q⟩
    cases x with
    | normal => exact ⟨k, .normal, r, by simp only [mexec, h], q⟩
    | ret => exact ⟨k, .ret, r, by simp only [mexec, h], q⟩
    | exit j =>
      by_cases hj : j = id
      · simp only [kB, if_pos hj] at q
        exact ⟨k, .normal, r, by simp only [mexec, h, if_pos hj], q⟩
      · simp only [kB, if_neg hj] at q
        exact ⟨k, .exit j, r, by simp only [mexec, h, if_neg hj], q⟩
theorem X_reg {dr : Option (Array Nat)} {ops : List MO} : X P G fn (.reg dr ops) s Q ↔ Ops P G fn ops s.nx dr [] { s with nx := s.nx + ops.length } Q := by
  constructor
  · rintro ⟨k, x, r, h, q⟩
    simp only [mexec] at h
    split at h
    · rename_i s' ls h1
      split at h
      · rename_i hi; cases h; exact ⟨k, _, ls, h1, by simpa using hi, q⟩
      · cases h
    · cases h
  · rintro ⟨k, s', ls, h, hi, q⟩
    exact ⟨k, .normal, s', by simp only [mexec, h]; rw [if_pos (by simpa using hi)], q⟩
theorem Ops_nil {id : Nat} {dr : Option (Array Nat)} {lg : List Log} : Ops P G fn [] id dr lg s Q ↔ indepO dr lg.reverse = true ∧ Q .normal s := by
  constructor
  · rintro ⟨k, s', ls, h, hi, q⟩
    simp only [mrun] at h
    cases h
    exact ⟨by simpa using hi, q⟩
  · rintro ⟨hi, q⟩
    exact ⟨0, s, [], rfl, by simpa using hi, q⟩
theorem upR {k k' : Nat} (hk : k ≤ k') {id : Nat} {ms : List MO} {r : St × List Log} (h : mrun P G fn (call P G k) id ms s = some r) : mrun P G fn (call P G k') id ms s = some r := mrun_mono (call_mono hk) h
theorem Ops_cons {o : MO} {os : List MO} {id : Nat} {dr : Option (Array Nat)} {lg : List Log} : Ops P G fn (o :: os) id dr lg s Q ↔ opsW P G fn o os id dr lg s Q (wM o.g s.t) := by
  constructor
  · rintro ⟨k, s', ls, h, hi, q⟩
    simp only [mrun] at h
    split at h
    · rename_i hw
      rw [hw]
      split at h
      · rename_i s1 l1 hst
        simp only [opsW, mstep_mono (callR_le P G k) hst]
        split at h
        · rename_i s2 l2 hrec
          cases h
          exact ⟨k, _, l2, hrec, by simpa using hi, q⟩
        · cases h
      · cases h
    · rename_i hw
      rw [hw]
      simp only [opsW]
      split at h
      · rename_i s2 l2 hrec
        cases h
        exact ⟨k, _, l2, hrec, by simpa using hi, q⟩
      · cases h
    · cases h
  · intro h
    cases hw : wM o.g s.t with
    | none => rw [hw] at h; exact h.elim
    | some b =>
      rw [hw] at h
      cases b with
      | true =>
        simp only [opsW] at h
        cases hst : mstep P G fn (callR P G) o id s with
        | none => rw [hst] at h; exact h.elim
        | some r =>
          obtain ⟨s1, l1⟩ := r
          rw [hst] at h
          obtain ⟨k', hk'⟩ := mstepR.1 hst
          obtain ⟨k, s', ls, h1, hi, q⟩ := h
          refine ⟨max k k', s', l1 :: ls, ?_, by simpa using hi, q⟩
          simp only [mrun, hw, mstep_mono (call_mono (Nat.le_max_right k k')) hk', upR (Nat.le_max_left k k') h1]
      | false =>
        simp only [opsW] at h
        obtain ⟨k, s', ls, h1, hi, q⟩ := h
        exact ⟨k, s', {} :: ls, by simp only [mrun, hw, h1], by simpa using hi, q⟩
def wrOps (i : Nat) : List MO → Bool
  | [] => false
  | o :: os => (match o.dst with | some d => d == i | none => false) || wrOps i os
def wrM (i : Nat) : M → Bool
  | .reg _ ops => wrOps i ops
  | .seq a b => wrM i a || wrM i b
  | .cond _ a b => wrM i a || wrM i b
  | .block _ c => wrM i c
  | .loop c => wrM i c
  | _ => false
theorem putD_get {t : PT DV} {d : Option Nat} {v : DV} {i : Nat} (hd : (match d with | some d => d == i | none => false) = false) : (putD t d v).get i = t.get i := by
  cases d with
  | none => rfl
  | some d => exact PT.get_set_ne t _ (by simpa using hd)
theorem mstep_frame {cl : CallF} {o : MO} {id i : Nat} {r : St × Log} (hd : (match o.dst with | some d => d == i | none => false) = false) (h : mstep P G fn cl o id s = some r) : r.1.t.get i = s.t.get i := by
  have eff : ∀ q, effS o.dst s q = some r → r.1.t.get i = s.t.get i := by
    intro q hq
    unfold effS at hq
    split at hq
    · cases hq; exact putD_get hd
    · cases hq
  have call : ∀ g xs, mCall G fn cl g xs o.dst id s = some r → r.1.t.get i = s.t.get i := by
    intro g xs h
    unfold mCall at h
    split at h
    · split at h
      · cases h; exact putD_get hd
      · cases h
    · split at h
      · exact eff _ h
      · cases h
    · exact eff _ h
  unfold mstep at h
  split at h
  · exact call _ _ h
  · unfold callvX at h
    split at h
    · split at h
      · exact call _ _ h
      · cases h
    · cases h
  · exact eff _ h
theorem mrun_frame {cl : CallF} {i : Nat} : ∀ {ms : List MO} {id : Nat} {s : St} {r : St × List Log}, wrOps i ms = false → mrun P G fn cl id ms s = some r → r.1.t.get i = s.t.get i
  | [], id, s, r, _, h => by simp only [mrun] at h; cases h; rfl
  | o :: os, id, s, r, hw, h => by
    simp only [wrOps, Bool.or_eq_false_iff] at hw
    simp only [mrun] at h
    split at h
    · split at h
      · rename_i hst
        split at h
        · rename_i hrec
          cases h
          exact (mrun_frame hw.2 hrec).trans (mstep_frame hw.1 hst)
        · cases h
      · cases h
    · split at h
      · rename_i hrec
        cases h
        exact (mrun_frame hw.2 hrec).trans (putD_get hw.1)
      · cases h
    · cases h
theorem iter_frame {f : St → Option (DX × St)} {i : Nat} (hf : ∀ s r, f s = some r → r.2.t.get i = s.t.get i) : ∀ {n : Nat} {s : St} {r : DX × St}, iter f n s = some r → r.2.t.get i = s.t.get i
  | 0, s, r, h => by simp [iter] at h
  | n + 1, s, r, h => by
    simp only [iter] at h
    split at h
    · rename_i s' hs
      exact (iter_frame hf h).trans (hf _ _ hs)
    · exact hf _ _ h
theorem mexec_frame {cl : CallF} {i k : Nat} : ∀ (m : M) {s : St} {r : DX × St}, wrM i m = false → mexec P G fn cl k m s = some r → r.2.t.get i = s.t.get i
  | .skip, s, r, _, h => by simp only [mexec] at h; cases h; rfl
  | .exit _, s, r, _, h => by simp only [mexec] at h; cases h; rfl
  | .ret, s, r, _, h => by simp only [mexec] at h; cases h; rfl
  | .reg dr ops, s, r, hw, h => by
    simp only [mexec] at h
    split at h
    · rename_i hr
      split at h
      · cases h; exact mrun_frame (s := { s with nx := s.nx + ops.length }) hw hr
      · cases h
    · cases h
  | .seq a b, s, r, hw, h => by
    simp only [wrM, Bool.or_eq_false_iff] at hw
    simp only [mexec] at h
    split at h
    · rename_i h1; exact (mexec_frame b hw.2 h).trans (mexec_frame a hw.1 h1)
    · exact mexec_frame a hw.1 h
  | .cond c a b, s, r, hw, h => by
    simp only [wrM, Bool.or_eq_false_iff] at hw
    simp only [mexec] at h
    split at h
    · exact mexec_frame a hw.1 h
    · exact mexec_frame b hw.2 h
    · cases h
  | .block id c, s, r, hw, h => by
    simp only [mexec] at h
    split at h
    · rename_i h1
      have := mexec_frame c hw h1
      split at h
      · cases h; exact this
      · cases h; exact this
    · exact mexec_frame c hw h
  | .loop c, s, r, hw, h => by
    simp only [mexec] at h
    exact iter_frame (fun s r h => mexec_frame c hw h) h
def kL (I : Nat → St → Prop) (m : Nat) (Q : DX → St → Prop) : DX → St → Prop
  | .normal, s => ∃ m', m' < m ∧ I m' s
  | x, s => Q x s
theorem X_loop {c : M} (I : Nat → St → Prop) (m0 : Nat) (h0 : I m0 s) (hb : ∀ m s', (∀ i, wrM i c = false → s'.t.get i = s.t.get i) → I m s' → X P G fn c s' (kL I m Q)) : X P G fn (.loop c) s Q := by
  have : ∀ (m : Nat) (s' : St), (∀ i, wrM i c = false → s'.t.get i = s.t.get i) → I m s' → ∃ k n x r, iter (mexec P G fn (call P G k) k c) n s' = some (x, r) ∧ Q x r := by
    intro m
    induction m using Nat.strongRecOn with
    | _ m ih =>
      intro s' hf hI
      obtain ⟨k, x, r, h, q⟩ := hb m s' hf hI
      cases x with
      | normal =>
        obtain ⟨m', hlt, hI'⟩ := q
        obtain ⟨k', n, x', r', h', q'⟩ := ih m' hlt r (fun i hi => (mexec_frame c hi h).trans (hf i hi)) hI'
        refine ⟨max k k', n + 1, x', r', ?_, q'⟩
        simp only [iter, up (Nat.le_max_left k k') h]
        exact iter_mono (fun s r h => up (Nat.le_max_right k k') h) (Nat.le_refl _) h'
      | exit id => exact ⟨k, 1, .exit id, r, by simp only [iter, h], q⟩
      | ret => exact ⟨k, 1, .ret, r, by simp only [iter, h], q⟩
  obtain ⟨k, n, x, r, h, q⟩ := this m0 s (fun _ _ => rfl) h0
  refine ⟨max k n, x, r, ?_, q⟩
  simp only [mexec]
  exact iter_mono (fun s r h => up (Nat.le_max_left k n) h) (Nat.le_max_right k n) h
def resX (r : RV) (s : St) : Option DV := match r with
  | .tmp i => some ((s.t.get i).getD (.p (.tup [])))
  | .cell a g k => match s.t.get a with
    | some x => (ldX g k x s.h).map (·.dv)
    | none => none
def resultsX (rs : List RV) (s : St) : Option DV := match rs with
  | [r] => resX r s
  | rs => (optL (fun r => resX r s) rs).map mkTup
theorem resX_ok {r : ResultVar} {x : RV} (hc : cRes P r = some x) {s : St} {d : DV} (h : resX x s = some d) : resD P r s = some d := by
  cases r with
  | tmp i => simp only [cRes] at hc; cases hc; exact h
  | cell a t =>
    simp only [cRes] at hc
    split at hc
    · rename_i g k h1 h2
      cases hc
      simp only [resX] at h
      simp only [resD]
      split at h
      · rename_i x hx
        rw [hx]
        obtain ⟨e, h3, h4⟩ := map_bind h
        have : ld P t x s.h = some e := by
          simp only [ld, h1, h2]
          unfold ldX at h3
          split at h3
          · exact h3
          · exact h3
          · cases h3
        simp only [this, Option.map_some, h4]
      · cases h
    · cases hc
theorem optL_map2 {α β γ : Type} {c : α → Option β} {f : β → Option γ} {g : α → Option γ} (hg : ∀ a b d, c a = some b → f b = some d → g a = some d) : ∀ {l : List α} {xs : List β} {ys : List γ}, optL c l = some xs → optL f xs = some ys → optL g l = some ys
  | [], xs, ys, h1, h2 => by simp only [optL] at h1; cases h1; exact h2
  | a :: l, xs, ys, h1, h2 => by
    simp only [optL] at h1
    cases ha : c a with
    | none => rw [ha] at h1; cases h1
    | some b =>
      rw [ha] at h1
      cases hl : optL c l with
      | none => rw [hl] at h1; cases h1
      | some bs =>
        rw [hl] at h1
        cases h1
        simp only [optL] at h2
        cases hb : f b with
        | none => rw [hb] at h2; cases h2
        | some d =>
          rw [hb] at h2
          cases hbs : optL f bs with
          | none => rw [hbs] at h2; cases h2
          | some ds =>
            rw [hbs] at h2
            cases h2
            simp only [optL, hg a b d ha hb, optL_map2 hg hl hbs]
theorem resultsX_ok {rs : List ResultVar} {xs : List RV} (hc : optL (cRes P) rs = some xs) {s : St} {d : DV} (h : resultsX xs s = some d) : results P rs s = some d := by
  have hl := (optL_len hc).1
  unfold resultsX at h
  split at h
  · rename_i r
    match rs, hc, hl with
    | [r'], hc, _ =>
      simp only [optL] at hc
      cases h1 : cRes P r' with
      | none => rw [h1] at hc; cases hc
      | some y => rw [h1] at hc; cases hc; exact resX_ok h1 h
    | [], _, hl => simp at hl
    | _ :: _ :: _, _, hl => simp at hl
  · rename_i hne
    obtain ⟨ys, h1, h2⟩ := map_bind h
    have := optL_map2 (fun a b d ha hb => resX_ok ha hb) hc h1
    unfold results
    split
    · rename_i r
      cases xs with
      | nil => simp at hl
      | cons x xs => cases xs with
        | nil => exact absurd rfl (hne x)
        | cons y ys => simp at hl
    · rw [this, Option.map_some, h2]
def Ret (rs : List RV) (R : DV → PT AObj → Nat → Prop) : DX → St → Prop
  | .exit _, _ => False
  | _, s => ∃ r, resultsX rs s = some r ∧ R r s.h s.nx
theorem comp_spec {f : FuncId} {m : MF} (hc : comp P G f = some m) : ∃ fn c, P.funcs[f]? = some fn ∧ fn.body = some c ∧ cCode P G f c = some m.body ∧ fn.ntmps = m.n ∧ optL (cRes P) fn.results.toList = some m.res := by
  unfold comp at hc
  split at hc
  · rename_i fn hf
    split at hc
    · rename_i c hb
      split at hc
      · rename_i b rs h1 h2
        cases hc
        exact ⟨fn, c, hf, hb, h1, rfl, h2⟩
      · cases hc
    · cases hc
  · cases hc
theorem callR_body {f : FuncId} {m : MF} (hc : comp P G f = some m) {xs : List DV} (hl : xs.length ≤ m.n) {h : PT AObj} {nx : Nat} {R : DV → PT AObj → Nat → Prop} (hx : X P G f m.body ⟨argsT 0 xs .leaf, h, nx⟩ (Ret m.res R)) : ∃ r h' n', callR P G f xs h nx = some (r, h', n') ∧ R r h' n' := by
  obtain ⟨fn, c, hf, hb, hcc, hn, hr⟩ := comp_spec hc
  obtain ⟨k, x, s, h1, h2⟩ := hx
  have h3 := mexec_ok c hcc h1
  cases x with
  | exit id => exact h2.elim
  | normal =>
    obtain ⟨r, h4, h5⟩ := h2
    refine ⟨r, s.h, s.nx, callR_of P G (k := k + 1) ?_, h5⟩
    simp only [call, hf, hb, hn, hl, if_true, h3, resultsX_ok hr h4, Option.map_some]
  | ret =>
    obtain ⟨r, h4, h5⟩ := h2
    refine ⟨r, s.h, s.nx, callR_of P G (k := k + 1) ?_, h5⟩
    simp only [call, hf, hb, hn, hl, if_true, h3, resultsX_ok hr h4, Option.map_some]
theorem res_body {f : FuncId} {m : MF} (hc : comp P G f = some m) {ps : List PDV} (hl : ps.length ≤ m.n) {q : PDV} (hx : X P G f m.body ⟨argsT 0 (ps.map .p) .leaf, .leaf, 0⟩ (Ret m.res fun r h _ => (snap h r).map (·.1) = some q)) : res P G f ps = some q := by
  obtain ⟨r, h', n', h1, h2⟩ := callR_body hc (by simpa using hl) hx
  unfold res
  rw [h1]
  exact h2
theorem callP_res {f : FuncId} {ps : List PDV} {q : PDV} (h : res P G f ps = some q) : ∃ k, callP P G k f ps = some q := by
  unfold res at h
  split at h
  · rename_i r h' n' hc
    obtain ⟨k, hk⟩ := callR_some P G hc
    refine ⟨k, ?_⟩
    unfold callP
    rw [hk]
    exact h
  · cases h
end
end Go.Proofs.YtddmnddocbmjnaaGreat.Dv
namespace Go.Proofs.YtddmnddocbmjnaaGreat.Dv
def i64 (n : Int) : PDV := .s (.int .i64 n)
def intsP : PDV → Option (List Int)
  | .lst l => optL (fun d => match d with
    | .s (.int .i64 n) => some n
    | _ => none) l
  | _ => none
def overP : PDV → Option Int
  | .agg [_, _, _, _, _, _, .s (.int .i64 o)] => some o
  | _ => none
def overL (os ks : List Int) : List (PDV × DV) := ks.filterMap fun k => match os[k.toNat]? with
  | some o => if ks.contains o then some (i64 k, .p (i64 o)) else none
  | none => none
def overX : ExtF := fun xs h id => match xs with
  | [.p (.lst cs), .p (.agg [.lst ps])] => match optL overP cs, optL intsP ps with
    | some os, some zs => if zs.flatten.Nodup ∧ (zs.flatten.all fun k => decide (0 ≤ k) && decide (k < os.length)) = true ∧ zs.length ≤ 4096 ∧ (zs.all fun z => decide (z.length ≤ 4096)) = true then some { dv := .mm id, up := [(id, some (.map (overL os zs.flatten)))] } else none
    | _, _ => none
  | _ => none
def intsL : List DV → Option (List Int)
  | [] => some []
  | .p (.s (.int .i64 n)) :: ds => match intsL ds with
    | some l => some (n :: l)
    | none => none
  | _ => none
def put1 (x : Int) : List Int → List Int
  | [] => [x]
  | y :: l => if x ≤ y then x :: y :: l else y :: put1 x l
def isort : List Int → List Int
  | [] => []
  | x :: l => put1 x (isort l)
def sortX : ExtF := fun xs h id => match xs with
  | [.ms i off len av none] => match h.get i with
    | some (.cells cs false) => if off + len ≤ cs.length ∧ len ≤ 4096 then match intsL ((cs.drop off).take len) with
      | some zs => some { dv := .p (.tup []), rd := [i], up := [(i, some (.cells (setAt cs off ((isort zs).map fun n => .p (.s (.int .i64 n)))) false))] }
      | none => none else none
    | _ => none
  | [.nil] => some { dv := .p (.tup []) }
  | _ => none
abbrev T3 := Int × Int × Int
def trips : List Int → Option (List T3)
  | [] => some []
  | a :: b :: c :: l => match trips l with
    | some r => some ((a, b, c) :: r)
    | none => none
  | _ => none
def le3 (a b : T3) : Bool := if a.1 = b.1 then (if a.2.1 = b.2.1 then decide (a.2.2 ≤ b.2.2) else decide (a.2.1 ≤ b.2.1)) else decide (a.1 ≤ b.1)
def put3 (x : T3) : List T3 → List T3
  | [] => [x]
  | y :: l => if le3 x y then x :: y :: l else y :: put3 x l
def isort3 : List T3 → List T3
  | [] => []
  | x :: l => put3 x (isort3 l)
def cells3 (l : List T3) : List DV := l.flatMap fun x => [.p (i64 x.1), .p (i64 x.2.1), .p (i64 x.2.2)]
def sort3X : ExtF := fun xs h id => match xs with
  | [.ms i off len av (some 3), .p (.s (.func (.func g) fi ca))] => if g = 45 ∧ fi.size = 0 ∧ ca.size = 0 then match h.get i with
    | some (.cells cs false) => if off + len * 3 ≤ cs.length ∧ len ≤ 4096 then match (intsL ((cs.drop off).take (len * 3))).bind trips with
      | some zs => some { dv := .p (.tup []), rd := [i], up := [(i, some (.cells (setAt cs off (cells3 (isort3 zs))) false))] }
      | none => none else none
    | _ => none else none
  | [.nil, .p (.s (.func (.func g) fi ca))] => some { dv := .p (.tup []) }
  | _ => none
def refs : List Nat := [59, 206, 227, 228, 93]
def arrs : List Nat := [69, 57, 93, 176, 24]
def exts : List (Nat × ExtF) := [(44, sort3X), (226, overX), (58, sortX)]
def G0 : Cfg where
  mode := fun _ g => if refs.contains g then .ref else if g == 57 then .ownA else if (exts.find? (·.1 == g)).isSome then .ext else .pure
  arr := fun f => arrs.contains f
  ext := fun f => (exts.find? (·.1 == f)).map (·.2)
end Go.Proofs.YtddmnddocbmjnaaGreat.Dv
namespace Go.Proofs.YtddmnddocbmjnaaGreat.Dv
def codeB (P : Program) : Bool := P.funcs.all fun fn => match fn.body with
  | some c => okCode fn.ntmps c
  | none => true
theorem codeB_ok {P : Program} (h : codeB P = true) : CodeOK P := by
  intro f fn c hf hb
  unfold codeB at h
  rw [Array.all_eq_true] at h
  obtain ⟨hl, he⟩ := Array.getElem?_eq_some_iff.1 hf
  have := h f hl
  rw [he, hb] at this
  exact this
theorem mixed : Tryz.prog.follows .mixedOrders = true := by kernel_rfl
theorem codeOK : CodeOK Tryz.prog := codeB_ok (by kernel_rfl)
end Go.Proofs.YtddmnddocbmjnaaGreat.Dv
namespace Go.Proofs.YtddmnddocbmjnaaGreat.Dv
abbrev I (n : Int) : PDV := .s (.int .i64 n)
abbrev B (b : Bool) : PDV := .s (.bool b)
abbrev L (l : List Int) : PDV := .lst (l.map I)
theorem opsW_none {P : Program} {G : Cfg} {fn : FuncId} {Q : DX → St → Prop} {o : MO} {os : List MO} {id : Nat} {dr : Option (Array Nat)} {lg : List Log} {s : St} : opsW P G fn o os id dr lg s Q (some true) ↔ opsK P G fn os (id + 1) dr lg Q (mstep P G fn (callR P G) o id s) := Iff.rfl
theorem opsW_false {P : Program} {G : Cfg} {fn : FuncId} {Q : DX → St → Prop} {o : MO} {os : List MO} {id : Nat} {dr : Option (Array Nat)} {lg : List Log} {s : St} : opsW P G fn o os id dr lg s Q (some false) ↔ Ops P G fn os (id + 1) dr ({} :: lg) { s with t := putD s.t o.dst (.p (.tup [])) } Q := Iff.rfl
theorem opsK_some {P : Program} {G : Cfg} {fn : FuncId} {Q : DX → St → Prop} {os : List MO} {id : Nat} {dr : Option (Array Nat)} {lg : List Log} {s : St} {l : Log} : opsK P G fn os id dr lg Q (some (s, l)) ↔ Ops P G fn os id dr (l :: lg) s Q := Iff.rfl
theorem condX_true {P : Program} {G : Cfg} {fn : FuncId} {Q : DX → St → Prop} {a b : M} {s : St} : condX P G fn a b s Q (some true) ↔ X P G fn a s Q := Iff.rfl
theorem condX_false {P : Program} {G : Cfg} {fn : FuncId} {Q : DX → St → Prop} {a b : M} {s : St} : condX P G fn a b s Q (some false) ↔ X P G fn b s Q := Iff.rfl
theorem kS_normal {P : Program} {G : Cfg} {fn : FuncId} {Q : DX → St → Prop} {b : M} {s : St} : kS P G fn b Q .normal s ↔ X P G fn b s Q := Iff.rfl
theorem kS_ret {P : Program} {G : Cfg} {fn : FuncId} {Q : DX → St → Prop} {b : M} {s : St} : kS P G fn b Q .ret s ↔ Q .ret s := Iff.rfl
theorem kS_exit {P : Program} {G : Cfg} {fn : FuncId} {Q : DX → St → Prop} {b : M} {s : St} {j : Nat} : kS P G fn b Q (.exit j) s ↔ Q (.exit j) s := Iff.rfl
theorem kB_normal {Q : DX → St → Prop} {s : St} {i : Nat} : kB i Q .normal s ↔ Q .normal s := Iff.rfl
theorem kB_ret {Q : DX → St → Prop} {s : St} {i : Nat} : kB i Q .ret s ↔ Q .ret s := Iff.rfl
theorem kB_exit {Q : DX → St → Prop} {s : St} {i j : Nat} : kB i Q (.exit j) s ↔ if j = i then Q .normal s else Q (.exit j) s := Iff.rfl
theorem kL_normal {Q : DX → St → Prop} {s : St} {J : Nat → St → Prop} {m : Nat} : kL J m Q .normal s ↔ ∃ m', m' < m ∧ J m' s := Iff.rfl
theorem kL_ret {Q : DX → St → Prop} {s : St} {J : Nat → St → Prop} {m : Nat} : kL J m Q .ret s ↔ Q .ret s := Iff.rfl
theorem kL_exit {Q : DX → St → Prop} {s : St} {J : Nat → St → Prop} {m j : Nat} : kL J m Q (.exit j) s ↔ Q (.exit j) s := Iff.rfl
theorem effS_some {dst : Option Nat} {s : St} {e : Eff} : effS dst s (some e) = some (⟨putD s.t dst e.dv, applyUp s.h e.up, s.nx⟩, { ran := true, rd := e.rd, wr := e.up.map (·.1) }) := rfl
theorem putD_some {t : PT DV} {d : Nat} {v : DV} : putD t (some d) v = t.set d (some v) := rfl
theorem putD_none {t : PT DV} {v : DV} : putD t none v = t := rfl
theorem up_nil {h : PT AObj} : applyUp h [] = h := rfl
theorem up_cons {h : PT AObj} {u : Nat × Option AObj} {us : List (Nat × Option AObj)} : applyUp h (u :: us) = applyUp (h.set u.1 u.2) us := rfl
theorem wM_none {t : PT DV} : wM none t = some true := rfl
theorem evX_d {t : PT DV} {v : DV} : evX t (.d v) = v := rfl
theorem evX_t {t : PT DV} {i : Nat} : evX t (.t i) = (t.get i).getD (.p (.tup [])) := rfl
theorem Ret_normal {m : List RV} {R : DV → PT AObj → Nat → Prop} {s : St} : Ret m R .normal s ↔ ∃ r, resultsX m s = some r ∧ R r s.h s.nx := Iff.rfl
theorem Ret_ret {m : List RV} {R : DV → PT AObj → Nat → Prop} {s : St} : Ret m R .ret s ↔ ∃ r, resultsX m s = some r ∧ R r s.h s.nx := Iff.rfl
def quietL (l : Log) : Bool := !l.big && l.rd.isEmpty && l.wr.isEmpty
theorem iop_lss {k : IntKind} {a b : Int} : iopX .lss (.p (.s (.int k a))) (.p (.s (.int k b))) = some (.p (.s (.bool (decide (a < b))))) := by simp [iopX, binI, isCmp, cmpI]
theorem iop_leq {k : IntKind} {a b : Int} : iopX .leq (.p (.s (.int k a))) (.p (.s (.int k b))) = some (.p (.s (.bool (decide (a ≤ b))))) := by simp [iopX, binI, isCmp, cmpI]
theorem iop_gtr {k : IntKind} {a b : Int} : iopX .gtr (.p (.s (.int k a))) (.p (.s (.int k b))) = some (.p (.s (.bool (decide (b < a))))) := by simp [iopX, binI, isCmp, cmpI]
theorem iop_geq {k : IntKind} {a b : Int} : iopX .geq (.p (.s (.int k a))) (.p (.s (.int k b))) = some (.p (.s (.bool (decide (b ≤ a))))) := by simp [iopX, binI, isCmp, cmpI]
theorem iop_eql {k : IntKind} {a b : Int} : iopX .eql (.p (.s (.int k a))) (.p (.s (.int k b))) = some (.p (.s (.bool (decide (a = b))))) := by simp [iopX, binI, isCmp, cmpI]; rfl
theorem iop_neq {k : IntKind} {a b : Int} : iopX .neq (.p (.s (.int k a))) (.p (.s (.int k b))) = some (.p (.s (.bool (decide (a ≠ b))))) := by
  simp [iopX, binI, isCmp, cmpI]
  by_cases h : a = b <;> simp [h]
theorem iop_add {k : IntKind} {a b : Int} : iopX .add (.p (.s (.int k a))) (.p (.s (.int k b))) = some (.p (.s (.int k (k.wrap (a + b))))) := by simp [iopX, binI]
theorem iop_sub {k : IntKind} {a b : Int} : iopX .sub (.p (.s (.int k a))) (.p (.s (.int k b))) = some (.p (.s (.int k (k.wrap (a - b))))) := by simp [iopX, binI]
theorem iop_mul {k : IntKind} {a b : Int} : iopX .mul (.p (.s (.int k a))) (.p (.s (.int k b))) = some (.p (.s (.int k (k.wrap (a * b))))) := by simp [iopX, binI]
theorem wrap_id {n : Int} (h1 : -9223372036854775808 ≤ n) (h2 : n ≤ 9223372036854775807) : IntKind.wrap .i64 n = n := by
  unfold IntKind.wrap
  simp [IntKind.bits, IntKind.signed, IntKind.min, IntKind.max]
  omega
theorem asB_bool {b : Bool} : asB (.p (.s (.bool b))) = some b := rfl
theorem lenL_lst {l : List PDV} : lenLX (.p (.lst l)) = some (.p (.s (.int .i64 l.length))) := rfl
theorem iadrS_lst {k : Nat} {l : List PDV} {i : Nat} {d : PDV} (h : l[i]? = some d) (hk : k = d.cells.length) : iadrSX k (.p (.lst l)) (.p (.s (.int .i64 i))) = some (.p (.rp d.cells)) := by
  simp only [iadrSX, asI]
  rw [if_neg (by omega)]
  simp [h, hk]
end Go.Proofs.YtddmnddocbmjnaaGreat.Dv
namespace Go.Proofs.YtddmnddocbmjnaaGreat.Dv
abbrev LL (l : List (List Int)) : PDV := .lst (l.map L)
structure VGrid where
  weeks : Int
  days : Int
  slots : Int
  deriving DecidableEq
def VGrid.P (x : VGrid) : PDV := .agg [I x.weeks, I x.days, I x.slots]
theorem VGrid_len (x : VGrid) : x.P.cells.length = 3 := rfl
theorem VGrid_dlen (x : VGrid) : (DV.cells (.p x.P)).length = 3 := rfl
theorem VGrid_dc (x : VGrid) : DV.cells (.p x.P) = x.P.cells.map .p := rfl
theorem VGrid_tup (x : VGrid) : (DV.p x.P).tupB = false := rfl
theorem VGrid_ld (x : VGrid) {h : PT AObj} : ldX true 3 (.p (.rp x.P.cells)) h = some { dv := .p x.P } := rfl
theorem VGrid_ldb (x : VGrid) : mkAgg ((DV.cells (.p x.P)).take 3) = .p x.P := rfl
theorem VGrid_setb (x y : VGrid) : setAt (DV.cells (.p x.P)) 0 (DV.cells (.p y.P)) = DV.cells (.p y.P) := rfl
theorem VGrid_st (x : VGrid) {a0 a1 a2 : DV} : setAt [a0, a1, a2] 0 (DV.cells (.p x.P)) = DV.cells (.p x.P) := rfl
theorem VGrid_f_weeks (x : VGrid) : fldX false 0 1 (.p x.P) = some (.p (I x.weeks)) := rfl
theorem VGrid_r_weeks (x : VGrid) {h : PT AObj} : ldX false 1 (.p (.rp (x.P.cells))) h = some { dv := .p (I x.weeks) } := rfl
theorem VGrid_b_weeks (x : VGrid) : (DV.cells (.p x.P))[0]? = some (.p (I x.weeks)) := rfl
theorem VGrid_f_days (x : VGrid) : fldX false 1 1 (.p x.P) = some (.p (I x.days)) := rfl
theorem VGrid_r_days (x : VGrid) {h : PT AObj} : ldX false 1 (.p (.rp ((x.P.cells).drop 1))) h = some { dv := .p (I x.days) } := rfl
theorem VGrid_b_days (x : VGrid) : (DV.cells (.p x.P))[1]? = some (.p (I x.days)) := rfl
theorem VGrid_f_slots (x : VGrid) : fldX false 2 1 (.p x.P) = some (.p (I x.slots)) := rfl
theorem VGrid_r_slots (x : VGrid) {h : PT AObj} : ldX false 1 (.p (.rp ((x.P.cells).drop 2))) h = some { dv := .p (I x.slots) } := rfl
theorem VGrid_b_slots (x : VGrid) : (DV.cells (.p x.P))[2]? = some (.p (I x.slots)) := rfl
structure VWhen where
  weeks : Fin 4294967296
  days : Fin 256
  start : Int
  len : Int
  deriving DecidableEq
def VWhen.P (x : VWhen) : PDV := .agg [.s (.int .u32 (x.weeks.val : Int)), .s (.int .u8 (x.days.val : Int)), I x.start, I x.len]
theorem VWhen_len (x : VWhen) : x.P.cells.length = 4 := rfl
theorem VWhen_dlen (x : VWhen) : (DV.cells (.p x.P)).length = 4 := rfl
theorem VWhen_tup (x : VWhen) : (DV.p x.P).tupB = false := rfl
theorem VWhen_ld (x : VWhen) {h : PT AObj} : ldX true 4 (.p (.rp x.P.cells)) h = some { dv := .p x.P } := rfl
theorem VWhen_ldb (x : VWhen) : mkAgg ((DV.cells (.p x.P)).take 4) = .p x.P := rfl
theorem VWhen_setb (x y : VWhen) : setAt (DV.cells (.p x.P)) 0 (DV.cells (.p y.P)) = DV.cells (.p y.P) := rfl
theorem VWhen_st (x : VWhen) {a0 a1 a2 a3 : DV} : setAt [a0, a1, a2, a3] 0 (DV.cells (.p x.P)) = DV.cells (.p x.P) := rfl
theorem VWhen_f_weeks (x : VWhen) : fldX false 0 1 (.p x.P) = some (.p (.s (.int .u32 (x.weeks.val : Int)))) := rfl
theorem VWhen_r_weeks (x : VWhen) {h : PT AObj} : ldX false 1 (.p (.rp (x.P.cells))) h = some { dv := .p (.s (.int .u32 (x.weeks.val : Int))) } := rfl
theorem VWhen_b_weeks (x : VWhen) : (DV.cells (.p x.P))[0]? = some (.p (.s (.int .u32 (x.weeks.val : Int)))) := rfl
theorem VWhen_f_days (x : VWhen) : fldX false 1 1 (.p x.P) = some (.p (.s (.int .u8 (x.days.val : Int)))) := rfl
theorem VWhen_r_days (x : VWhen) {h : PT AObj} : ldX false 1 (.p (.rp ((x.P.cells).drop 1))) h = some { dv := .p (.s (.int .u8 (x.days.val : Int))) } := rfl
theorem VWhen_b_days (x : VWhen) : (DV.cells (.p x.P))[1]? = some (.p (.s (.int .u8 (x.days.val : Int)))) := rfl
theorem VWhen_f_start (x : VWhen) : fldX false 2 1 (.p x.P) = some (.p (I x.start)) := rfl
theorem VWhen_r_start (x : VWhen) {h : PT AObj} : ldX false 1 (.p (.rp ((x.P.cells).drop 2))) h = some { dv := .p (I x.start) } := rfl
theorem VWhen_b_start (x : VWhen) : (DV.cells (.p x.P))[2]? = some (.p (I x.start)) := rfl
theorem VWhen_f_len (x : VWhen) : fldX false 3 1 (.p x.P) = some (.p (I x.len)) := rfl
theorem VWhen_r_len (x : VWhen) {h : PT AObj} : ldX false 1 (.p (.rp ((x.P.cells).drop 3))) h = some { dv := .p (I x.len) } := rfl
theorem VWhen_b_len (x : VWhen) : (DV.cells (.p x.P))[3]? = some (.p (I x.len)) := rfl
structure VRoom where
  name : ByteArray
  seats : Int
  gear : Fin 65536
  shut : List VWhen
  deriving DecidableEq
def VRoom.P (x : VRoom) : PDV := .agg [.s (.string x.name), I x.seats, .s (.int .u16 (x.gear.val : Int)), .lst (x.shut.map VWhen.P)]
theorem VRoom_len (x : VRoom) : x.P.cells.length = 4 := rfl
theorem VRoom_dlen (x : VRoom) : (DV.cells (.p x.P)).length = 4 := rfl
theorem VRoom_tup (x : VRoom) : (DV.p x.P).tupB = false := rfl
theorem VRoom_ld (x : VRoom) {h : PT AObj} : ldX true 4 (.p (.rp x.P.cells)) h = some { dv := .p x.P } := rfl
theorem VRoom_ldb (x : VRoom) : mkAgg ((DV.cells (.p x.P)).take 4) = .p x.P := rfl
theorem VRoom_setb (x y : VRoom) : setAt (DV.cells (.p x.P)) 0 (DV.cells (.p y.P)) = DV.cells (.p y.P) := rfl
theorem VRoom_st (x : VRoom) {a0 a1 a2 a3 : DV} : setAt [a0, a1, a2, a3] 0 (DV.cells (.p x.P)) = DV.cells (.p x.P) := rfl
theorem VRoom_f_name (x : VRoom) : fldX false 0 1 (.p x.P) = some (.p (.s (.string x.name))) := rfl
theorem VRoom_r_name (x : VRoom) {h : PT AObj} : ldX false 1 (.p (.rp (x.P.cells))) h = some { dv := .p (.s (.string x.name)) } := rfl
theorem VRoom_b_name (x : VRoom) : (DV.cells (.p x.P))[0]? = some (.p (.s (.string x.name))) := rfl
theorem VRoom_f_seats (x : VRoom) : fldX false 1 1 (.p x.P) = some (.p (I x.seats)) := rfl
theorem VRoom_r_seats (x : VRoom) {h : PT AObj} : ldX false 1 (.p (.rp ((x.P.cells).drop 1))) h = some { dv := .p (I x.seats) } := rfl
theorem VRoom_b_seats (x : VRoom) : (DV.cells (.p x.P))[1]? = some (.p (I x.seats)) := rfl
theorem VRoom_f_gear (x : VRoom) : fldX false 2 1 (.p x.P) = some (.p (.s (.int .u16 (x.gear.val : Int)))) := rfl
theorem VRoom_r_gear (x : VRoom) {h : PT AObj} : ldX false 1 (.p (.rp ((x.P.cells).drop 2))) h = some { dv := .p (.s (.int .u16 (x.gear.val : Int))) } := rfl
theorem VRoom_b_gear (x : VRoom) : (DV.cells (.p x.P))[2]? = some (.p (.s (.int .u16 (x.gear.val : Int)))) := rfl
theorem VRoom_f_shut (x : VRoom) : fldX false 3 1 (.p x.P) = some (.p (.lst (x.shut.map VWhen.P))) := rfl
theorem VRoom_r_shut (x : VRoom) {h : PT AObj} : ldX false 1 (.p (.rp ((x.P.cells).drop 3))) h = some { dv := .p (.lst (x.shut.map VWhen.P)) } := rfl
theorem VRoom_b_shut (x : VRoom) : (DV.cells (.p x.P))[3]? = some (.p (.lst (x.shut.map VWhen.P))) := rfl
structure VPerson where
  name : ByteArray
  away : List VWhen
  deriving DecidableEq
def VPerson.P (x : VPerson) : PDV := .agg [.s (.string x.name), .lst (x.away.map VWhen.P)]
theorem VPerson_len (x : VPerson) : x.P.cells.length = 2 := rfl
theorem VPerson_dlen (x : VPerson) : (DV.cells (.p x.P)).length = 2 := rfl
theorem VPerson_tup (x : VPerson) : (DV.p x.P).tupB = false := rfl
theorem VPerson_ld (x : VPerson) {h : PT AObj} : ldX true 2 (.p (.rp x.P.cells)) h = some { dv := .p x.P } := rfl
theorem VPerson_ldb (x : VPerson) : mkAgg ((DV.cells (.p x.P)).take 2) = .p x.P := rfl
theorem VPerson_setb (x y : VPerson) : setAt (DV.cells (.p x.P)) 0 (DV.cells (.p y.P)) = DV.cells (.p y.P) := rfl
theorem VPerson_st (x : VPerson) {a0 a1 : DV} : setAt [a0, a1] 0 (DV.cells (.p x.P)) = DV.cells (.p x.P) := rfl
theorem VPerson_f_name (x : VPerson) : fldX false 0 1 (.p x.P) = some (.p (.s (.string x.name))) := rfl
theorem VPerson_r_name (x : VPerson) {h : PT AObj} : ldX false 1 (.p (.rp (x.P.cells))) h = some { dv := .p (.s (.string x.name)) } := rfl
theorem VPerson_b_name (x : VPerson) : (DV.cells (.p x.P))[0]? = some (.p (.s (.string x.name))) := rfl
theorem VPerson_f_away (x : VPerson) : fldX false 1 1 (.p x.P) = some (.p (.lst (x.away.map VWhen.P))) := rfl
theorem VPerson_r_away (x : VPerson) {h : PT AObj} : ldX false 1 (.p (.rp ((x.P.cells).drop 1))) h = some { dv := .p (.lst (x.away.map VWhen.P)) } := rfl
theorem VPerson_b_away (x : VPerson) : (DV.cells (.p x.P))[1]? = some (.p (.lst (x.away.map VWhen.P))) := rfl
structure VTime where
  when : VWhen
  cost : Int
  deriving DecidableEq
def VTime.P (x : VTime) : PDV := .agg [.s (.int .u32 (x.when.weeks.val : Int)), .s (.int .u8 (x.when.days.val : Int)), I x.when.start, I x.when.len, I x.cost]
theorem VTime_len (x : VTime) : x.P.cells.length = 5 := rfl
theorem VTime_dlen (x : VTime) : (DV.cells (.p x.P)).length = 5 := rfl
theorem VTime_tup (x : VTime) : (DV.p x.P).tupB = false := rfl
theorem VTime_ld (x : VTime) {h : PT AObj} : ldX true 5 (.p (.rp x.P.cells)) h = some { dv := .p x.P } := rfl
theorem VTime_ldb (x : VTime) : mkAgg ((DV.cells (.p x.P)).take 5) = .p x.P := rfl
theorem VTime_setb (x y : VTime) : setAt (DV.cells (.p x.P)) 0 (DV.cells (.p y.P)) = DV.cells (.p y.P) := rfl
theorem VTime_st (x : VTime) {a0 a1 a2 a3 a4 : DV} : setAt [a0, a1, a2, a3, a4] 0 (DV.cells (.p x.P)) = DV.cells (.p x.P) := rfl
theorem VTime_f_when (x : VTime) : fldX true 0 4 (.p x.P) = some (.p (x.when).P) := rfl
theorem VTime_r_when (x : VTime) {h : PT AObj} : ldX true 4 (.p (.rp (x.P.cells))) h = some { dv := .p (x.when).P } := rfl
theorem VTime_b_when (x : VTime) : mkAgg (((DV.cells (.p x.P))).take 4) = .p (x.when).P := rfl
theorem VTime_r_when_weeks (x : VTime) {h : PT AObj} : ldX false 1 (.p (.rp ((x.P.cells)))) h = some { dv := .p (.s (.int .u32 (x.when.weeks.val : Int))) } := rfl
theorem VTime_b_when_weeks (x : VTime) : (DV.cells (.p x.P))[0]? = some (.p (.s (.int .u32 (x.when.weeks.val : Int)))) := rfl
theorem VTime_r_when_days (x : VTime) {h : PT AObj} : ldX false 1 (.p (.rp (((x.P.cells)).drop 1))) h = some { dv := .p (.s (.int .u8 (x.when.days.val : Int))) } := rfl
theorem VTime_b_when_days (x : VTime) : (DV.cells (.p x.P))[1]? = some (.p (.s (.int .u8 (x.when.days.val : Int)))) := rfl
theorem VTime_r_when_start (x : VTime) {h : PT AObj} : ldX false 1 (.p (.rp (((x.P.cells)).drop 2))) h = some { dv := .p (I x.when.start) } := rfl
theorem VTime_b_when_start (x : VTime) : (DV.cells (.p x.P))[2]? = some (.p (I x.when.start)) := rfl
theorem VTime_r_when_len (x : VTime) {h : PT AObj} : ldX false 1 (.p (.rp (((x.P.cells)).drop 3))) h = some { dv := .p (I x.when.len) } := rfl
theorem VTime_b_when_len (x : VTime) : (DV.cells (.p x.P))[3]? = some (.p (I x.when.len)) := rfl
theorem VTime_f_cost (x : VTime) : fldX false 4 1 (.p x.P) = some (.p (I x.cost)) := rfl
theorem VTime_r_cost (x : VTime) {h : PT AObj} : ldX false 1 (.p (.rp ((x.P.cells).drop 4))) h = some { dv := .p (I x.cost) } := rfl
theorem VTime_b_cost (x : VTime) : (DV.cells (.p x.P))[4]? = some (.p (I x.cost)) := rfl
structure VPlace where
  room : Int
  cost : Int
  deriving DecidableEq
def VPlace.P (x : VPlace) : PDV := .agg [I x.room, I x.cost]
theorem VPlace_len (x : VPlace) : x.P.cells.length = 2 := rfl
theorem VPlace_dlen (x : VPlace) : (DV.cells (.p x.P)).length = 2 := rfl
theorem VPlace_tup (x : VPlace) : (DV.p x.P).tupB = false := rfl
theorem VPlace_ld (x : VPlace) {h : PT AObj} : ldX true 2 (.p (.rp x.P.cells)) h = some { dv := .p x.P } := rfl
theorem VPlace_ldb (x : VPlace) : mkAgg ((DV.cells (.p x.P)).take 2) = .p x.P := rfl
theorem VPlace_setb (x y : VPlace) : setAt (DV.cells (.p x.P)) 0 (DV.cells (.p y.P)) = DV.cells (.p y.P) := rfl
theorem VPlace_st (x : VPlace) {a0 a1 : DV} : setAt [a0, a1] 0 (DV.cells (.p x.P)) = DV.cells (.p x.P) := rfl
theorem VPlace_f_room (x : VPlace) : fldX false 0 1 (.p x.P) = some (.p (I x.room)) := rfl
theorem VPlace_r_room (x : VPlace) {h : PT AObj} : ldX false 1 (.p (.rp (x.P.cells))) h = some { dv := .p (I x.room) } := rfl
theorem VPlace_b_room (x : VPlace) : (DV.cells (.p x.P))[0]? = some (.p (I x.room)) := rfl
theorem VPlace_f_cost (x : VPlace) : fldX false 1 1 (.p x.P) = some (.p (I x.cost)) := rfl
theorem VPlace_r_cost (x : VPlace) {h : PT AObj} : ldX false 1 (.p (.rp ((x.P.cells).drop 1))) h = some { dv := .p (I x.cost) } := rfl
theorem VPlace_b_cost (x : VPlace) : (DV.cells (.p x.P))[1]? = some (.p (I x.cost)) := rfl
structure VClass where
  name : ByteArray
  seats : Int
  gear : Fin 65536
  persons : List Int
  times : List VTime
  places : List VPlace
  over : Int
  deriving DecidableEq
def VClass.P (x : VClass) : PDV := .agg [.s (.string x.name), I x.seats, .s (.int .u16 (x.gear.val : Int)), L x.persons, .lst (x.times.map VTime.P), .lst (x.places.map VPlace.P), I x.over]
theorem VClass_len (x : VClass) : x.P.cells.length = 7 := rfl
theorem VClass_dlen (x : VClass) : (DV.cells (.p x.P)).length = 7 := rfl
theorem VClass_tup (x : VClass) : (DV.p x.P).tupB = false := rfl
theorem VClass_ld (x : VClass) {h : PT AObj} : ldX true 7 (.p (.rp x.P.cells)) h = some { dv := .p x.P } := rfl
theorem VClass_ldb (x : VClass) : mkAgg ((DV.cells (.p x.P)).take 7) = .p x.P := rfl
theorem VClass_setb (x y : VClass) : setAt (DV.cells (.p x.P)) 0 (DV.cells (.p y.P)) = DV.cells (.p y.P) := rfl
theorem VClass_st (x : VClass) {a0 a1 a2 a3 a4 a5 a6 : DV} : setAt [a0, a1, a2, a3, a4, a5, a6] 0 (DV.cells (.p x.P)) = DV.cells (.p x.P) := rfl
theorem VClass_f_name (x : VClass) : fldX false 0 1 (.p x.P) = some (.p (.s (.string x.name))) := rfl
theorem VClass_r_name (x : VClass) {h : PT AObj} : ldX false 1 (.p (.rp (x.P.cells))) h = some { dv := .p (.s (.string x.name)) } := rfl
theorem VClass_b_name (x : VClass) : (DV.cells (.p x.P))[0]? = some (.p (.s (.string x.name))) := rfl
theorem VClass_f_seats (x : VClass) : fldX false 1 1 (.p x.P) = some (.p (I x.seats)) := rfl
theorem VClass_r_seats (x : VClass) {h : PT AObj} : ldX false 1 (.p (.rp ((x.P.cells).drop 1))) h = some { dv := .p (I x.seats) } := rfl
theorem VClass_b_seats (x : VClass) : (DV.cells (.p x.P))[1]? = some (.p (I x.seats)) := rfl
theorem VClass_f_gear (x : VClass) : fldX false 2 1 (.p x.P) = some (.p (.s (.int .u16 (x.gear.val : Int)))) := rfl
theorem VClass_r_gear (x : VClass) {h : PT AObj} : ldX false 1 (.p (.rp ((x.P.cells).drop 2))) h = some { dv := .p (.s (.int .u16 (x.gear.val : Int))) } := rfl
theorem VClass_b_gear (x : VClass) : (DV.cells (.p x.P))[2]? = some (.p (.s (.int .u16 (x.gear.val : Int)))) := rfl
theorem VClass_f_persons (x : VClass) : fldX false 3 1 (.p x.P) = some (.p (L x.persons)) := rfl
theorem VClass_r_persons (x : VClass) {h : PT AObj} : ldX false 1 (.p (.rp ((x.P.cells).drop 3))) h = some { dv := .p (L x.persons) } := rfl
theorem VClass_b_persons (x : VClass) : (DV.cells (.p x.P))[3]? = some (.p (L x.persons)) := rfl
theorem VClass_f_times (x : VClass) : fldX false 4 1 (.p x.P) = some (.p (.lst (x.times.map VTime.P))) := rfl
theorem VClass_r_times (x : VClass) {h : PT AObj} : ldX false 1 (.p (.rp ((x.P.cells).drop 4))) h = some { dv := .p (.lst (x.times.map VTime.P)) } := rfl
theorem VClass_b_times (x : VClass) : (DV.cells (.p x.P))[4]? = some (.p (.lst (x.times.map VTime.P))) := rfl
theorem VClass_f_places (x : VClass) : fldX false 5 1 (.p x.P) = some (.p (.lst (x.places.map VPlace.P))) := rfl
theorem VClass_r_places (x : VClass) {h : PT AObj} : ldX false 1 (.p (.rp ((x.P.cells).drop 5))) h = some { dv := .p (.lst (x.places.map VPlace.P)) } := rfl
theorem VClass_b_places (x : VClass) : (DV.cells (.p x.P))[5]? = some (.p (.lst (x.places.map VPlace.P))) := rfl
theorem VClass_f_over (x : VClass) : fldX false 6 1 (.p x.P) = some (.p (I x.over)) := rfl
theorem VClass_r_over (x : VClass) {h : PT AObj} : ldX false 1 (.p (.rp ((x.P.cells).drop 6))) h = some { dv := .p (I x.over) } := rfl
theorem VClass_b_over (x : VClass) : (DV.cells (.p x.P))[6]? = some (.p (I x.over)) := rfl
structure VWay where
  parts : List (List Int)
  deriving DecidableEq
def VWay.P (x : VWay) : PDV := .agg [LL x.parts]
theorem VWay_len (x : VWay) : x.P.cells.length = 1 := rfl
theorem VWay_dlen (x : VWay) : (DV.cells (.p x.P)).length = 1 := rfl
theorem VWay_tup (x : VWay) : (DV.p x.P).tupB = false := rfl
theorem VWay_ld (x : VWay) {h : PT AObj} : ldX true 1 (.p (.rp x.P.cells)) h = some { dv := .p x.P } := rfl
theorem VWay_ldb (x : VWay) : mkAgg ((DV.cells (.p x.P)).take 1) = .p x.P := rfl
theorem VWay_setb (x y : VWay) : setAt (DV.cells (.p x.P)) 0 (DV.cells (.p y.P)) = DV.cells (.p y.P) := rfl
theorem VWay_st (x : VWay) {a0 : DV} : setAt [a0] 0 (DV.cells (.p x.P)) = DV.cells (.p x.P) := rfl
theorem VWay_f_parts (x : VWay) : fldX false 0 1 (.p x.P) = some (.p (LL x.parts)) := rfl
theorem VWay_r_parts (x : VWay) {h : PT AObj} : ldX false 1 (.p (.rp (x.P.cells))) h = some { dv := .p (LL x.parts) } := rfl
theorem VWay_b_parts (x : VWay) : (DV.cells (.p x.P))[0]? = some (.p (LL x.parts)) := rfl
structure VCourse where
  name : ByteArray
  ways : List VWay
  deriving DecidableEq
def VCourse.P (x : VCourse) : PDV := .agg [.s (.string x.name), .lst (x.ways.map VWay.P)]
theorem VCourse_len (x : VCourse) : x.P.cells.length = 2 := rfl
theorem VCourse_dlen (x : VCourse) : (DV.cells (.p x.P)).length = 2 := rfl
theorem VCourse_tup (x : VCourse) : (DV.p x.P).tupB = false := rfl
theorem VCourse_ld (x : VCourse) {h : PT AObj} : ldX true 2 (.p (.rp x.P.cells)) h = some { dv := .p x.P } := rfl
theorem VCourse_ldb (x : VCourse) : mkAgg ((DV.cells (.p x.P)).take 2) = .p x.P := rfl
theorem VCourse_setb (x y : VCourse) : setAt (DV.cells (.p x.P)) 0 (DV.cells (.p y.P)) = DV.cells (.p y.P) := rfl
theorem VCourse_st (x : VCourse) {a0 a1 : DV} : setAt [a0, a1] 0 (DV.cells (.p x.P)) = DV.cells (.p x.P) := rfl
theorem VCourse_f_name (x : VCourse) : fldX false 0 1 (.p x.P) = some (.p (.s (.string x.name))) := rfl
theorem VCourse_r_name (x : VCourse) {h : PT AObj} : ldX false 1 (.p (.rp (x.P.cells))) h = some { dv := .p (.s (.string x.name)) } := rfl
theorem VCourse_b_name (x : VCourse) : (DV.cells (.p x.P))[0]? = some (.p (.s (.string x.name))) := rfl
theorem VCourse_f_ways (x : VCourse) : fldX false 1 1 (.p x.P) = some (.p (.lst (x.ways.map VWay.P))) := rfl
theorem VCourse_r_ways (x : VCourse) {h : PT AObj} : ldX false 1 (.p (.rp ((x.P.cells).drop 1))) h = some { dv := .p (.lst (x.ways.map VWay.P)) } := rfl
theorem VCourse_b_ways (x : VCourse) : (DV.cells (.p x.P))[1]? = some (.p (.lst (x.ways.map VWay.P))) := rfl
structure VStudent where
  name : ByteArray
  courses : List Int
  deriving DecidableEq
def VStudent.P (x : VStudent) : PDV := .agg [.s (.string x.name), L x.courses]
theorem VStudent_len (x : VStudent) : x.P.cells.length = 2 := rfl
theorem VStudent_dlen (x : VStudent) : (DV.cells (.p x.P)).length = 2 := rfl
theorem VStudent_tup (x : VStudent) : (DV.p x.P).tupB = false := rfl
theorem VStudent_ld (x : VStudent) {h : PT AObj} : ldX true 2 (.p (.rp x.P.cells)) h = some { dv := .p x.P } := rfl
theorem VStudent_ldb (x : VStudent) : mkAgg ((DV.cells (.p x.P)).take 2) = .p x.P := rfl
theorem VStudent_setb (x y : VStudent) : setAt (DV.cells (.p x.P)) 0 (DV.cells (.p y.P)) = DV.cells (.p y.P) := rfl
theorem VStudent_st (x : VStudent) {a0 a1 : DV} : setAt [a0, a1] 0 (DV.cells (.p x.P)) = DV.cells (.p x.P) := rfl
theorem VStudent_f_name (x : VStudent) : fldX false 0 1 (.p x.P) = some (.p (.s (.string x.name))) := rfl
theorem VStudent_r_name (x : VStudent) {h : PT AObj} : ldX false 1 (.p (.rp (x.P.cells))) h = some { dv := .p (.s (.string x.name)) } := rfl
theorem VStudent_b_name (x : VStudent) : (DV.cells (.p x.P))[0]? = some (.p (.s (.string x.name))) := rfl
theorem VStudent_f_courses (x : VStudent) : fldX false 1 1 (.p x.P) = some (.p (L x.courses)) := rfl
theorem VStudent_r_courses (x : VStudent) {h : PT AObj} : ldX false 1 (.p (.rp ((x.P.cells).drop 1))) h = some { dv := .p (L x.courses) } := rfl
theorem VStudent_b_courses (x : VStudent) : (DV.cells (.p x.P))[1]? = some (.p (L x.courses)) := rfl
structure VRule where
  kind : Int
  classes : List Int
  a : Int
  b : Int
  hard : Bool
  cost : Int
  deriving DecidableEq
def VRule.P (x : VRule) : PDV := .agg [I x.kind, L x.classes, I x.a, I x.b, .s (.bool x.hard), I x.cost]
theorem VRule_len (x : VRule) : x.P.cells.length = 6 := rfl
theorem VRule_dlen (x : VRule) : (DV.cells (.p x.P)).length = 6 := rfl
theorem VRule_tup (x : VRule) : (DV.p x.P).tupB = false := rfl
theorem VRule_ld (x : VRule) {h : PT AObj} : ldX true 6 (.p (.rp x.P.cells)) h = some { dv := .p x.P } := rfl
theorem VRule_ldb (x : VRule) : mkAgg ((DV.cells (.p x.P)).take 6) = .p x.P := rfl
theorem VRule_setb (x y : VRule) : setAt (DV.cells (.p x.P)) 0 (DV.cells (.p y.P)) = DV.cells (.p y.P) := rfl
theorem VRule_st (x : VRule) {a0 a1 a2 a3 a4 a5 : DV} : setAt [a0, a1, a2, a3, a4, a5] 0 (DV.cells (.p x.P)) = DV.cells (.p x.P) := rfl
theorem VRule_f_kind (x : VRule) : fldX false 0 1 (.p x.P) = some (.p (I x.kind)) := rfl
theorem VRule_r_kind (x : VRule) {h : PT AObj} : ldX false 1 (.p (.rp (x.P.cells))) h = some { dv := .p (I x.kind) } := rfl
theorem VRule_b_kind (x : VRule) : (DV.cells (.p x.P))[0]? = some (.p (I x.kind)) := rfl
theorem VRule_f_classes (x : VRule) : fldX false 1 1 (.p x.P) = some (.p (L x.classes)) := rfl
theorem VRule_r_classes (x : VRule) {h : PT AObj} : ldX false 1 (.p (.rp ((x.P.cells).drop 1))) h = some { dv := .p (L x.classes) } := rfl
theorem VRule_b_classes (x : VRule) : (DV.cells (.p x.P))[1]? = some (.p (L x.classes)) := rfl
theorem VRule_f_a (x : VRule) : fldX false 2 1 (.p x.P) = some (.p (I x.a)) := rfl
theorem VRule_r_a (x : VRule) {h : PT AObj} : ldX false 1 (.p (.rp ((x.P.cells).drop 2))) h = some { dv := .p (I x.a) } := rfl
theorem VRule_b_a (x : VRule) : (DV.cells (.p x.P))[2]? = some (.p (I x.a)) := rfl
theorem VRule_f_b (x : VRule) : fldX false 3 1 (.p x.P) = some (.p (I x.b)) := rfl
theorem VRule_r_b (x : VRule) {h : PT AObj} : ldX false 1 (.p (.rp ((x.P.cells).drop 3))) h = some { dv := .p (I x.b) } := rfl
theorem VRule_b_b (x : VRule) : (DV.cells (.p x.P))[3]? = some (.p (I x.b)) := rfl
theorem VRule_f_hard (x : VRule) : fldX false 4 1 (.p x.P) = some (.p (.s (.bool x.hard))) := rfl
theorem VRule_r_hard (x : VRule) {h : PT AObj} : ldX false 1 (.p (.rp ((x.P.cells).drop 4))) h = some { dv := .p (.s (.bool x.hard)) } := rfl
theorem VRule_b_hard (x : VRule) : (DV.cells (.p x.P))[4]? = some (.p (.s (.bool x.hard))) := rfl
theorem VRule_f_cost (x : VRule) : fldX false 5 1 (.p x.P) = some (.p (I x.cost)) := rfl
theorem VRule_r_cost (x : VRule) {h : PT AObj} : ldX false 1 (.p (.rp ((x.P.cells).drop 5))) h = some { dv := .p (I x.cost) } := rfl
theorem VRule_b_cost (x : VRule) : (DV.cells (.p x.P))[5]? = some (.p (I x.cost)) := rfl
structure VWeigh where
  time : Int
  place : Int
  rule : Int
  clash : Int
  deriving DecidableEq
def VWeigh.P (x : VWeigh) : PDV := .agg [I x.time, I x.place, I x.rule, I x.clash]
theorem VWeigh_len (x : VWeigh) : x.P.cells.length = 4 := rfl
theorem VWeigh_dlen (x : VWeigh) : (DV.cells (.p x.P)).length = 4 := rfl
theorem VWeigh_tup (x : VWeigh) : (DV.p x.P).tupB = false := rfl
theorem VWeigh_ld (x : VWeigh) {h : PT AObj} : ldX true 4 (.p (.rp x.P.cells)) h = some { dv := .p x.P } := rfl
theorem VWeigh_ldb (x : VWeigh) : mkAgg ((DV.cells (.p x.P)).take 4) = .p x.P := rfl
theorem VWeigh_setb (x y : VWeigh) : setAt (DV.cells (.p x.P)) 0 (DV.cells (.p y.P)) = DV.cells (.p y.P) := rfl
theorem VWeigh_st (x : VWeigh) {a0 a1 a2 a3 : DV} : setAt [a0, a1, a2, a3] 0 (DV.cells (.p x.P)) = DV.cells (.p x.P) := rfl
theorem VWeigh_f_time (x : VWeigh) : fldX false 0 1 (.p x.P) = some (.p (I x.time)) := rfl
theorem VWeigh_r_time (x : VWeigh) {h : PT AObj} : ldX false 1 (.p (.rp (x.P.cells))) h = some { dv := .p (I x.time) } := rfl
theorem VWeigh_b_time (x : VWeigh) : (DV.cells (.p x.P))[0]? = some (.p (I x.time)) := rfl
theorem VWeigh_f_place (x : VWeigh) : fldX false 1 1 (.p x.P) = some (.p (I x.place)) := rfl
theorem VWeigh_r_place (x : VWeigh) {h : PT AObj} : ldX false 1 (.p (.rp ((x.P.cells).drop 1))) h = some { dv := .p (I x.place) } := rfl
theorem VWeigh_b_place (x : VWeigh) : (DV.cells (.p x.P))[1]? = some (.p (I x.place)) := rfl
theorem VWeigh_f_rule (x : VWeigh) : fldX false 2 1 (.p x.P) = some (.p (I x.rule)) := rfl
theorem VWeigh_r_rule (x : VWeigh) {h : PT AObj} : ldX false 1 (.p (.rp ((x.P.cells).drop 2))) h = some { dv := .p (I x.rule) } := rfl
theorem VWeigh_b_rule (x : VWeigh) : (DV.cells (.p x.P))[2]? = some (.p (I x.rule)) := rfl
theorem VWeigh_f_clash (x : VWeigh) : fldX false 3 1 (.p x.P) = some (.p (I x.clash)) := rfl
theorem VWeigh_r_clash (x : VWeigh) {h : PT AObj} : ldX false 1 (.p (.rp ((x.P.cells).drop 3))) h = some { dv := .p (I x.clash) } := rfl
theorem VWeigh_b_clash (x : VWeigh) : (DV.cells (.p x.P))[3]? = some (.p (I x.clash)) := rfl
structure VProblem where
  name : ByteArray
  grid : VGrid
  rooms : List VRoom
  walk : List (List Int)
  persons : List VPerson
  classes : List VClass
  courses : List VCourse
  students : List VStudent
  rules : List VRule
  weigh : VWeigh
  deriving DecidableEq
def VProblem.P (x : VProblem) : PDV := .agg [.s (.string x.name), I x.grid.weeks, I x.grid.days, I x.grid.slots, .lst (x.rooms.map VRoom.P), LL x.walk, .lst (x.persons.map VPerson.P), .lst (x.classes.map VClass.P), .lst (x.courses.map VCourse.P), .lst (x.students.map VStudent.P), .lst (x.rules.map VRule.P), I x.weigh.time, I x.weigh.place, I x.weigh.rule, I x.weigh.clash]
theorem VProblem_len (x : VProblem) : x.P.cells.length = 15 := rfl
theorem VProblem_dlen (x : VProblem) : (DV.cells (.p x.P)).length = 15 := rfl
theorem VProblem_dc (x : VProblem) : DV.cells (.p x.P) = x.P.cells.map .p := rfl
theorem VProblem_tup (x : VProblem) : (DV.p x.P).tupB = false := rfl
theorem VProblem_ld (x : VProblem) {h : PT AObj} : ldX true 15 (.p (.rp x.P.cells)) h = some { dv := .p x.P } := rfl
theorem VProblem_ldb (x : VProblem) : mkAgg ((DV.cells (.p x.P)).take 15) = .p x.P := rfl
theorem VProblem_setb (x y : VProblem) : setAt (DV.cells (.p x.P)) 0 (DV.cells (.p y.P)) = DV.cells (.p y.P) := rfl
theorem VProblem_st (x : VProblem) {a0 a1 a2 a3 a4 a5 a6 a7 a8 a9 a10 a11 a12 a13 a14 : DV} : setAt [a0, a1, a2, a3, a4, a5, a6, a7, a8, a9, a10, a11, a12, a13, a14] 0 (DV.cells (.p x.P)) = DV.cells (.p x.P) := rfl
theorem VProblem_f_name (x : VProblem) : fldX false 0 1 (.p x.P) = some (.p (.s (.string x.name))) := rfl
theorem VProblem_r_name (x : VProblem) {h : PT AObj} : ldX false 1 (.p (.rp (x.P.cells))) h = some { dv := .p (.s (.string x.name)) } := rfl
theorem VProblem_b_name (x : VProblem) : (DV.cells (.p x.P))[0]? = some (.p (.s (.string x.name))) := rfl
theorem VProblem_f_grid (x : VProblem) : fldX true 1 3 (.p x.P) = some (.p (x.grid).P) := rfl
theorem VProblem_r_grid (x : VProblem) {h : PT AObj} : ldX true 3 (.p (.rp ((x.P.cells).drop 1))) h = some { dv := .p (x.grid).P } := rfl
theorem VProblem_b_grid (x : VProblem) : mkAgg ((((DV.cells (.p x.P)).drop 1)).take 3) = .p (x.grid).P := rfl
theorem VProblem_r_grid_weeks (x : VProblem) {h : PT AObj} : ldX false 1 (.p (.rp (((x.P.cells).drop 1)))) h = some { dv := .p (I x.grid.weeks) } := rfl
theorem VProblem_b_grid_weeks (x : VProblem) : (DV.cells (.p x.P))[1]? = some (.p (I x.grid.weeks)) := rfl
theorem VProblem_r_grid_days (x : VProblem) {h : PT AObj} : ldX false 1 (.p (.rp ((((x.P.cells).drop 1)).drop 1))) h = some { dv := .p (I x.grid.days) } := rfl
theorem VProblem_b_grid_days (x : VProblem) : (DV.cells (.p x.P))[2]? = some (.p (I x.grid.days)) := rfl
theorem VProblem_r_grid_slots (x : VProblem) {h : PT AObj} : ldX false 1 (.p (.rp ((((x.P.cells).drop 1)).drop 2))) h = some { dv := .p (I x.grid.slots) } := rfl
theorem VProblem_b_grid_slots (x : VProblem) : (DV.cells (.p x.P))[3]? = some (.p (I x.grid.slots)) := rfl
theorem VProblem_f_rooms (x : VProblem) : fldX false 4 1 (.p x.P) = some (.p (.lst (x.rooms.map VRoom.P))) := rfl
theorem VProblem_r_rooms (x : VProblem) {h : PT AObj} : ldX false 1 (.p (.rp ((x.P.cells).drop 4))) h = some { dv := .p (.lst (x.rooms.map VRoom.P)) } := rfl
theorem VProblem_b_rooms (x : VProblem) : (DV.cells (.p x.P))[4]? = some (.p (.lst (x.rooms.map VRoom.P))) := rfl
theorem VProblem_f_walk (x : VProblem) : fldX false 5 1 (.p x.P) = some (.p (LL x.walk)) := rfl
theorem VProblem_r_walk (x : VProblem) {h : PT AObj} : ldX false 1 (.p (.rp ((x.P.cells).drop 5))) h = some { dv := .p (LL x.walk) } := rfl
theorem VProblem_b_walk (x : VProblem) : (DV.cells (.p x.P))[5]? = some (.p (LL x.walk)) := rfl
theorem VProblem_f_persons (x : VProblem) : fldX false 6 1 (.p x.P) = some (.p (.lst (x.persons.map VPerson.P))) := rfl
theorem VProblem_r_persons (x : VProblem) {h : PT AObj} : ldX false 1 (.p (.rp ((x.P.cells).drop 6))) h = some { dv := .p (.lst (x.persons.map VPerson.P)) } := rfl
theorem VProblem_b_persons (x : VProblem) : (DV.cells (.p x.P))[6]? = some (.p (.lst (x.persons.map VPerson.P))) := rfl
theorem VProblem_f_classes (x : VProblem) : fldX false 7 1 (.p x.P) = some (.p (.lst (x.classes.map VClass.P))) := rfl
theorem VProblem_r_classes (x : VProblem) {h : PT AObj} : ldX false 1 (.p (.rp ((x.P.cells).drop 7))) h = some { dv := .p (.lst (x.classes.map VClass.P)) } := rfl
theorem VProblem_b_classes (x : VProblem) : (DV.cells (.p x.P))[7]? = some (.p (.lst (x.classes.map VClass.P))) := rfl
theorem VProblem_f_courses (x : VProblem) : fldX false 8 1 (.p x.P) = some (.p (.lst (x.courses.map VCourse.P))) := rfl
theorem VProblem_r_courses (x : VProblem) {h : PT AObj} : ldX false 1 (.p (.rp ((x.P.cells).drop 8))) h = some { dv := .p (.lst (x.courses.map VCourse.P)) } := rfl
theorem VProblem_b_courses (x : VProblem) : (DV.cells (.p x.P))[8]? = some (.p (.lst (x.courses.map VCourse.P))) := rfl
theorem VProblem_f_students (x : VProblem) : fldX false 9 1 (.p x.P) = some (.p (.lst (x.students.map VStudent.P))) := rfl
theorem VProblem_r_students (x : VProblem) {h : PT AObj} : ldX false 1 (.p (.rp ((x.P.cells).drop 9))) h = some { dv := .p (.lst (x.students.map VStudent.P)) } := rfl
theorem VProblem_b_students (x : VProblem) : (DV.cells (.p x.P))[9]? = some (.p (.lst (x.students.map VStudent.P))) := rfl
theorem VProblem_f_rules (x : VProblem) : fldX false 10 1 (.p x.P) = some (.p (.lst (x.rules.map VRule.P))) := rfl
theorem VProblem_r_rules (x : VProblem) {h : PT AObj} : ldX false 1 (.p (.rp ((x.P.cells).drop 10))) h = some { dv := .p (.lst (x.rules.map VRule.P)) } := rfl
theorem VProblem_b_rules (x : VProblem) : (DV.cells (.p x.P))[10]? = some (.p (.lst (x.rules.map VRule.P))) := rfl
theorem VProblem_f_weigh (x : VProblem) : fldX true 11 4 (.p x.P) = some (.p (x.weigh).P) := rfl
theorem VProblem_r_weigh (x : VProblem) {h : PT AObj} : ldX true 4 (.p (.rp ((x.P.cells).drop 11))) h = some { dv := .p (x.weigh).P } := rfl
theorem VProblem_b_weigh (x : VProblem) : mkAgg ((((DV.cells (.p x.P)).drop 11)).take 4) = .p (x.weigh).P := rfl
theorem VProblem_r_weigh_time (x : VProblem) {h : PT AObj} : ldX false 1 (.p (.rp (((x.P.cells).drop 11)))) h = some { dv := .p (I x.weigh.time) } := rfl
theorem VProblem_b_weigh_time (x : VProblem) : (DV.cells (.p x.P))[11]? = some (.p (I x.weigh.time)) := rfl
theorem VProblem_r_weigh_place (x : VProblem) {h : PT AObj} : ldX false 1 (.p (.rp ((((x.P.cells).drop 11)).drop 1))) h = some { dv := .p (I x.weigh.place) } := rfl
theorem VProblem_b_weigh_place (x : VProblem) : (DV.cells (.p x.P))[12]? = some (.p (I x.weigh.place)) := rfl
theorem VProblem_r_weigh_rule (x : VProblem) {h : PT AObj} : ldX false 1 (.p (.rp ((((x.P.cells).drop 11)).drop 2))) h = some { dv := .p (I x.weigh.rule) } := rfl
theorem VProblem_b_weigh_rule (x : VProblem) : (DV.cells (.p x.P))[13]? = some (.p (I x.weigh.rule)) := rfl
theorem VProblem_r_weigh_clash (x : VProblem) {h : PT AObj} : ldX false 1 (.p (.rp ((((x.P.cells).drop 11)).drop 3))) h = some { dv := .p (I x.weigh.clash) } := rfl
theorem VProblem_b_weigh_clash (x : VProblem) : (DV.cells (.p x.P))[14]? = some (.p (I x.weigh.clash)) := rfl
structure VSeat where
  time : Int
  place : Int
  deriving DecidableEq
def VSeat.P (x : VSeat) : PDV := .agg [I x.time, I x.place]
theorem VSeat_len (x : VSeat) : x.P.cells.length = 2 := rfl
theorem VSeat_dlen (x : VSeat) : (DV.cells (.p x.P)).length = 2 := rfl
theorem VSeat_tup (x : VSeat) : (DV.p x.P).tupB = false := rfl
theorem VSeat_ld (x : VSeat) {h : PT AObj} : ldX true 2 (.p (.rp x.P.cells)) h = some { dv := .p x.P } := rfl
theorem VSeat_ldb (x : VSeat) : mkAgg ((DV.cells (.p x.P)).take 2) = .p x.P := rfl
theorem VSeat_setb (x y : VSeat) : setAt (DV.cells (.p x.P)) 0 (DV.cells (.p y.P)) = DV.cells (.p y.P) := rfl
theorem VSeat_st (x : VSeat) {a0 a1 : DV} : setAt [a0, a1] 0 (DV.cells (.p x.P)) = DV.cells (.p x.P) := rfl
theorem VSeat_f_time (x : VSeat) : fldX false 0 1 (.p x.P) = some (.p (I x.time)) := rfl
theorem VSeat_r_time (x : VSeat) {h : PT AObj} : ldX false 1 (.p (.rp (x.P.cells))) h = some { dv := .p (I x.time) } := rfl
theorem VSeat_b_time (x : VSeat) : (DV.cells (.p x.P))[0]? = some (.p (I x.time)) := rfl
theorem VSeat_f_place (x : VSeat) : fldX false 1 1 (.p x.P) = some (.p (I x.place)) := rfl
theorem VSeat_r_place (x : VSeat) {h : PT AObj} : ldX false 1 (.p (.rp ((x.P.cells).drop 1))) h = some { dv := .p (I x.place) } := rfl
theorem VSeat_b_place (x : VSeat) : (DV.cells (.p x.P))[1]? = some (.p (I x.place)) := rfl
structure VLoad where
  classes : List (List Int)
  deriving DecidableEq
def VLoad.P (x : VLoad) : PDV := .agg [LL x.classes]
theorem VLoad_len (x : VLoad) : x.P.cells.length = 1 := rfl
theorem VLoad_dlen (x : VLoad) : (DV.cells (.p x.P)).length = 1 := rfl
theorem VLoad_tup (x : VLoad) : (DV.p x.P).tupB = false := rfl
theorem VLoad_ld (x : VLoad) {h : PT AObj} : ldX true 1 (.p (.rp x.P.cells)) h = some { dv := .p x.P } := rfl
theorem VLoad_ldb (x : VLoad) : mkAgg ((DV.cells (.p x.P)).take 1) = .p x.P := rfl
theorem VLoad_setb (x y : VLoad) : setAt (DV.cells (.p x.P)) 0 (DV.cells (.p y.P)) = DV.cells (.p y.P) := rfl
theorem VLoad_st (x : VLoad) {a0 : DV} : setAt [a0] 0 (DV.cells (.p x.P)) = DV.cells (.p x.P) := rfl
theorem VLoad_f_classes (x : VLoad) : fldX false 0 1 (.p x.P) = some (.p (LL x.classes)) := rfl
theorem VLoad_r_classes (x : VLoad) {h : PT AObj} : ldX false 1 (.p (.rp (x.P.cells))) h = some { dv := .p (LL x.classes) } := rfl
theorem VLoad_b_classes (x : VLoad) : (DV.cells (.p x.P))[0]? = some (.p (LL x.classes)) := rfl
structure VSpot where
  when : VWhen
  room : Int
  deriving DecidableEq
def VSpot.P (x : VSpot) : PDV := .agg [.s (.int .u32 (x.when.weeks.val : Int)), .s (.int .u8 (x.when.days.val : Int)), I x.when.start, I x.when.len, I x.room]
theorem VSpot_len (x : VSpot) : x.P.cells.length = 5 := rfl
theorem VSpot_dlen (x : VSpot) : (DV.cells (.p x.P)).length = 5 := rfl
theorem VSpot_tup (x : VSpot) : (DV.p x.P).tupB = false := rfl
theorem VSpot_ld (x : VSpot) {h : PT AObj} : ldX true 5 (.p (.rp x.P.cells)) h = some { dv := .p x.P } := rfl
theorem VSpot_ldb (x : VSpot) : mkAgg ((DV.cells (.p x.P)).take 5) = .p x.P := rfl
theorem VSpot_setb (x y : VSpot) : setAt (DV.cells (.p x.P)) 0 (DV.cells (.p y.P)) = DV.cells (.p y.P) := rfl
theorem VSpot_st (x : VSpot) {a0 a1 a2 a3 a4 : DV} : setAt [a0, a1, a2, a3, a4] 0 (DV.cells (.p x.P)) = DV.cells (.p x.P) := rfl
theorem VSpot_f_when (x : VSpot) : fldX true 0 4 (.p x.P) = some (.p (x.when).P) := rfl
theorem VSpot_r_when (x : VSpot) {h : PT AObj} : ldX true 4 (.p (.rp (x.P.cells))) h = some { dv := .p (x.when).P } := rfl
theorem VSpot_b_when (x : VSpot) : mkAgg (((DV.cells (.p x.P))).take 4) = .p (x.when).P := rfl
theorem VSpot_r_when_weeks (x : VSpot) {h : PT AObj} : ldX false 1 (.p (.rp ((x.P.cells)))) h = some { dv := .p (.s (.int .u32 (x.when.weeks.val : Int))) } := rfl
theorem VSpot_b_when_weeks (x : VSpot) : (DV.cells (.p x.P))[0]? = some (.p (.s (.int .u32 (x.when.weeks.val : Int)))) := rfl
theorem VSpot_r_when_days (x : VSpot) {h : PT AObj} : ldX false 1 (.p (.rp (((x.P.cells)).drop 1))) h = some { dv := .p (.s (.int .u8 (x.when.days.val : Int))) } := rfl
theorem VSpot_b_when_days (x : VSpot) : (DV.cells (.p x.P))[1]? = some (.p (.s (.int .u8 (x.when.days.val : Int)))) := rfl
theorem VSpot_r_when_start (x : VSpot) {h : PT AObj} : ldX false 1 (.p (.rp (((x.P.cells)).drop 2))) h = some { dv := .p (I x.when.start) } := rfl
theorem VSpot_b_when_start (x : VSpot) : (DV.cells (.p x.P))[2]? = some (.p (I x.when.start)) := rfl
theorem VSpot_r_when_len (x : VSpot) {h : PT AObj} : ldX false 1 (.p (.rp (((x.P.cells)).drop 3))) h = some { dv := .p (I x.when.len) } := rfl
theorem VSpot_b_when_len (x : VSpot) : (DV.cells (.p x.P))[3]? = some (.p (I x.when.len)) := rfl
theorem VSpot_f_room (x : VSpot) : fldX false 4 1 (.p x.P) = some (.p (I x.room)) := rfl
theorem VSpot_r_room (x : VSpot) {h : PT AObj} : ldX false 1 (.p (.rp ((x.P.cells).drop 4))) h = some { dv := .p (I x.room) } := rfl
theorem VSpot_b_room (x : VSpot) : (DV.cells (.p x.P))[4]? = some (.p (I x.room)) := rfl
end Go.Proofs.YtddmnddocbmjnaaGreat.Dv
