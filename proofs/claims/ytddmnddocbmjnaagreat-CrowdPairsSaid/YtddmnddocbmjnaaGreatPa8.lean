/- Part 8 of the proof: CrowdPairs: whatever plain data comes in, the call returns true and leaves its arguments as they were. No condition. -/
import Derived.Test.YtddmnddocbmjnaaGreatPa7
import Derived.Test.YtddmnddocbmjnaaGreatChecked
import Derived.KernelRfl
set_option linter.all false
set_option linter.unusedVariables false
set_option linter.unusedSectionVars false
set_option linter.unusedSimpArgs false
namespace Go.Proofs.YtddmnddocbmjnaaGreat.Dv
section
variable {P : Program} {G : Cfg} {fn : FuncId} {cl cl' : CallF}
theorem mCall_mono (hc : LeC cl cl') {g : FuncId} {xs : List DV} {dst : Option Nat} {id : Nat} {s : St} {r : St × Log} (hs : mCall G fn cl g xs dst id s = some r) : mCall G fn cl' g xs dst id s = some r := by
  unfold mCall at hs ⊢
  have eff : ∀ md, effS dst s (callE md cl g xs s.h id) = some r → effS dst s (callE md cl' g xs s.h id) = some r := by
    intro md hh
    cases he : callE md cl g xs s.h id with
    | none => rw [he] at hh; cases hh
    | some e => rw [callE_mono hc he]; rw [he] at hh; exact hh
  cases hm : G.mode fn g with
  | ref =>
    simp only [hm] at hs ⊢
    split at hs
    · rename_i hcl; simp only [hc _ _ _ _ _ hcl]; exact hs
    · cases hs
  | ext => simp only [hm] at hs ⊢; exact hs
  | pure => simp only [hm] at hs ⊢; exact eff _ hs
  | ownT => simp only [hm] at hs ⊢; exact eff _ hs
  | ownA => simp only [hm] at hs ⊢; exact eff _ hs
theorem mstep_mono (hc : LeC cl cl') {o : MO} {id : Nat} {s : St} {r : St × Log} (hs : mstep P G fn cl o id s = some r) : mstep P G fn cl' o id s = some r := by
  unfold mstep at hs ⊢
  split at hs
  · exact mCall_mono hc hs
  · unfold callvX at hs ⊢
    split at hs
    · rename_i ht
      split at hs
      · rename_i hcal
        simp only [ht, hcal, if_true]
        exact mCall_mono hc hs
      · cases hs
    · cases hs
  · exact hs
theorem mrun_mono (hc : LeC cl cl') : ∀ {ms : List MO} {id : Nat} {s : St} {r : St × List Log}, mrun P G fn cl id ms s = some r → mrun P G fn cl' id ms s = some r
  | [], id, s, r, hs => hs
  | m :: ms, id, s, r, hs => by
    simp only [mrun] at hs ⊢
    split at hs
    · split at hs
      · rename_i hst
        simp only [mstep_mono hc hst]
        split at hs
        · rename_i hrec; simp only [mrun_mono hc hrec]; exact hs
        · cases hs
      · cases hs
    · split at hs
      · rename_i hrec; simp only [mrun_mono hc hrec]; exact hs
      · cases hs
    · cases hs
theorem mexec_mono (hc : LeC cl cl') {k k' : Nat} (hk : k ≤ k') : ∀ (c : M) {s : St} {r : DX × St}, mexec P G fn cl k c s = some r → mexec P G fn cl' k' c s = some r
  | .skip, s, r, hd => hd
  | .reg dr ops, s, r, hd => by
    simp only [mexec] at hd ⊢
    split at hd
    · rename_i hr; simp only [mrun_mono hc hr]; exact hd
    · cases hd
  | .seq a b, s, r, hd => by
    simp only [mexec] at hd ⊢
    split at hd
    · rename_i s' hs
      simp only [mexec_mono hc hk a hs]
      exact mexec_mono hc hk b hd
    · rename_i hne
      rw [mexec_mono hc hk a hd]
      obtain ⟨x, s'⟩ := r
      cases x with
      | normal => exact absurd hd (hne s')
      | exit id => rfl
      | ret => rfl
  | .cond c a b, s, r, hd => by
    simp only [mexec] at hd ⊢
    split at hd
    · exact mexec_mono hc hk a hd
    · exact mexec_mono hc hk b hd
    · cases hd
  | .block id c, s, r, hd => by
    simp only [mexec] at hd ⊢
    split at hd
    · rename_i j s' hs
      simp only [mexec_mono hc hk c hs]
      exact hd
    · rename_i hne
      rw [mexec_mono hc hk c hd]
      obtain ⟨x, s'⟩ := r
      cases x with
      | normal => rfl
      | exit id => exact absurd hd (hne id s')
      | ret => rfl
  | .loop c, s, r, hd => by
    simp only [mexec] at hd ⊢
    exact iter_mono (fun s r h => mexec_mono hc hk c h) hk hd
  | .exit id, s, r, hd => hd
  | .ret, s, r, hd => hd
end
section
variable (P : Program) (G : Cfg)
noncomputable def callR : CallF := fun g xs h n => open Classical in if hx : ∃ r, ∃ k, call P G k g xs h n = some r then some hx.choose else none
theorem callR_of {k : Nat} {g : FuncId} {xs : List DV} {h : PT AObj} {n : Nat} {r : DV × PT AObj × Nat} (hc : call P G k g xs h n = some r) : callR P G g xs h n = some r := by
  unfold callR
  have hx : ∃ r, ∃ k, call P G k g xs h n = some r := ⟨r, k, hc⟩
  rw [dif_pos hx]
  obtain ⟨k', hk'⟩ := hx.choose_spec
  have h1 := call_mono (P := P) (G := G) (Nat.le_max_left k k') _ _ _ _ _ hc
  have h2 := call_mono (P := P) (G := G) (Nat.le_max_right k k') _ _ _ _ _ hk'
  rw [h1] at h2
  exact h2.symm
theorem callR_some {g : FuncId} {xs : List DV} {h : PT AObj} {n : Nat} {r : DV × PT AObj × Nat} (hc : callR P G g xs h n = some r) : ∃ k, call P G k g xs h n = some r := by
  unfold callR at hc
  split at hc
  · rename_i hx
    obtain ⟨k, hk⟩ := hx.choose_spec
    cases hc
    exact ⟨k, hk⟩
  · cases hc
theorem callR_le (k : Nat) : LeC (call P G k) (callR P G) := fun _ _ _ _ _ h => callR_of P G h
noncomputable def res (g : FuncId) (ps : List PDV) : Option PDV := match callR P G g (ps.map .p) .leaf 0 with
  | some (r, h, _) => (snap h r).map (·.1)
  | none => none
def X (fn : FuncId) (m : M) (s : St) (Q : DX → St → Prop) : Prop := ∃ k x r, mexec P G fn (call P G k) k m s = some (x, r) ∧ Q x r
def Ops (fn : FuncId) (ms : List MO) (id : Nat) (dr : Option (Array Nat)) (lg : List Log) (s : St) (Q : DX → St → Prop) : Prop := ∃ k s' ls, mrun P G fn (call P G k) id ms s = some (s', ls) ∧ indepO dr (lg.reverse ++ ls) = true ∧ Q .normal s'
def opsK (fn : FuncId) (os : List MO) (id : Nat) (dr : Option (Array Nat)) (lg : List Log) (Q : DX → St → Prop) : Option (St × Log) → Prop
  | some (s, l) => Ops P G fn os id dr (l :: lg) s Q
  | none => False
def opsW (fn : FuncId) (o : MO) (os : List MO) (id : Nat) (dr : Option (Array Nat)) (lg : List Log) (s : St) (Q : DX → St → Prop) : Option Bool → Prop
  | some true => opsK P G fn os (id + 1) dr lg Q (mstep P G fn (callR P G) o id s)
  | some false => Ops P G fn os (id + 1) dr ({} :: lg) { s with t := putD s.t o.dst (.p (.tup [])) } Q
  | none => False
def condX (fn : FuncId) (a b : M) (s : St) (Q : DX → St → Prop) : Option Bool → Prop
  | some true => X P G fn a s Q
  | some false => X P G fn b s Q
  | none => False
def kS (fn : FuncId) (b : M) (Q : DX → St → Prop) : DX → St → Prop
  | .normal, s => X P G fn b s Q
  | x, s => Q x s
def kB (id : Nat) (Q : DX → St → Prop) : DX → St → Prop
  | .exit j, s => if j = id then Q .normal s else Q (.exit j) s
  | x, s => Q x s
end
section
variable {P : Program} {G : Cfg} {fn : FuncId} {s : St} {Q : DX → St → Prop}
theorem mstepR {o : MO} {id : Nat} {r : St × Log} : mstep P G fn (callR P G) o id s = some r ↔ ∃ k, mstep P G fn (call P G k) o id s = some r := by
  constructor
  · have call : ∀ g xs, mCall G fn (callR P G) g xs o.dst id s = some r → ∃ k, mCall G fn (call P G k) g xs o.dst id s = some r := by
      intro g xs hs
      unfold mCall at hs ⊢
      have eff : ∀ md, effS o.dst s (callE md (callR P G) g xs s.h id) = some r → ∃ k, effS o.dst s (callE md (Dv.call P G k) g xs s.h id) = some r := by
        intro md hh
        unfold callE at hh ⊢
        split at hh
        · cases hh
        · rename_i ps rd hsn
          cases hc : callR P G g (ps.map .p) .leaf 0 with
          | none => rw [hc] at hh; cases hh
          | some q =>
            obtain ⟨k, hk⟩ := callR_some P G hc
            refine ⟨k, ?_⟩
            rw [hc] at hh
            simp only [hsn, hk]
            exact hh
      cases hm : G.mode fn g with
      | ref =>
        simp only [hm] at hs ⊢
        split at hs
        · rename_i hcl
          obtain ⟨k, hk⟩ := callR_some P G hcl
          exact ⟨k, by rw [hk]; exact hs⟩
        · cases hs
      | ext => simp only [hm] at hs ⊢; exact ⟨0, hs⟩
      | pure => simp only [hm] at hs ⊢; exact eff _ hs
      | ownT => simp only [hm] at hs ⊢; exact eff _ hs
      | ownA => simp only [hm] at hs ⊢; exact eff _ hs
    intro hs
    unfold mstep at hs ⊢
    split at hs
    · exact call _ _ hs
    · unfold callvX at hs ⊢
      split at hs
      · rename_i ht
        split at hs
        · rename_i hcal
          simp only [ht, hcal, if_true]
          exact call _ _ hs
        · cases hs
      · cases hs
    · exact ⟨0, hs⟩
  · rintro ⟨k, hk⟩
    exact mstep_mono (callR_le P G k) hk
theorem X_mono {m : M} {Q' : DX → St → Prop} (h : X P G fn m s Q) (hq : ∀ x r, Q x r → Q' x r) : X P G fn m s Q' := by
  obtain ⟨k, x, r, h1, h2⟩ := h
  exact ⟨k, x, r, h1, hq x r h2⟩
theorem X_skip : X P G fn .skip s Q ↔ Q .normal s := ⟨fun ⟨k, x, r, h, q⟩ => by simp only [mexec] at h; cases h; exact q, fun q => ⟨0, _, _, rfl, q⟩⟩
theorem X_exit {id : Nat} : X P G fn (.exit id) s Q ↔ Q (.exit id) s := ⟨fun ⟨k, x, r, h, q⟩ => by simp only [mexec] at h; cases h; exact q, fun q => ⟨0, _, _, rfl, q⟩⟩
theorem X_ret : X P G fn .ret s Q ↔ Q .ret s := ⟨fun ⟨k, x, r, h, q⟩ => by simp only [mexec] at h; cases h; exact q, fun q => ⟨0, _, _, rfl, q⟩⟩
theorem up {k k' : Nat} (hk : k ≤ k') {m : M} {r : DX × St} (h : mexec P G fn (call P G k) k m s = some r) : mexec P G fn (call P G k') k' m s = some r := mexec_mono (call_mono hk) hk m h
theorem X_seq {a b : M} : X P G fn (.seq a b) s Q ↔ X P G fn a s (kS P G fn b Q) := by
  constructor
  · rintro ⟨k, x, r, h, q⟩
    simp only [mexec] at h
    split at h
    · rename_i s' h1
      exact ⟨k, .normal, s', h1, k, x, r, h, q⟩
    · rename_i hne
      refine ⟨k, x, r, h, ?_⟩
      cases x with
      | normal => exact absurd h (hne r)
      | exit id => exact q
      | ret => exact q
  · rintro ⟨k, x, r, h, q⟩
    cases x with
    | normal =>
      obtain ⟨k', x', r', h', q'⟩ := q
      refine ⟨max k k', x', r', ?_, q'⟩
      simp only [mexec, up (Nat.le_max_left k k') h]
      exact up (Nat.le_max_right k k') h'
    | exit id => exact ⟨k, .exit id, r, by simp only [mexec, h], q⟩
    | ret => exact ⟨k, .ret, r, by simp only [mexec, h], q⟩
theorem X_cond {c : XA} {a b : M} : X P G fn (.cond c a b) s Q ↔ condX P G fn a b s Q (asB (evX s.t c)) := by
  constructor
  · rintro ⟨k, x, r, h, q⟩
    simp only [mexec] at h
    split at h
    · rename_i hb; rw [hb]; exact ⟨k, x, r, h, q⟩
    · rename_i hb; rw [hb]; exact ⟨k, x, r, h, q⟩
    · cases h
  · intro h
    cases hb : asB (evX s.t c) with
    | none => rw [hb] at h; exact h.elim
    | some b =>
      rw [hb] at h
      cases b with
      | true => obtain ⟨k, x, r, h, q⟩ := h; exact ⟨k, x, r, by simp only [mexec, hb, h], q⟩
      | false => obtain ⟨k, x, r, h, q⟩ := h; exact ⟨k, x, r, by simp only [mexec, hb, h], q⟩
theorem X_block {id : Nat} {c : M} : X P G fn (.block id c) s Q ↔ X P G fn c s (kB id Q) := by
  constructor
  · rintro ⟨k, x, r, h, q⟩
    simp only [mexec] at h
    split at h
    · rename_i j s' h1
      split at h
      · rename_i hj; cases h; exact ⟨k, .exit j, _, h1, by simp only [kB, if_pos hj]; exact q⟩
      · rename_i hj; cases h; exact ⟨k, .exit j, _, h1, by simp only [kB, if_neg hj]; exact q⟩
    · rename_i hne
      refine ⟨k, x, r, h, ?_⟩
      cases x with
      | normal => exact q
      | exit id => exact absurd h (hne id r)
      | ret => exact q
  · rintro ⟨k, x, r, h, q⟩
    cases x with
    | normal => exact ⟨k, .normal, r, by simp only [mexec, h], q⟩
    | ret => exact ⟨k, .ret, r, by simp only [mexec, h], q⟩
    | exit j =>
      by_cases hj : j = id
      · simp only [kB, if_pos hj] at q
        exact ⟨k, .normal, r, by simp only [mexec, h, if_pos hj], q⟩
      · simp only [kB, if_neg hj] at q
        exact ⟨k, .exit j, r, by simp only [mexec, h, if_neg hj], q⟩
theorem X_reg {dr : Option (Array Nat)} {ops : List MO} : X P G fn (.reg dr ops) s Q ↔ Ops P G fn ops s.nx dr [] { s with nx := s.nx + ops.length } Q := by
  constructor
  · rintro ⟨k, x, r, h, q⟩
    simp only [mexec] at h
    split at h
    · rename_i s' ls h1
      split at h
      · rename_i hi; cases h; exact ⟨k, _, ls, h1, by simpa using hi, q⟩
      · cases h
    · cases h
  · rintro ⟨k, s', ls, h, hi, q⟩
    exact ⟨k, .normal, s', by simp only [mexec, h]; rw [if_pos (by simpa using hi)], q⟩
theorem Ops_nil {id : Nat} {dr : Option (Array Nat)} {lg : List Log} : Ops P G fn [] id dr lg s Q ↔ indepO dr lg.reverse = true ∧ Q .normal s := by
  constructor
  · rintro ⟨k, s', ls, h, hi, q⟩
    simp only [mrun] at h
    cases h
    exact ⟨by simpa using hi, q⟩
  · rintro ⟨hi, q⟩
    exact ⟨0, s, [], rfl, by simpa using hi, q⟩
theorem upR {k k' : Nat} (hk : k ≤ k') {id : Nat} {ms : List MO} {r : St × List Log} (h : mrun P G fn (call P G k) id ms s = some r) : mrun P G fn (call P G k') id ms s = some r := mrun_mono (call_mono hk) h
theorem Ops_cons {o : MO} {os : List MO} {id : Nat} {dr : Option (Array Nat)} {lg : List Log} : Ops P G fn (o :: os) id dr lg s Q ↔ opsW P G fn o os id dr lg s Q (wM o.g s.t) := by
  constructor
  · rintro ⟨k, s', ls, h, hi, q⟩
    simp only [mrun] at h
    split at h
    · rename_i hw
      rw [hw]
      split at h
      · rename_i s1 l1 hst
        simp only [opsW, mstep_mono (callR_le P G k) hst]
        split at h
        · rename_i s2 l2 hrec
          cases h
          exact ⟨k, _, l2, hrec, by simpa using hi, q⟩
        · cases h
      · cases h
    · rename_i hw
      rw [hw]
      simp only [opsW]
      split at h
      · rename_i s2 l2 hrec
        cases h
        exact ⟨k, _, l2, hrec, by simpa using hi, q⟩
      · cases h
    · cases h
  · intro h
    cases hw : wM o.g s.t with
    | none => rw [hw] at h; exact h.elim
    | some b =>
      rw [hw] at h
      cases b with
      | true =>
        simp only [opsW] at h
        cases hst : mstep P G fn (callR P G) o id s with
        | none => rw [hst] at h; exact h.elim
        | some r =>
          obtain ⟨s1, l1⟩ := r
          rw [hst] at h
          obtain ⟨k', hk'⟩ := mstepR.1 hst
          obtain ⟨k, s', ls, h1, hi, q⟩ := h
          refine ⟨max k k', s', l1 :: ls, ?_, by simpa using hi, q⟩
          simp only [mrun, hw, mstep_mono (call_mono (Nat.le_max_right k k')) hk', upR (Nat.le_max_left k k') h1]
      | false =>
        simp only [opsW] at h
        obtain ⟨k, s', ls, h1, hi, q⟩ := h
        exact ⟨k, s', {} :: ls, by simp only [mrun, hw, h1], by simpa using hi, q⟩
def wrOps (i : Nat) : List MO → Bool
  | [] => false
  | o :: os => (match o.dst with | some d => d == i | none => false) || wrOps i os
def wrM (i : Nat) : M → Bool
  | .reg _ ops => wrOps i ops
  | .seq a b => wrM i a || wrM i b
  | .cond _ a b => wrM i a || wrM i b
  | .block _ c => wrM i c
  | .loop c => wrM i c
  | _ => false
theorem putD_get {t : PT DV} {d : Option Nat} {v : DV} {i : Nat} (hd : (match d with | some d => d == i | none => false) = false) : (putD t d v).get i = t.get i := by
  cases d with
  | none => rfl
  | some d => exact PT.get_set_ne t _ (by simpa using hd)
theorem mstep_frame {cl : CallF} {o : MO} {id i : Nat} {r : St × Log} (hd : (match o.dst with | some d => d == i | none => false) = false) (h : mstep P G fn cl o id s = some r) : r.1.t.get i = s.t.get i := by
  have eff : ∀ q, effS o.dst s q = some r → r.1.t.get i = s.t.get i := by
    intro q hq
    unfold effS at hq
    split at hq
    · cases hq; exact putD_get hd
    · cases hq
  have call : ∀ g xs, mCall G fn cl g xs o.dst id s = some r → r.1.t.get i = s.t.get i := by
    intro g xs h
    unfold mCall at h
    split at h
    · split at h
      · cases h; exact putD_get hd
      · cases h
    · split at h
      · exact eff _ h
      · cases h
    · exact eff _ h
  unfold mstep at h
  split at h
  · exact call _ _ h
  · unfold callvX at h
    split at h
    · split at h
      · exact call _ _ h
      · cases h
    · cases h
  · exact eff _ h
theorem mrun_frame {cl : CallF} {i : Nat} : ∀ {ms : List MO} {id : Nat} {s : St} {r : St × List Log}, wrOps i ms = false → mrun P G fn cl id ms s = some r → r.1.t.get i = s.t.get i
  | [], id, s, r, _, h => by simp only [mrun] at h; cases h; rfl
  | o :: os, id, s, r, hw, h => by
    simp only [wrOps, Bool.or_eq_false_iff] at hw
    simp only [mrun] at h
    split at h
    · split at h
      · rename_i hst
        split at h
        · rename_i hrec
          cases h
          exact (mrun_frame hw.2 hrec).trans (mstep_frame hw.1 hst)
        · cases h
      · cases h
    · split at h
      · rename_i hrec
        cases h
        exact (mrun_frame hw.2 hrec).trans (putD_get hw.1)
      · cases h
    · cases h
theorem iter_frame {f : St → Option (DX × St)} {i : Nat} (hf : ∀ s r, f s = some r → r.2.t.get i = s.t.get i) : ∀ {n : Nat} {s : St} {r : DX × St}, iter f n s = some r → r.2.t.get i = s.t.get i
  | 0, s, r, h => by simp [iter] at h
  | n + 1, s, r, h => by
    simp only [iter] at h
    split at h
    · rename_i s' hs
      exact (iter_frame hf h).trans (hf _ _ hs)
    · exact hf _ _ h
theorem mexec_frame {cl : CallF} {i k : Nat} : ∀ (m : M) {s : St} {r : DX × St}, wrM i m = false → mexec P G fn cl k m s = some r → r.2.t.get i = s.t.get i
  | .skip, s, r, _, h => by simp only [mexec] at h; cases h; rfl
  | .exit _, s, r, _, h => by simp only [mexec] at h; cases h; rfl
  | .ret, s, r, _, h => by simp only [mexec] at h; cases h; rfl
  | .reg dr ops, s, r, hw, h => by
    simp only [mexec] at h
    split at h
    · rename_i hr
      split at h
      · cases h; exact mrun_frame (s := { s with nx := s.nx + ops.length }) hw hr
      · cases h
    · cases h
  | .seq a b, s, r, hw, h => by
    simp only [wrM, Bool.or_eq_false_iff] at hw
    simp only [mexec] at h
    split at h
    · rename_i h1; exact (mexec_frame b hw.2 h).trans (mexec_frame a hw.1 h1)
    · exact mexec_frame a hw.1 h
  | .cond c a b, s, r, hw, h => by
    simp only [wrM, Bool.or_eq_false_iff] at hw
    simp only [mexec] at h
    split at h
    · exact mexec_frame a hw.1 h
    · exact mexec_frame b hw.2 h
    · cases h
  | .block id c, s, r, hw, h => by
    simp only [mexec] at h
    split at h
    · rename_i h1
      have := mexec_frame c hw h1
      split at h
      · cases h; exact this
      · cases h; exact this
    · exact mexec_frame c hw h
  | .loop c, s, r, hw, h => by
    simp only [mexec] at h
    exact iter_frame (fun s r h => mexec_frame c hw h) h
def kL (I : Nat → St → Prop) (m : Nat) (Q : DX → St → Prop) : DX → St → Prop
  | .normal, s => ∃ m', m' < m ∧ I m' s
  | x, s => Q x s
theorem X_loop {c : M} (I : Nat → St → Prop) (m0 : Nat) (h0 : I m0 s) (hb : ∀ m s', (∀ i, wrM i c = false → s'.t.get i = s.t.get i) → I m s' → X P G fn c s' (kL I m Q)) : X P G fn (.loop c) s Q := by
  have : ∀ (m : Nat) (s' : St), (∀ i, wrM i c = false → s'.t.get i = s.t.get i) → I m s' → ∃ k n x r, iter (mexec P G fn (call P G k) k c) n s' = some (x, r) ∧ Q x r := by
    intro m
    induction m using Nat.strongRecOn with
    | _ m ih =>
      intro s' hf hI
      obtain ⟨k, x, r, h, q⟩ := hb m s' hf hI
      cases x with
      | normal =>
        obtain ⟨m', hlt, hI'⟩ := q
        obtain ⟨k', n, x', r', h', q'⟩ := ih m' hlt r (fun i hi => (mexec_frame c hi h).trans (hf i hi)) hI'
        refine ⟨max k k', n + 1, x', r', ?_, q'⟩
        simp only [iter, up (Nat.le_max_left k k') h]
        exact iter_mono (fun s r h => up (Nat.le_max_right k k') h) (Nat.le_refl _) h'
      | exit id => exact ⟨k, 1, .exit id, r, by simp only [iter, h], q⟩
      | ret => exact ⟨k, 1, .ret, r, by simp only [iter, h], q⟩
  obtain ⟨k, n, x, r, h, q⟩ := this m0 s (fun _ _ => rfl) h0
  refine ⟨max k n, x, r, ?_, q⟩
  simp only [mexec]
  exact iter_mono (fun s r h => up (Nat.le_max_left k n) h) (Nat.le_max_right k n) h
def resX (r : RV) (s : St) : Option DV := match r with
  | .tmp i => some ((s.t.get i).getD (.p (.tup [])))
  | .cell a g k => match s.t.get a with
    | some x => (ldX g k x s.h).map (·.dv)
    | none => none
def resultsX (rs : List RV) (s : St) : Option DV := match rs with
  | [r] => resX r s
  | rs => (optL (fun r => resX r s) rs).map mkTup
theorem resX_ok {r : ResultVar} {x : RV} (hc : cRes P r = some x) {s : St} {d : DV} (h : resX x s = some d) : resD P r s = some d := by
  cases r with
  | tmp i => simp only [cRes] at hc; cases hc; exact h
  | cell a t =>
    simp only [cRes] at hc
    split at hc
    · rename_i g k h1 h2
      cases hc
      simp only [resX] at h
      simp only [resD]
      split at h
      · rename_i x hx
        rw [hx]
        obtain ⟨e, h3, h4⟩ := map_bind h
        have : ld P t x s.h = some e := by
          simp only [ld, h1, h2]
          unfold ldX at h3
          split at h3
          · exact h3
          · exact h3
          · cases h3
        simp only [this, Option.map_some, h4]
      · cases h
    · cases hc
theorem optL_map2 {α β γ : Type} {c : α → Option β} {f : β → Option γ} {g : α → Option γ} (hg : ∀ a b d, c a = some b → f b = some d → g a = some d) : ∀ {l : List α} {xs : List β} {ys : List γ}, optL c l = some xs → optL f xs = some ys → optL g l = some ys
  | [], xs, ys, h1, h2 => by simp only [optL] at h1; cases h1; exact h2
  | a :: l, xs, ys, h1, h2 => by
    simp only [optL] at h1
    cases ha : c a with
    | none => rw [ha] at h1; cases h1
    | some b =>
      rw [ha] at h1
      cases hl : optL c l with
      | none => rw [hl] at h1; cases h1
      | some bs =>
        rw [hl] at h1
        cases h1
        simp only [optL] at h2
        cases hb : f b with
        | none => rw [hb] at h2; cases h2
        | some d =>
          rw [hb] at h2
          cases hbs : optL f bs with
          | none => rw [hbs] at h2; cases h2
          | some ds =>
            rw [hbs] at h2
            cases h2
            simp only [optL, hg a b d ha hb, optL_map2 hg hl hbs]
theorem resultsX_ok {rs : List ResultVar} {xs : List RV} (hc : optL (cRes P) rs = some xs) {s : St} {d : DV} (h : resultsX xs s = some d) : results P rs s = some d := by
  have hl := (optL_len hc).1
  unfold resultsX at h
  split at h
  · rename_i r
    match rs, hc, hl with
    | [r'], hc, _ =>
      simp only [optL] at hc
      cases h1 : cRes P r' with
      | none => rw [h1] at hc; cases hc
      | some y => rw [h1] at hc; cases hc; exact resX_ok h1 h
    | [], _, hl => simp at hl
    | _ :: _ :: _, _, hl => simp at hl
  · rename_i hne
    obtain ⟨ys, h1, h2⟩ := map_bind h
    have := optL_map2 (fun a b d ha hb => resX_ok ha hb) hc h1
    unfold results
    split
    · rename_i r
      cases xs with
      | nil => simp at hl
      | cons x xs => cases xs with
        | nil => exact absurd rfl (hne x)
        | cons y ys => simp at hl
    · rw [this, Option.map_some, h2]
def Ret (rs : List RV) (R : DV → PT AObj → Nat → Prop) : DX → St → Prop
  | .exit _, _ => False
  | _, s => ∃ r, resultsX rs s = some r ∧ R r s.h s.nx
theorem comp_spec {f : FuncId} {m : MF} (hc : comp P G f = some m) : ∃ fn c, P.funcs[f]? = some fn ∧ fn.body = some c ∧ cCode P G f c = some m.body ∧ fn.ntmps = m.n ∧ optL (cRes P) fn.results.toList = some m.res := by
  unfold comp at hc
  split at hc
  · rename_i fn hf
    split at hc
    · rename_i c hb
      split at hc
      · rename_i b rs h1 h2
        cases hc
        exact ⟨fn, c, hf, hb, h1, rfl, h2⟩
      · cases hc
    · cases hc
  · cases hc
theorem callR_body {f : FuncId} {m : MF} (hc : comp P G f = some m) {xs : List DV} (hl : xs.length ≤ m.n) {h : PT AObj} {nx : Nat} {R : DV → PT AObj → Nat → Prop} (hx : X P G f m.body ⟨argsT 0 xs .leaf, h, nx⟩ (Ret m.res R)) : ∃ r h' n', callR P G f xs h nx = some (r, h', n') ∧ R r h' n' := by
  obtain ⟨fn, c, hf, hb, hcc, hn, hr⟩ := comp_spec hc
  obtain ⟨k, x, s, h1, h2⟩ := hx
  have h3 := mexec_ok c hcc h1
  cases x with
  | exit id => exact h2.elim
  | normal =>
    obtain ⟨r, h4, h5⟩ := h2
    refine ⟨r, s.h, s.nx, callR_of P G (k := k + 1) ?_, h5⟩
    simp only [call, hf, hb, hn, hl, if_true, h3, resultsX_ok hr h4, Option.map_some]
  | ret =>
    obtain ⟨r, h4, h5⟩ := h2
    refine ⟨r, s.h, s.nx, callR_of P G (k := k + 1) ?_, h5⟩
    simp only [call, hf, hb, hn, hl, if_true, h3, resultsX_ok hr h4, Option.map_some]
theorem res_body {f : FuncId} {m : MF} (hc : comp P G f = some m) {ps : List PDV} (hl : ps.length ≤ m.n) {q : PDV} (hx : X P G f m.body ⟨argsT 0 (ps.map .p) .leaf, .leaf, 0⟩ (Ret m.res fun r h _ => (snap h r).map (·.1) = some q)) : res P G f ps = some q := by
  obtain ⟨r, h', n', h1, h2⟩ := callR_body hc (by simpa using hl) hx
  unfold res
  rw [h1]
  exact h2
theorem callP_res {f : FuncId} {ps : List PDV} {q : PDV} (h : res P G f ps = some q) : ∃ k, callP P G k f ps = some q := by
  unfold res at h
  split at h
  · rename_i r h' n' hc
    obtain ⟨k, hk⟩ := callR_some P G hc
    refine ⟨k, ?_⟩
    unfold callP
    rw [hk]
    exact h
  · cases h
end
end Go.Proofs.YtddmnddocbmjnaaGreat.Dv
namespace Go.Proofs.YtddmnddocbmjnaaGreat.Dv
def sameV : Value → Value → Bool
  | .int k n, .int k' n' => decide (k = k') && decide (n = n')
  | .string s, .string s' => decide (s = s')
  | .bool b, .bool b' => b == b'
  | _, _ => false
mutual
def sameP : PDV → PDV → Bool
  | .s v, .s v' => sameV v v'
  | .agg l, .agg l' => sameL l l'
  | .lst l, .lst l' => sameL l l'
  | _, _ => false
def sameL : List PDV → List PDV → Bool
  | [], [] => true
  | a :: zas, b :: bs => sameP a b && sameL zas bs
  | _, _ => false
end
theorem sameV_eq {a b : Value} (h : sameV a b = true) : a = b := by
  unfold sameV at h
  split at h
  · simp only [Bool.and_eq_true, decide_eq_true_eq] at h
    rw [h.1, h.2]
  · simp only [decide_eq_true_eq] at h
    rw [h]
  · rw [beq_iff_eq.1 h]
  · cases h
mutual
theorem sameP_eq : ∀ {a b : PDV}, sameP a b = true → a = b
  | .s v, b, h => by
    cases b with
    | s v' => simp only [sameP] at h; rw [sameV_eq h]
    | _ => simp [sameP] at h
  | .agg l, b, h => by
    cases b with
    | agg l' => simp only [sameP] at h; rw [sameL_eq h]
    | _ => simp [sameP] at h
  | .lst l, b, h => by
    cases b with
    | lst l' => simp only [sameP] at h; rw [sameL_eq h]
    | _ => simp [sameP] at h
  | .rp l, b, h => by cases b <;> simp [sameP] at h
  | .clo f x y, b, h => by cases b <;> simp [sameP] at h
  | .tup l, b, h => by cases b <;> simp [sameP] at h
theorem sameL_eq : ∀ {a b : List PDV}, sameL a b = true → a = b
  | [], [], _ => rfl
  | [], _ :: _, h => by simp [sameL] at h
  | _ :: _, [], h => by simp [sameL] at h
  | a :: zas, b :: bs, h => by
    simp only [sameL, Bool.and_eq_true] at h
    rw [sameP_eq h.1, sameL_eq h.2]
end
def i64 (n : Int) : PDV := .s (.int .i64 n)
def intsP : PDV → Option (List Int)
  | .lst l => optL (fun d => match d with
    | .s (.int .i64 n) => some n
    | _ => none) l
  | _ => none
def overP : PDV → Option Int
  | .agg [_, _, _, _, _, _, .s (.int .i64 o)] => some o
  | _ => none
def overL (os ks : List Int) : List (PDV × DV) := ks.filterMap fun k => match os[k.toNat]? with
  | some o => if ks.contains o then some (i64 k, .p (i64 o)) else none
  | none => none
def overX : ExtF := fun xs h id => match xs with
  | [.p (.lst cs), .p (.agg [.lst ps])] => match optL overP cs, optL intsP ps with
    | some os, some zs => if zs.flatten.Nodup ∧ (zs.flatten.all fun k => decide (0 ≤ k) && decide (k < os.length)) = true ∧ zs.length ≤ 4096 ∧ (zs.all fun z => decide (z.length ≤ 4096)) = true then some { dv := .mm id, up := [(id, some (.map (overL os zs.flatten)))] } else none
    | _, _ => none
  | _ => none
def intsL : List DV → Option (List Int)
  | [] => some []
  | .p (.s (.int .i64 n)) :: ds => match intsL ds with
    | some l => some (n :: l)
    | none => none
  | _ => none
def put1 (x : Int) : List Int → List Int
  | [] => [x]
  | y :: l => if x ≤ y then x :: y :: l else y :: put1 x l
def isort : List Int → List Int
  | [] => []
  | x :: l => put1 x (isort l)
def sortX : ExtF := fun xs h id => match xs with
  | [.ms i off len av none] => match h.get i with
    | some (.cells cs false) => if off + len ≤ cs.length ∧ len ≤ 4096 then match intsL ((cs.drop off).take len) with
      | some zs => some { dv := .p (.tup []), rd := [i], up := [(i, some (.cells (setAt cs off ((isort zs).map fun n => .p (.s (.int .i64 n)))) false))] }
      | none => none else none
    | _ => none
  | [.nil] => some { dv := .p (.tup []) }
  | _ => none
abbrev T3 := Int × Int × Int
def trips : List Int → Option (List T3)
  | [] => some []
  | a :: b :: c :: l => match trips l with
    | some r => some ((a, b, c) :: r)
    | none => none
  | _ => none
def le3 (a b : T3) : Bool := if a.1 = b.1 then (if a.2.1 = b.2.1 then decide (a.2.2 ≤ b.2.2) else decide (a.2.1 ≤ b.2.1)) else decide (a.1 ≤ b.1)
def put3 (x : T3) : List T3 → List T3
  | [] => [x]
  | y :: l => if le3 x y then x :: y :: l else y :: put3 x l
def isort3 : List T3 → List T3
  | [] => []
  | x :: l => put3 x (isort3 l)
def cells3 (l : List T3) : List DV := l.flatMap fun x => [.p (i64 x.1), .p (i64 x.2.1), .p (i64 x.2.2)]
def sort3X : ExtF := fun xs h id => match xs with
  | [.ms i off len av (some 3), .p (.s (.func (.func g) fi ca))] => if g = 45 ∧ fi.size = 0 ∧ ca.size = 0 then match h.get i with
    | some (.cells cs false) => if off + len * 3 ≤ cs.length ∧ len ≤ 4096 then match (intsL ((cs.drop off).take (len * 3))).bind trips with
      | some zs => some { dv := .p (.tup []), rd := [i], up := [(i, some (.cells (setAt cs off (cells3 (isort3 zs))) false))] }
      | none => none else none
    | _ => none else none
  | [.nil, .p (.s (.func (.func g) fi ca))] => some { dv := .p (.tup []) }
  | _ => none
def refs : List Nat := [59, 206, 227, 228, 93]
def arrs : List Nat := [69, 57, 93, 176, 24]
def exts : List (Nat × ExtF) := [(44, sort3X), (226, overX), (58, sortX)]
def G0 : Cfg where
  mode := fun _ g => if refs.contains g then .ref else if g == 57 then .ownA else if (exts.find? (·.1 == g)).isSome then .ext else .pure
  arr := fun f => arrs.contains f
  ext := fun f => (exts.find? (·.1 == f)).map (·.2)
end Go.Proofs.YtddmnddocbmjnaaGreat.Dv
namespace Go.Proofs.YtddmnddocbmjnaaGreat.Dv
def codeB (P : Program) : Bool := P.funcs.all fun fn => match fn.body with
  | some c => okCode fn.ntmps c
  | none => true
theorem codeB_ok {P : Program} (h : codeB P = true) : CodeOK P := by
  intro f fn c hf hb
  unfold codeB at h
  rw [Array.all_eq_true] at h
  obtain ⟨hl, he⟩ := Array.getElem?_eq_some_iff.1 hf
  have := h f hl
  rw [he, hb] at this
  exact this
theorem mixed : Tryz.prog.follows .mixedOrders = true := by kernel_rfl
theorem codeOK : CodeOK Tryz.prog := codeB_ok (by kernel_rfl)
end Go.Proofs.YtddmnddocbmjnaaGreat.Dv
namespace Go.Proofs.YtddmnddocbmjnaaGreat.Dv
abbrev I (n : Int) : PDV := .s (.int .i64 n)
abbrev B (b : Bool) : PDV := .s (.bool b)
abbrev L (l : List Int) : PDV := .lst (l.map I)
theorem opsW_none {P : Program} {G : Cfg} {fn : FuncId} {Q : DX → St → Prop} {o : MO} {os : List MO} {id : Nat} {dr : Option (Array Nat)} {lg : List Log} {s : St} : opsW P G fn o os id dr lg s Q (some true) ↔ opsK P G fn os (id + 1) dr lg Q (mstep P G fn (callR P G) o id s) := Iff.rfl
theorem opsW_false {P : Program} {G : Cfg} {fn : FuncId} {Q : DX → St → Prop} {o : MO} {os : List MO} {id : Nat} {dr : Option (Array Nat)} {lg : List Log} {s : St} : opsW P G fn o os id dr lg s Q (some false) ↔ Ops P G fn os (id + 1) dr ({} :: lg) { s with t := putD s.t o.dst (.p (.tup [])) } Q := Iff.rfl
theorem opsK_some {P : Program} {G : Cfg} {fn : FuncId} {Q : DX → St → Prop} {os : List MO} {id : Nat} {dr : Option (Array Nat)} {lg : List Log} {s : St} {l : Log} : opsK P G fn os id dr lg Q (some (s, l)) ↔ Ops P G fn os id dr (l :: lg) s Q := Iff.rfl
theorem condX_true {P : Program} {G : Cfg} {fn : FuncId} {Q : DX → St → Prop} {a b : M} {s : St} : condX P G fn a b s Q (some true) ↔ X P G fn a s Q := Iff.rfl
theorem condX_false {P : Program} {G : Cfg} {fn : FuncId} {Q : DX → St → Prop} {a b : M} {s : St} : condX P G fn a b s Q (some false) ↔ X P G fn b s Q := Iff.rfl
theorem condX_dec {P : Program} {G : Cfg} {fn : FuncId} {Q : DX → St → Prop} {a b : M} {s : St} {p : Prop} [Decidable p] (h1 : p → X P G fn a s Q) (h2 : ¬ p → X P G fn b s Q) : condX P G fn a b s Q (some (decide p)) := by
  by_cases h : p
  · simp only [h, decide_true]; exact h1 h
  · simp only [h, decide_false]; exact h2 h
theorem condX_bool {P : Program} {G : Cfg} {fn : FuncId} {Q : DX → St → Prop} {a b : M} {s : St} {c : Bool} (h1 : c = true → X P G fn a s Q) (h2 : c = false → X P G fn b s Q) : condX P G fn a b s Q (some c) := by
  cases c
  · exact h2 rfl
  · exact h1 rfl
theorem kS_normal {P : Program} {G : Cfg} {fn : FuncId} {Q : DX → St → Prop} {b : M} {s : St} : kS P G fn b Q .normal s ↔ X P G fn b s Q := Iff.rfl
theorem kS_ret {P : Program} {G : Cfg} {fn : FuncId} {Q : DX → St → Prop} {b : M} {s : St} : kS P G fn b Q .ret s ↔ Q .ret s := Iff.rfl
theorem kS_exit {P : Program} {G : Cfg} {fn : FuncId} {Q : DX → St → Prop} {b : M} {s : St} {j : Nat} : kS P G fn b Q (.exit j) s ↔ Q (.exit j) s := Iff.rfl
theorem kB_normal {Q : DX → St → Prop} {s : St} {i : Nat} : kB i Q .normal s ↔ Q .normal s := Iff.rfl
theorem kB_ret {Q : DX → St → Prop} {s : St} {i : Nat} : kB i Q .ret s ↔ Q .ret s := Iff.rfl
theorem kB_exit {Q : DX → St → Prop} {s : St} {i j : Nat} : kB i Q (.exit j) s ↔ if j = i then Q .normal s else Q (.exit j) s := Iff.rfl
theorem kL_normal {Q : DX → St → Prop} {s : St} {J : Nat → St → Prop} {m : Nat} : kL J m Q .normal s ↔ ∃ m', m' < m ∧ J m' s := Iff.rfl
theorem kL_ret {Q : DX → St → Prop} {s : St} {J : Nat → St → Prop} {m : Nat} : kL J m Q .ret s ↔ Q .ret s := Iff.rfl
theorem kL_exit {Q : DX → St → Prop} {s : St} {J : Nat → St → Prop} {m j : Nat} : kL J m Q (.exit j) s ↔ Q (.exit j) s := Iff.rfl
theorem effS_some {dst : Option Nat} {s : St} {e : Eff} : effS dst s (some e) = some (⟨putD s.t dst e.dv, applyUp s.h e.up, s.nx⟩, { ran := true, rd := e.rd, wr := e.up.map (·.1) }) := rfl
theorem putD_some {t : PT DV} {d : Nat} {v : DV} : putD t (some d) v = t.set d (some v) := rfl
theorem putD_none {t : PT DV} {v : DV} : putD t none v = t := rfl
theorem up_nil {h : PT AObj} : applyUp h [] = h := rfl
theorem up_cons {h : PT AObj} {u : Nat × Option AObj} {us : List (Nat × Option AObj)} : applyUp h (u :: us) = applyUp (h.set u.1 u.2) us := rfl
theorem wM_none {t : PT DV} : wM none t = some true := rfl
theorem evX_d {t : PT DV} {v : DV} : evX t (.d v) = v := rfl
theorem evX_t {t : PT DV} {i : Nat} : evX t (.t i) = (t.get i).getD (.p (.tup [])) := rfl
theorem Ret_normal {m : List RV} {R : DV → PT AObj → Nat → Prop} {s : St} : Ret m R .normal s ↔ ∃ r, resultsX m s = some r ∧ R r s.h s.nx := Iff.rfl
theorem Ret_ret {m : List RV} {R : DV → PT AObj → Nat → Prop} {s : St} : Ret m R .ret s ↔ ∃ r, resultsX m s = some r ∧ R r s.h s.nx := Iff.rfl
theorem indep_quiet {b : Array Nat} : ∀ (ls : List Log) (i : Nat), (ls.all fun l => !l.big && l.rd.isEmpty && l.wr.isEmpty) = true → indep b i ls = true := by
  have aux : ∀ (ls : List Log) (la : Log) (i j : Nat), la.big = false → la.rd = [] → la.wr = [] → (ls.all fun l => !l.big && l.rd.isEmpty && l.wr.isEmpty) = true → indepAux b la i j ls = true := by
    intro ls
    induction ls with
    | nil => intro la i j _ _ _ _; rfl
    | cons l ls ih =>
      intro la i j h1 h2 h3 h4
      simp only [List.all_cons, Bool.and_eq_true, Bool.not_eq_true', List.isEmpty_iff] at h4
      obtain ⟨⟨⟨h5, h6⟩, h7⟩, h8⟩ := h4
      simp only [indepAux, Bool.and_eq_true, Bool.or_eq_true]
      refine ⟨.inr ?_, ih la i (j + 1) h1 h2 h3 h8⟩
      simp [clash, h1, h2, h3, h5, meets]
  intro ls
  induction ls with
  | nil => intro i _; rfl
  | cons l ls ih =>
    intro i h
    simp only [List.all_cons, Bool.and_eq_true, Bool.not_eq_true', List.isEmpty_iff] at h
    obtain ⟨⟨⟨h5, h6⟩, h7⟩, h8⟩ := h
    simp only [indep, Bool.and_eq_true]
    exact ⟨aux ls l i (i + 1) h5 h6 h7 h8, ih (i + 1) h8⟩
def quietL (l : Log) : Bool := !l.big && l.rd.isEmpty && l.wr.isEmpty
theorem iop_lss {k : IntKind} {a b : Int} : iopX .lss (.p (.s (.int k a))) (.p (.s (.int k b))) = some (.p (.s (.bool (decide (a < b))))) := by simp [iopX, binI, isCmp, cmpI]
theorem iop_leq {k : IntKind} {a b : Int} : iopX .leq (.p (.s (.int k a))) (.p (.s (.int k b))) = some (.p (.s (.bool (decide (a ≤ b))))) := by simp [iopX, binI, isCmp, cmpI]
theorem iop_gtr {k : IntKind} {a b : Int} : iopX .gtr (.p (.s (.int k a))) (.p (.s (.int k b))) = some (.p (.s (.bool (decide (b < a))))) := by simp [iopX, binI, isCmp, cmpI]
theorem iop_geq {k : IntKind} {a b : Int} : iopX .geq (.p (.s (.int k a))) (.p (.s (.int k b))) = some (.p (.s (.bool (decide (b ≤ a))))) := by simp [iopX, binI, isCmp, cmpI]
theorem iop_eql {k : IntKind} {a b : Int} : iopX .eql (.p (.s (.int k a))) (.p (.s (.int k b))) = some (.p (.s (.bool (decide (a = b))))) := by simp [iopX, binI, isCmp, cmpI]; rfl
theorem iop_neq {k : IntKind} {a b : Int} : iopX .neq (.p (.s (.int k a))) (.p (.s (.int k b))) = some (.p (.s (.bool (decide (a ≠ b))))) := by
  simp [iopX, binI, isCmp, cmpI]
  by_cases h : a = b <;> simp [h]
theorem iop_add {k : IntKind} {a b : Int} : iopX .add (.p (.s (.int k a))) (.p (.s (.int k b))) = some (.p (.s (.int k (k.wrap (a + b))))) := by simp [iopX, binI]
theorem iop_sub {k : IntKind} {a b : Int} : iopX .sub (.p (.s (.int k a))) (.p (.s (.int k b))) = some (.p (.s (.int k (k.wrap (a - b))))) := by simp [iopX, binI]
theorem iop_mul {k : IntKind} {a b : Int} : iopX .mul (.p (.s (.int k a))) (.p (.s (.int k b))) = some (.p (.s (.int k (k.wrap (a * b))))) := by simp [iopX, binI]
theorem wrap_id {n : Int} (h1 : -9223372036854775808 ≤ n) (h2 : n ≤ 9223372036854775807) : IntKind.wrap .i64 n = n := by
  unfold IntKind.wrap
  simp [IntKind.bits, IntKind.signed, IntKind.min, IntKind.max]
  omega
theorem asB_bool {b : Bool} : asB (.p (.s (.bool b))) = some b := rfl
theorem lenL_lst {l : List PDV} : lenLX (.p (.lst l)) = some (.p (.s (.int .i64 l.length))) := rfl
theorem iadrS_lst {k : Nat} {l : List PDV} {i : Nat} {d : PDV} (h : l[i]? = some d) (hk : k = d.cells.length) : iadrSX k (.p (.lst l)) (.p (.s (.int .i64 i))) = some (.p (.rp d.cells)) := by
  simp only [iadrSX, asI]
  rw [if_neg (by omega)]
  simp [h, hk]
end Go.Proofs.YtddmnddocbmjnaaGreat.Dv
