/- Part 9 of the proof: CrowdWeeks: whatever plain data comes in, the call returns true and leaves its arguments as they were. No condition. -/
import Derived.Test.YtddmnddocbmjnaaGreatPb8
import Derived.Maps.RangeRun
import Derived.Orders
import Derived.KernelRfl
import Derived.Shelf.Sort.Plain
import Derived.Shelf.Slices.In.SortNone
import Derived.Shelf.SlSortCmp.NoneTotal
import Derived.Shelf.SlGeneric
import Derived.Test.YtddmnddocbmjnaaGreatChecked
set_option linter.all false
set_option linter.unusedVariables false
set_option linter.unusedSectionVars false
set_option linter.unusedSimpArgs false
namespace Go.Proofs.YtddmnddocbmjnaaGreat.Dv
section
variable {P : Program} {G : Cfg} {fn : FuncId} {Q : DX → St → Prop}
theorem opsW_split {o : MO} {os : List MO} {id : Nat} {dr : Option (Array Nat)} {lg : List Log} {s : St} {c : Bool} (h1 : c = true → opsW P G fn o os id dr lg s Q (some true)) (h2 : c = false → opsW P G fn o os id dr lg s Q (some false)) : opsW P G fn o os id dr lg s Q (some c) := by
  cases c
  · exact h2 rfl
  · exact h1 rfl
theorem condX_split {a b : M} {s : St} {c : Bool} (h1 : c = true → condX P G fn a b s Q (some true)) (h2 : c = false → condX P G fn a b s Q (some false)) : condX P G fn a b s Q (some c) := by
  cases c
  · exact h2 rfl
  · exact h1 rfl
theorem opsW_splitN {o : MO} {os : List MO} {id : Nat} {dr : Option (Array Nat)} {lg : List Log} {s : St} {c : Bool} (h1 : c = true → opsW P G fn o os id dr lg s Q (some false)) (h2 : c = false → opsW P G fn o os id dr lg s Q (some true)) : opsW P G fn o os id dr lg s Q (some (!c)) := by
  cases c
  · exact h2 rfl
  · exact h1 rfl
theorem condX_splitN {a b : M} {s : St} {c : Bool} (h1 : c = true → condX P G fn a b s Q (some false)) (h2 : c = false → condX P G fn a b s Q (some true)) : condX P G fn a b s Q (some (!c)) := by
  cases c
  · exact h2 rfl
  · exact h1 rfl
theorem s_bool {a b : Bool} : (PDV.s (.bool a) = B b) ↔ a = b := by simp [B]
def kF (ci n : Nat) (J : Nat → St → Prop) (i : Nat) (Q : DX → St → Prop) : DX → St → Prop
  | .normal, s => i < n ∧ s.t.get ci = some (.p (.s (.int .i64 (IntKind.wrap .i64 ((i : Int) + 1))))) ∧ J (i + 1) s
  | x, s => Q x s
theorem kF_normal {ci n i : Nat} {J : Nat → St → Prop} {s : St} : kF ci n J i Q .normal s ↔ i < n ∧ s.t.get ci = some (.p (.s (.int .i64 (IntKind.wrap .i64 ((i : Int) + 1))))) ∧ J (i + 1) s := Iff.rfl
theorem kF_ret {ci n i : Nat} {J : Nat → St → Prop} {s : St} : kF ci n J i Q .ret s ↔ Q .ret s := Iff.rfl
theorem kF_exit {ci n i j : Nat} {J : Nat → St → Prop} {s : St} : kF ci n J i Q (.exit j) s ↔ Q (.exit j) s := Iff.rfl
theorem X_for {c : M} {s : St} (ci n : Nat) (J : Nat → St → Prop) (i0 : Nat) (hn : n < 4611686018427387904) (h0 : s.t.get ci = some (.p (.s (.int .i64 (i0 : Int))))) (hi0 : i0 ≤ n) (hJ : J i0 s)
    (hb : ∀ i t h nx, (∀ j, wrM j c = false → t.get j = s.t.get j) → i0 ≤ i → i ≤ n → t.get ci = some (.p (.s (.int .i64 (i : Int)))) → J i ⟨t, h, nx⟩ → X P G fn c ⟨t, h, nx⟩ (kF ci n J i Q)) : X P G fn (.loop c) s Q := by
  refine X_loop (fun m s' => ∃ i, m = n - i ∧ i0 ≤ i ∧ i ≤ n ∧ s'.t.get ci = some (.p (.s (.int .i64 (i : Int)))) ∧ J i s') (n - i0) ⟨i0, rfl, Nat.le_refl _, hi0, h0, hJ⟩ ?_
  rintro m ⟨t, h, nx⟩ hf ⟨i, hm, hi1, hi, hc, hj⟩
  refine X_mono (hb i t h nx hf hi1 hi hc hj) ?_
  intro x r hr
  cases x with
  | normal =>
    obtain ⟨h1, h2, h3⟩ := hr
    rw [wrap_id (by omega) (by omega)] at h2
    exact ⟨n - (i + 1), by omega, i + 1, rfl, by omega, by omega, by rw [h2]; rfl, h3⟩
  | exit id => exact hr
  | ret => exact hr
theorem beq_tt {b : Bool} : (b == true) = b := by cases b <;> rfl
theorem beq_ff {b : Bool} : (b == false) = !b := by cases b <;> rfl
theorem iadrS_map {α : Type} {k : Nat} {f : α → PDV} {l : List α} {i : Nat} : iadrSX k (.p (.lst (l.map f))) (.p (.s (.int .i64 (i : Int)))) = (l[i]?).bind fun x => if k = (f x).cells.length then some (.p (.rp (f x).cells)) else none := by
  simp only [iadrSX, asI]
  rw [if_neg (by omega)]
  simp only [Int.toNat_natCast, List.getElem?_map]
  cases l[i]? <;> rfl
theorem cells_s {v : Value} : (PDV.s v).cells.length = 1 := rfl
theorem cells_l {l : List PDV} : (PDV.lst l).cells.length = 1 := rfl
theorem ld_s {v : Value} {h : PT AObj} : ldX false 1 (.p (.rp (PDV.s v).cells)) h = some { dv := .p (.s v) } := rfl
theorem ld_l {l : List PDV} {h : PT AObj} : ldX false 1 (.p (.rp (PDV.lst l).cells)) h = some { dv := .p (.lst l) } := rfl
theorem fadr_rp {off : Nat} {ds : List PDV} : fadrX off (.p (.rp ds)) = if off ≤ ds.length then some (.p (.rp (ds.drop off))) else none := rfl
theorem fadr_mp {off i o : Nat} : fadrX off (.mp i o) = some (.mp i (o + off)) := rfl
theorem ld_mp {g : Bool} {k i off : Nat} {h : PT AObj} : ldX g k (.mp i off) h = match h.get i with
    | some (.cells cs _) => if g then (if off + k ≤ cs.length then some { dv := mkAgg ((cs.drop off).take k), rd := [i] } else none) else match cs[off]? with
      | some d => some { dv := d, rd := [i] }
      | none => none
    | _ => none := rfl
theorem tup_s {v : Value} : (DV.p (.s v)).tupB = false := rfl
theorem tup_l {l : List PDV} : (DV.p (.lst l)).tupB = false := rfl
theorem cells_dv_s {v : Value} : DV.cells (.p (.s v)) = [.p (.s v)] := rfl
theorem cells_dv_l {l : List PDV} : DV.cells (.p (.lst l)) = [.p (.lst l)] := rfl
theorem get_dec {α : Type} {l : List α} {i : Nat} (h : decide ((i : Int) < (l.length : Int)) = true) : ∃ x, l[i]? = some x ∧ i < l.length ∧ l.take (i + 1) = l.take i ++ [x] := by
  have hi : i < l.length := by simpa using h
  exact ⟨l[i], List.getElem?_eq_getElem hi, hi, by rw [List.take_add_one, List.getElem?_eq_getElem hi]; rfl⟩
theorem cvI_i {k k' : IntKind} {n : Int} : cvIX k (.p (.s (.int k' n))) = some (.p (.s (.int k (k.wrap n)))) := rfl
theorem iop_shr {k k' : IntKind} {a b : Int} : iopX .shr (.p (.s (.int k a))) (.p (.s (.int k' b))) = if b < 0 then none else some (.p (.s (.int k (a.fdiv (2 ^ (min b.toNat k.bits)))))) := by
  by_cases h : b < 0 <;> simp [iopX, shI, h]
theorem iop_rem {k : IntKind} {a b : Int} : iopX .rem (.p (.s (.int k a))) (.p (.s (.int k b))) = if b = 0 then none else some (.p (.s (.int k (a.tmod b)))) := by
  by_cases h : b = 0 <;> simp [iopX, binI, h]
theorem iop_quo {k : IntKind} {a b : Int} : iopX .quo (.p (.s (.int k a))) (.p (.s (.int k b))) = if b = 0 then none else some (.p (.s (.int k (k.wrap (a.tdiv b))))) := by
  by_cases h : b = 0 <;> simp [iopX, binI, h]
def andI (k : IntKind) (a b : Int) : Int := k.wrap (BitVec.ofInt k.bits a &&& BitVec.ofInt k.bits b).toNat
theorem iop_and {k : IntKind} {a b : Int} : iopX .and (.p (.s (.int k a))) (.p (.s (.int k b))) = some (.p (.s (.int k (andI k a b)))) := by simp [iopX, binI, andI]
theorem un_not {b : Bool} : Dv.un .not (.p (.s (.bool b))) = some (.p (.s (.bool (!b)))) := rfl
theorem bop_b {n a b : Bool} : bopX n (.p (.s (.bool a))) (.p (.s (.bool b))) = some (bl n (a == b)) := rfl
theorem bl_f {b : Bool} : bl false b = .p (.s (.bool b)) := rfl
theorem bl_t {b : Bool} : bl true b = .p (.s (.bool (!b))) := rfl
theorem aop_a {ks : List Nat} {n : Bool} {a b : List PDV} : aopX ks n (.p (.agg a)) (.p (.agg b)) = (eqL ks a b).map (bl n) := rfl
theorem mx_two {m : Bool} {a b : Int} : foldO (mxI m) (.p (.s (.int .i64 a))) [.p (.s (.int .i64 b))] = some (.p (.s (.int .i64 (if m then max a b else min a b)))) := by
  cases m <;> simp only [foldO, mxI] <;> simp <;> split <;> omega
theorem sop_eql {a b : ByteArray} : sopX .eql (.p (.s (.string a))) (.p (.s (.string b))) = some (.p (.s (.bool (decide (a.toList = b.toList))))) := by
  simp [sopX, strCmp]
  by_cases h : a.toList = b.toList <;> simp [h]
theorem sop_neq {a b : ByteArray} : sopX .neq (.p (.s (.string a))) (.p (.s (.string b))) = some (.p (.s (.bool (!decide (a.toList = b.toList))))) := by
  simp [sopX, strCmp]
  by_cases h : a.toList = b.toList <;> simp [h]
theorem lenS_s {a : ByteArray} : lenSX (.p (.s (.string a))) = some (.p (.s (.int .i64 (a.size : Int)))) := rfl
theorem xtr_p {i : Nat} {l : List PDV} : Dv.xtr (.p (.tup l)) i = (l[i]?).map .p := rfl
theorem optL_cons {α β : Type} {f : α → Option β} {x : α} {xs : List α} : optL f (x :: xs) = match f x with
  | none => none
  | some y => match optL f xs with
    | none => none
    | some ys => some (y :: ys) := rfl
theorem optL_nil {α β : Type} {f : α → Option β} : optL f [] = some [] := rfl
theorem mkTup_p2 {a b : PDV} : mkTup [.p a, .p b] = .p (.tup [a, b]) := rfl
theorem mkTup_p3 {a b c : PDV} : mkTup [.p a, .p b, .p c] = .p (.tup [a, b, c]) := rfl
theorem wrap_u64 {n : Nat} (h : n < 18446744073709551616) : IntKind.wrap .u64 (n : Int) = (n : Int) := by
  unfold IntKind.wrap
  simp [IntKind.bits, IntKind.signed, IntKind.min, IntKind.max]
  omega
theorem wrap_u32 {n : Nat} (h : n < 4294967296) : IntKind.wrap .u32 (n : Int) = (n : Int) := by
  unfold IntKind.wrap
  simp [IntKind.bits, IntKind.signed, IntKind.min, IntKind.max]
  omega
theorem fdiv_nat {n m : Nat} : (n : Int).fdiv (2 ^ m) = ((n / 2 ^ m : Nat) : Int) := by
  rw [Int.fdiv_eq_ediv_of_nonneg _ (by exact_mod_cast Nat.zero_le (2 ^ m))]
  push_cast
  rfl
theorem nat_neg {n : Nat} : ((n : Int) < 0) = False := by simp
theorem two_ne : ((2 : Int) = 0) = False := by simp
theorem bits_u32 : IntKind.bits .u32 = 32 := rfl
theorem bits_u8 : IntKind.bits .u8 = 8 := rfl
theorem bits_i64 : IntKind.bits .i64 = 64 := rfl
theorem bits_none {n k m : Nat} (hn : n < 2 ^ m) : (∀ i, k ≤ i → i < m → n.testBit i = false) ↔ n / 2 ^ k = 0 := by
  constructor
  · intro h
    apply Nat.eq_of_testBit_eq
    intro i
    rw [Nat.testBit_div_two_pow, Nat.zero_testBit]
    by_cases hi : k + i < m
    · rw [Nat.add_comm] at hi
      exact h (i + k) (by omega) hi
    · exact Nat.testBit_lt_two_pow (Nat.lt_of_lt_of_le hn (Nat.pow_le_pow_right (by omega) (by omega)))
  · intro h i hi _
    have : n < 2 ^ k := by
      rcases Nat.lt_or_ge n (2 ^ k) with h1 | h1
      · exact h1
      · have := Nat.div_pos h1 (Nat.two_pow_pos k)
        omega
    exact Nat.testBit_lt_two_pow (Nat.lt_of_lt_of_le this (Nat.pow_le_pow_right (by omega) hi))
theorem bit_val (n i : Nat) (hn : n < 4294967296) : decide (((n : Int).fdiv (2 ^ min i 32)).tmod 2 = 1) = n.testBit i := by
  have h1 : (n : Int).fdiv (2 ^ min i 32) = ((n / 2 ^ min i 32 : Nat) : Int) := by
    rw [Int.fdiv_eq_ediv_of_nonneg _ (by exact_mod_cast Nat.zero_le (2 ^ min i 32))]
    push_cast
    rfl
  rw [h1]
  have h2 : ((n / 2 ^ min i 32 : Nat) : Int).tmod 2 = ((n / 2 ^ min i 32 % 2 : Nat) : Int) := rfl
  rw [h2, Nat.testBit_eq_decide_div_mod_eq]
  by_cases hi : i ≤ 32
  · rw [Nat.min_eq_left hi]
    have : (((n / 2 ^ i % 2 : Nat) : Int) = 1) ↔ n / 2 ^ i % 2 = 1 := by omega
    simp only [this]
  · rw [Nat.min_eq_right (by omega)]
    have e1 : n / 2 ^ 32 = 0 := Nat.div_eq_of_lt (by omega)
    have e2 : n / 2 ^ i = 0 := Nat.div_eq_of_lt (Nat.lt_of_lt_of_le (by omega : n < 2 ^ 32) (Nat.pow_le_pow_right (by omega) (by omega)))
    rw [e1, e2]
    simp
theorem mkAgg_1 {a : PDV} : mkAgg [.p a] = .p (.agg [a]) := rfl
theorem mkAgg_2 {a b : PDV} : mkAgg [.p a, .p b] = .p (.agg [a, b]) := rfl
theorem mkAgg_3 {a b c : PDV} : mkAgg [.p a, .p b, .p c] = .p (.agg [a, b, c]) := rfl
theorem mkAgg_4 {a b c d : PDV} : mkAgg [.p a, .p b, .p c, .p d] = .p (.agg [a, b, c, d]) := rfl
theorem mkAgg_5 {a b c d e : PDV} : mkAgg [.p a, .p b, .p c, .p d, .p e] = .p (.agg [a, b, c, d, e]) := rfl
theorem layR_nil {cs : List DV} : layR cs [] = some cs := rfl
theorem layR_cons {cs : List DV} {off k : Nat} {v : DV} {r : List (Nat × Nat × DV)} : layR cs ((off, k, v) :: r) = if v.tupB = false ∧ v.cells.length = k ∧ off + k ≤ cs.length then layR (setAt cs off v.cells) r else none := rfl
theorem setAt_nil {cs : List DV} : setAt cs 0 [] = cs := by simp [setAt]
theorem setAt_zero {a x : DV} {cs xs : List DV} : setAt (a :: cs) 0 (x :: xs) = x :: setAt cs 0 xs := by simp [setAt, Nat.add_comm]
theorem setAt_succ {a : DV} {n : Nat} {cs xs : List DV} : setAt (a :: cs) (n + 1) xs = a :: setAt cs n xs := by
  simp [setAt, Nat.add_right_comm]
theorem cells_dv_agg {l : List PDV} : DV.cells (.p (.agg l)) = l.map .p := rfl
theorem tup_agg {l : List PDV} : (DV.p (.agg l)).tupB = false := rfl
theorem sto_mp {k i off : Nat} {x : DV} {h : PT AObj} : stoX k (.mp i off) x h = match h.get i with
    | some (.cells cs false) => if x.tupB = false ∧ x.cells.length = k ∧ off + k ≤ cs.length then some { dv := .p (.tup []), rd := [i], up := [(i, some (.cells (setAt cs off x.cells) false))] } else none
    | _ => none := rfl
noncomputable def mRes (P : Program) (G : Cfg) (g : FuncId) (dst : Option Nat) (s : St) : Option (List PDV × List Nat) → Option (St × Log)
  | some (ps, rd) => effS dst s (match res P G g ps with
    | some q => some { dv := .p q, rd := rd, up := if q.ref then freeze s.h rd else [] }
    | none => none)
  | none => none
theorem mCall_pure {g : FuncId} (hm : G.mode fn g = .pure) {xs : List DV} {dst : Option Nat} {id : Nat} {s : St} : mCall G fn (callR P G) g xs dst id s = mRes P G g dst s (snaps s.h xs) := by
  unfold mCall
  simp only [hm]
  unfold callE mRes res
  cases hs : snaps s.h xs with
  | none => rfl
  | some r =>
    obtain ⟨ps, rd⟩ := r
    simp only
    cases hc : callR P G g (ps.map .p) .leaf 0 with
    | none => rfl
    | some q =>
      obtain ⟨r, h1, n1⟩ := q
      simp only
      cases hq : snap h1 r with
      | none => rfl
      | some z => rfl
def mRes0 (dst : Option Nat) (s : St) : Option PDV → Option (St × Log)
  | some q => some (⟨putD s.t dst (.p q), s.h, s.nx⟩, { ran := true, rd := [], wr := [] })
  | none => none
theorem mRes_nil {g : FuncId} {dst : Option Nat} {s : St} {ps : List PDV} : mRes P G g dst s (some (ps, [])) = mRes0 dst s (res P G g ps) := by
  simp only [mRes]
  generalize res P G g ps = x
  cases x with
  | none => rfl
  | some q =>
    simp only [effS, freeze, mRes0]
    cases q.ref <;> rfl
theorem mRes0_some {dst : Option Nat} {s : St} {q : PDV} : mRes0 dst s (some q) = some (⟨putD s.t dst (.p q), s.h, s.nx⟩, { ran := true, rd := [], wr := [] }) := rfl
theorem snaps_nil {h : PT AObj} : snaps h [] = some ([], []) := rfl
def consS : Option (PDV × List Nat) → Option (List PDV × List Nat) → Option (List PDV × List Nat)
  | some (x, r), some (xs, rs) => some (x :: xs, r ++ rs)
  | _, _ => none
theorem snaps_cons {h : PT AObj} {d : DV} {ds : List DV} : snaps h (d :: ds) = consS (snap h d) (snaps h ds) := by
  unfold snaps
  simp only [snapL]
  cases snap h d with
  | none => rfl
  | some x =>
    obtain ⟨x, r⟩ := x
    cases snapL (snap h) ds <;> rfl
theorem consS_some {x : PDV} {xs : List PDV} {r rs : List Nat} : consS (some (x, r)) (some (xs, rs)) = some (x :: xs, r ++ rs) := rfl
def App (P : Program) (G : Cfg) (c : PDV) (xs : List PDV) (q : PDV) : Prop := ∃ g ys, target (.p c) (xs.map .p) = some (g, ys.map .p) ∧ callable P g = true ∧ (∀ fn, G.mode fn g = .pure) ∧ res P G g ys = some q
theorem snaps_p : ∀ {ys : List PDV} {h : PT AObj}, snaps h (ys.map .p) = some (ys, [])
  | [], h => rfl
  | y :: ys, h => by rw [List.map_cons, snaps_cons, snap_p, snaps_p]; rfl
theorem callv_app {c : PDV} {xs : List PDV} {q : PDV} (ha : App P G c xs q) {zas : List DV} (has : zas = xs.map .p) {dst : Option Nat} {id : Nat} {s : St} : callvX P G fn (callR P G) (.p c) zas dst id s = some (⟨putD s.t dst (.p q), s.h, s.nx⟩, { ran := true, rd := [], wr := [] }) := by
  obtain ⟨g, ys, h1, h2, h3, h4⟩ := ha
  subst has
  unfold callvX
  simp only [h1, h2, if_true]
  rw [mCall_pure (h3 fn), snaps_p, mRes_nil, h4]
  rfl
theorem callv_1 {c x q : PDV} (ha : App P G c [x] q) (fn : FuncId) (dst : Option Nat) (id : Nat) (s : St) : callvX P G fn (callR P G) (.p c) [.p x] dst id s = some (⟨putD s.t dst (.p q), s.h, s.nx⟩, { ran := true, rd := [], wr := [] }) := callv_app ha rfl
theorem callv_2 {c x y q : PDV} (ha : App P G c [x, y] q) (fn : FuncId) (dst : Option Nat) (id : Nat) (s : St) : callvX P G fn (callR P G) (.p c) [.p x, .p y] dst id s = some (⟨putD s.t dst (.p q), s.h, s.nx⟩, { ran := true, rd := [], wr := [] }) := callv_app ha rfl
theorem App_clo {g : FuncId} {fi ca xs : List PDV} {q : PDV} (h2 : callable P g = true) (h3 : ∀ fn, G.mode fn g = .pure) (h4 : res P G g (fi ++ xs ++ ca) = some q) : App P G (.clo (.func g) fi ca) xs q := ⟨g, fi ++ xs ++ ca, by simp [target], h2, h3, h4⟩
theorem App_fn {g : FuncId} {xs : List PDV} {q : PDV} (h2 : callable P g = true) (h3 : ∀ fn, G.mode fn g = .pure) (h4 : res P G g xs = some q) : App P G (.s (.func (.func g) #[] #[])) xs q := ⟨g, xs, by simp [target], h2, h3, h4⟩
theorem snapL_p {h : PT AObj} {n : Nat} : ∀ {ys : List PDV}, snapL (snapF h (n + 1)) (ys.map .p) = some (ys, [])
  | [] => rfl
  | y :: ys => by
    simp only [List.map_cons, snapL, snapL_p]
    rfl
theorem mkClo_mp {f : Fn} {i o : Nat} : mkClo f [] [.mp i o] = .clo f [] [.mp i o] := rfl
theorem res_ex {f : FuncId} {m : MF} (hc : comp P G f = some m) {ps : List PDV} (hl : ps.length ≤ m.n) {R : PDV → Prop} (hx : X P G f m.body ⟨argsT 0 (ps.map .p) .leaf, .leaf, 0⟩ (Ret m.res fun r h _ => ∃ q, (snap h r).map (·.1) = some q ∧ R q)) : ∃ q, res P G f ps = some q ∧ R q := by
  obtain ⟨r, h', n', h1, q, h2, h3⟩ := callR_body hc (by simpa using hl) hx
  refine ⟨q, ?_, h3⟩
  unfold res
  rw [h1]
  exact h2
theorem indep_ro {b : Array Nat} : ∀ (ls : List Log) (i : Nat), (ls.all fun l => !l.big && l.wr.isEmpty) = true → indep b i ls = true := by
  have aux : ∀ (ls : List Log) (la : Log) (i j : Nat), la.big = false → la.wr = [] → (ls.all fun l => !l.big && l.wr.isEmpty) = true → indepAux b la i j ls = true := by
    intro ls
    induction ls with
    | nil => intro la i j _ _ _; rfl
    | cons l ls ih =>
      intro la i j h1 h3 h4
      simp only [List.all_cons, Bool.and_eq_true, Bool.not_eq_true', List.isEmpty_iff] at h4
      obtain ⟨⟨h5, h7⟩, h8⟩ := h4
      simp only [indepAux, Bool.and_eq_true, Bool.or_eq_true]
      refine ⟨.inr ?_, ih la i (j + 1) h1 h3 h8⟩
      simp [clash, h1, h3, h5, h7, meets]
  intro ls
  induction ls with
  | nil => intro i _; rfl
  | cons l ls ih =>
    intro i h
    simp only [List.all_cons, Bool.and_eq_true, Bool.not_eq_true', List.isEmpty_iff] at h
    obtain ⟨⟨h5, h7⟩, h8⟩ := h
    simp only [indep, Bool.and_eq_true]
    exact ⟨aux ls l i (i + 1) h5 h7 h8, ih (i + 1) h8⟩
theorem indepO_ro {b : Array Nat} {ls : List Log} (h : (ls.all fun l => !l.big && l.wr.isEmpty) = true) : indepO (some b) ls = true := indep_ro ls 0 h
def roL : List Log → Bool
  | [] => true
  | l :: ls => !l.big && l.wr.isEmpty && roL ls
theorem roL_nil : roL [] = true := rfl
theorem roL_cons {r : Bool} {rd : List Nat} {ls : List Log} : roL (⟨r, false, rd, []⟩ :: ls) = roL ls := by simp [roL]
theorem roL_all : ∀ {ls : List Log}, roL ls = true → (ls.all fun l => !l.big && l.wr.isEmpty) = true
  | [], _ => rfl
  | l :: ls, h => by
    simp only [roL, Bool.and_eq_true] at h
    simp only [List.all_cons, Bool.and_eq_true]
    exact ⟨h.1, roL_all h.2⟩
theorem indepO_rev {b : Array Nat} {ls : List Log} (h : roL ls = true) : indepO (some b) ls.reverse = true := indepO_ro (by
  have := roL_all h
  rw [List.all_eq_true] at this ⊢
  intro x hx
  exact this x (List.mem_reverse.1 hx))
theorem indepO_none {ls : List Log} : indepO none ls = true := rfl
end
end Go.Proofs.YtddmnddocbmjnaaGreat.Dv
namespace Go.Proofs.YtddmnddocbmjnaaGreat.Dv
section
variable {P : Program} {G : Cfg} {fn : FuncId}
def snapC (h : PT AObj) (f : Fn) (i : Nat) : Option AObj → Option (PDV × List Nat)
  | some (.cells cs _) => match snapL (snapF h 38) cs with
    | some (ys, rs) => some (.clo f [] [.rp ys], i :: rs)
    | none => none
  | _ => none
theorem snap_clo {h : PT AObj} {f : Fn} {i : Nat} : snap h (.clo f [] [.mp i 0]) = snapC h f i (h.get i) := by
  simp only [snap, snapF, snapL, List.drop_zero]
  cases h.get i with
  | none => rfl
  | some o =>
    cases o with
    | cells cs fz =>
      simp only [snapC]
      cases snapL (snapF h 38) cs with
      | none => rfl
      | some r =>
        obtain ⟨ys, rs⟩ := r
        simp
    | tip k => rfl
    | map es => rfl
theorem snapC_grid {h : PT AObj} {f : Fn} {i : Nat} {g : VGrid} {fz : Bool} : snapC h f i (some (.cells (DV.cells (.p g.P)) fz)) = some (.clo f [] [.rp g.P.cells], [i]) := by
  simp only [snapC, VGrid_dc, snapL_p]
theorem snapC_problem {h : PT AObj} {f : Fn} {i : Nat} {g : VProblem} {fz : Bool} : snapC h f i (some (.cells (DV.cells (.p g.P)) fz)) = some (.clo f [] [.rp g.P.cells], [i]) := by
  simp only [snapC, VProblem_dc, snapL_p]
def mRes1 (dst : Option Nat) (s : St) (rd : List Nat) : Option PDV → Option (St × Log)
  | some q => some (⟨putD s.t dst (.p q), applyUp s.h (if q.ref then freeze s.h rd else []), s.nx⟩, { ran := true, rd := rd, wr := (if q.ref then freeze s.h rd else []).map (·.1) })
  | none => none
theorem mRes_cons {g : FuncId} {dst : Option Nat} {s : St} {ps : List PDV} {r : Nat} {rd : List Nat} : mRes P G g dst s (some (ps, r :: rd)) = mRes1 dst s (r :: rd) (res P G g ps) := by
  simp only [mRes]
  generalize res P G g ps = x
  cases x <;> rfl
theorem mRes1_s {dst : Option Nat} {s : St} {rd : List Nat} {v : Value} : mRes1 dst s rd (some (.s v)) = some (⟨putD s.t dst (.p (.s v)), s.h, s.nx⟩, { ran := true, rd := rd, wr := [] }) := rfl
theorem mRes1_t2 {dst : Option Nat} {s : St} {rd : List Nat} {u v : Value} : mRes1 dst s rd (some (.tup [.s u, .s v])) = some (⟨putD s.t dst (.p (.tup [.s u, .s v])), s.h, s.nx⟩, { ran := true, rd := rd, wr := [] }) := rfl
def memB {α : Type} [DecidableEq α] (x : α) (l : List α) : Bool := decide (x ∈ l)
theorem memB_iff {α : Type} [DecidableEq α] {x : α} {l : List α} : memB x l = true ↔ x ∈ l := by simp [memB]
theorem memB_not {α : Type} [DecidableEq α] {x : α} {l : List α} : memB x l = false ↔ x ∉ l := by simp [memB]
def mapS {α : Type} (f : α → PDV) (l : List α) : List (PDV × DV) := l.map fun k => (f k, DV.p (B true))
structure Key {α : Type} [DecidableEq α] (f : α → PDV) (g : Bool) (ks : List Nat) : Prop where
  eq : ∀ a b, eqK ks (f a) (f b) = some (decide (a = b))
  ok : ∀ a, keyX g (f a) = true
theorem key_int : Key I false [0] := ⟨fun a b => by
  simp only [eqK, eqL, eq1]
  by_cases h : a = b <;> simp [h], fun a => rfl⟩
theorem toList_inj {a b : ByteArray} (h : a.toList = b.toList) : a = b := by
  rw [ByteArray.toList_eq, ByteArray.toList_eq] at h
  cases a; cases b
  simp at h
  simp [h]
theorem key_str : Key (fun s : ByteArray => PDV.s (.string s)) false [2] := ⟨fun a b => by
  simp only [eqK, eqL, eq1]
  by_cases h : a = b
  · subst h; simp
  · have : ¬ a.toList = b.toList := fun e => h (toList_inj e)
    simp [h, this], fun a => rfl⟩
theorem key_when : Key VWhen.P true [0, 0, 0, 0] := ⟨fun a b => by
  simp only [eqK, VWhen.P, eqL, eq1]
  have : decide (a = b) = (((a.weeks.val : Int) == (b.weeks.val : Int)) && (((a.days.val : Int) == (b.days.val : Int)) && ((a.start == b.start) && ((a.len == b.len) && true)))) := by
    obtain ⟨a1, a2, a3, a4⟩ := a
    obtain ⟨b1, b2, b3, b4⟩ := b
    rw [Bool.eq_iff_iff]
    simp [Fin.ext_iff]
    omega
  simp only [if_true, this], fun a => rfl⟩
section
variable {α : Type} [DecidableEq α] {f : α → PDV} {g : Bool} {ks : List Nat} (K : Key f g ks)
include K
theorem findK_set {x : α} : ∀ {l : List α} {i : Nat}, l.Nodup → ∃ j, findK ks (f x) (mapS f l) i = some (if x ∈ l then some (j, DV.p (B true)) else none)
  | [], i, _ => ⟨0, by simp [mapS, findK]⟩
  | y :: l, i, hn => by
    rw [List.nodup_cons] at hn
    obtain ⟨j, hj⟩ := findK_set (l := l) (i := i + 1) hn.2
    simp only [mapS, List.map_cons, findK, K.eq]
    rw [show List.map (fun k => (f k, DV.p (B true))) l = mapS f l from rfl, hj]
    by_cases h : x = y
    · subst h
      simp [hn.1]
    · simp only [h, decide_false, List.mem_cons, false_or]
      exact ⟨j, rfl⟩
theorem lkp_set {x : α} {l : List α} (hn : l.Nodup) {i : Nat} {h : PT AObj} (hg : h.get i = some (.map (mapS f l))) : lkpX g ks (.p (.s (.bool false))) false (.mm i) (.p (f x)) h = some { dv := .p (.s (.bool (memB x l))), rd := [i] } := by
  obtain ⟨j, hj⟩ := findK_set K (x := x) (i := 0) hn
  simp only [lkpX, K.ok, K.eq, decide_true, Option.isSome_some, and_self, if_true, hg, hj]
  by_cases hx : x ∈ l
  · simp [hx, memB]
  · simp [hx, memB]
theorem mup_set {x : α} {l : List α} (hn : l.Nodup) (hx : x ∉ l) {i : Nat} {h : PT AObj} (hg : h.get i = some (.map (mapS f l))) : mupX g ks (.mm i) (.p (f x)) (.p (.s (.bool true))) h = some { dv := .p (.tup []), rd := [i], up := [(i, some (.map (mapS f (l ++ [x]))))] } := by
  obtain ⟨j, hj⟩ := findK_set K (x := x) (i := 0) hn
  simp only [mupX, K.ok, K.eq, decide_true, Option.isSome_some, and_self, if_true, hg, hj, hx, if_false]
  simp [mapS]
end
def strP (s : ByteArray) : PDV := .s (.string s)
def intP (n : Int) : PDV := .s (.int .i64 n)
theorem lkp_str {x : ByteArray} {l : List ByteArray} (hn : l.Nodup) {i : Nat} {h : PT AObj} (hg : h.get i = some (.map (mapS strP l))) : lkpX false [2] (.p (.s (.bool false))) false (.mm i) (.p (.s (.string x))) h = some { dv := .p (.s (.bool (memB x l))), rd := [i] } := lkp_set key_str hn hg
theorem mup_str {x : ByteArray} {l : List ByteArray} (hn : l.Nodup) (hx : x ∉ l) {i : Nat} {h : PT AObj} (hg : h.get i = some (.map (mapS strP l))) : mupX false [2] (.mm i) (.p (.s (.string x))) (.p (.s (.bool true))) h = some { dv := .p (.tup []), rd := [i], up := [(i, some (.map (mapS strP (l ++ [x]))))] } := mup_set key_str hn hx hg
theorem lkp_int {x : Int} {l : List Int} (hn : l.Nodup) {i : Nat} {h : PT AObj} (hg : h.get i = some (.map (mapS intP l))) : lkpX false [0] (.p (.s (.bool false))) false (.mm i) (.p (.s (.int .i64 x))) h = some { dv := .p (.s (.bool (memB x l))), rd := [i] } := lkp_set key_int hn hg
theorem mup_int {x : Int} {l : List Int} (hn : l.Nodup) (hx : x ∉ l) {i : Nat} {h : PT AObj} (hg : h.get i = some (.map (mapS intP l))) : mupX false [0] (.mm i) (.p (.s (.int .i64 x))) (.p (.s (.bool true))) h = some { dv := .p (.tup []), rd := [i], up := [(i, some (.map (mapS intP (l ++ [x]))))] } := mup_set key_int hn hx hg
theorem lkp_when {x : VWhen} {l : List VWhen} (hn : l.Nodup) {i : Nat} {h : PT AObj} (hg : h.get i = some (.map (mapS VWhen.P l))) : lkpX true [0, 0, 0, 0] (.p (.s (.bool false))) false (.mm i) (.p x.P) h = some { dv := .p (.s (.bool (memB x l))), rd := [i] } := lkp_set key_when hn hg
theorem mup_when {x : VWhen} {l : List VWhen} (hn : l.Nodup) (hx : x ∉ l) {i : Nat} {h : PT AObj} (hg : h.get i = some (.map (mapS VWhen.P l))) : mupX true [0, 0, 0, 0] (.mm i) (.p x.P) (.p (.s (.bool true))) h = some { dv := .p (.tup []), rd := [i], up := [(i, some (.map (mapS VWhen.P (l ++ [x]))))] } := mup_set key_when hn hx hg
def nqs : Nat → List Log → List (Nat × Log)
  | _, [] => []
  | i, l :: ls => if quietL l then nqs (i + 1) ls else (i, l) :: nqs (i + 1) ls
def nqA (b : Array Nat) (i : Nat) (la : Log) : List (Nat × Log) → Bool
  | [] => true
  | (j, lb) :: r => ((b.getD j 0).testBit i || !clash la lb) && nqA b i la r
def nqP (b : Array Nat) : List (Nat × Log) → Bool
  | [] => true
  | (i, l) :: r => nqA b i l r && nqP b r
def noBig : List Log → Bool
  | [] => true
  | l :: ls => !l.big && noBig ls
theorem clash_quiet {a b : Log} (ha : a.big = false) (hb : quietL b = true) : clash a b = false := by
  simp only [quietL, Bool.and_eq_true, Bool.not_eq_true', List.isEmpty_iff] at hb
  obtain ⟨⟨h1, h2⟩, h3⟩ := hb
  simp [clash, ha, h1, h2, h3, meets]
theorem clash_quiet' {a b : Log} (hb : b.big = false) (ha : quietL a = true) : clash a b = false := by
  simp only [quietL, Bool.and_eq_true, Bool.not_eq_true', List.isEmpty_iff] at ha
  obtain ⟨⟨h1, h2⟩, h3⟩ := ha
  simp [clash, hb, h1, h2, h3, meets]
theorem nq_aux {b : Array Nat} {la : Log} {i : Nat} (hb : la.big = false) : ∀ (ls : List Log) (j : Nat), noBig ls = true → (quietL la = true ∨ nqA b i la (nqs j ls) = true) → indepAux b la i j ls = true
  | [], j, _, _ => rfl
  | l :: ls, j, hn, h => by
    simp only [noBig, Bool.and_eq_true, Bool.not_eq_true'] at hn
    simp only [indepAux, Bool.and_eq_true]
    rcases h with h | h
    · refine ⟨?_, nq_aux hb ls (j + 1) hn.2 (.inl h)⟩
      rw [clash_quiet' hn.1 h]; simp
    · simp only [nqs] at h
      by_cases hq : quietL l = true
      · rw [if_pos hq] at h
        refine ⟨?_, nq_aux hb ls (j + 1) hn.2 (.inr h)⟩
        rw [clash_quiet hb hq]; simp
      · rw [if_neg hq] at h
        simp only [nqA, Bool.and_eq_true] at h
        exact ⟨h.1, nq_aux hb ls (j + 1) hn.2 (.inr h.2)⟩
theorem nq_indep {b : Array Nat} : ∀ (ls : List Log) (i : Nat), noBig ls = true → nqP b (nqs i ls) = true → indep b i ls = true
  | [], i, _, _ => rfl
  | l :: ls, i, hn, h => by
    have hn' := hn
    simp only [noBig, Bool.and_eq_true, Bool.not_eq_true'] at hn
    simp only [indep, Bool.and_eq_true]
    simp only [nqs] at h
    by_cases hq : quietL l = true
    · rw [if_pos hq] at h
      exact ⟨nq_aux hn.1 ls (i + 1) hn.2 (.inl hq), nq_indep ls (i + 1) hn.2 h⟩
    · rw [if_neg hq] at h
      simp only [nqP, Bool.and_eq_true] at h
      exact ⟨nq_aux hn.1 ls (i + 1) hn.2 (.inr h.1), nq_indep ls (i + 1) hn.2 h.2⟩
theorem and_indep {b : Array Nat} {ls : List Log} {B : Prop} (h1 : noBig ls.reverse = true) (h2 : nqP b (nqs 0 ls.reverse) = true) (hB : B) : indepO (some b) ls.reverse = true ∧ B := ⟨nq_indep _ 0 h1 h2, hB⟩
def nodupB {α : Type} [DecidableEq α] : List α → Bool
  | [] => true
  | x :: l => !memB x l && nodupB l
theorem nodupB_iff {α : Type} [DecidableEq α] : ∀ {l : List α}, nodupB l = true ↔ l.Nodup
  | [] => by simp [nodupB]
  | x :: l => by simp [nodupB, List.nodup_cons, nodupB_iff, memB]
theorem nodup_snoc {α : Type} {l : List α} {x : α} : (l ++ [x]).Nodup ↔ l.Nodup ∧ x ∉ l := by
  rw [List.nodup_append]
  simp only [List.nodup_cons, List.not_mem_nil, not_false_eq_true, List.nodup_nil, and_self, true_and, List.mem_singleton]
  constructor
  · rintro ⟨h1, h2⟩; exact ⟨h1, fun h => h2 x h x rfl rfl⟩
  · rintro ⟨h1, h2⟩; exact ⟨h1, fun a ha b hb => by subst hb; intro e; subst e; exact h2 ha⟩
end
end Go.Proofs.YtddmnddocbmjnaaGreat.Dv
namespace Go.Proofs.YtddmnddocbmjnaaGreat.Dv
def one1 (d : PDV) : Bool := match d with
  | .s _ => true
  | .lst _ => true
  | _ => false
theorem one1_cells {d : PDV} (h : one1 d = true) : d.cells = [d] ∧ (DV.p d).cells = [.p d] ∧ (DV.p d).tupB = false := by
  cases d <;> simp [one1] at h <;> exact ⟨rfl, rfl, rfl⟩
theorem bldS_one {v : PDV} {id : Nat} (h : one1 v = true) : bldSX false none 1 [.p v] id = some { dv := .ow id [v], rd := [], up := [(id, some (.tip 1))] } := by
  obtain ⟨h1, h2, h3⟩ := one1_cells h
  simp only [bldSX, List.all_cons, List.all_nil, h2, h3, List.flatMap_cons, List.flatMap_nil]
  rfl
theorem bldS_nil {es : Option Nat} {id : Nat} : bldSX false es 0 [] id = some { dv := .ow id [], rd := [], up := [(id, some (.tip (esK es)))] } := by
  cases es <;> rfl
theorem app_nil_one {v : PDV} {b j id : Nat} {h : PT AObj} (hv : one1 v = true) (hb : b ≤ 70368744177664) : appX false none b .nil (.ow j [v]) h id = some { dv := .ow id [v], rd := [], up := [(id, some (.tip 1))] } := by
  obtain ⟨h1, h2, h3⟩ := one1_cells hv
  simp only [appX, src, szOk, esK, List.all_cons, List.all_nil, h1, Option.getD_none, flatC, List.flatMap_cons, List.flatMap_nil, List.length_cons, List.length_nil, List.map_cons, List.map_nil]
  simp [hb]
  rfl
theorem app_ow_one {l : List PDV} {v : PDV} {b i j id : Nat} {h : PT AObj} (hg : h.get i = some (.tip 1)) (hv : one1 v = true) (hb : (l.length + 1) * b ≤ 70368744177664) : appX false none b (.ow i l) (.ow j [v]) h id = some { dv := .ow id (l ++ [v]), rd := [i], up := [(i, none), (id, some (.tip 1))] } := by
  obtain ⟨h1, h2, h3⟩ := one1_cells hv
  simp only [appX, src, szOk, esK, List.all_cons, List.all_nil, h1, Option.getD_none, flatC, List.flatMap_cons, List.flatMap_nil, List.length_cons, List.length_nil, List.map_cons, List.map_nil, hg]
  simp [hb, plainL, elems]
theorem one1_s {v : Value} : one1 (.s v) = true := rfl
theorem c1 : type_of% @and_indep := @and_indep
theorem c2 : type_of% @condX_splitN := @condX_splitN
theorem c3 : type_of% @opsW_splitN := @opsW_splitN
theorem c4 : type_of% @condX_split := @condX_split
theorem c5 : type_of% @opsW_split := @opsW_split
abbrev Oo (n : Nat) (e : XO) : MO := ⟨some n, none, e⟩
abbrev Ou (e : XO) : MO := ⟨none, none, e⟩
abbrev Og (n m : Nat) (b : Bool) (e : XO) : MO := ⟨some n, some (some m, b), e⟩
abbrev Om (n m : Nat) : MO := ⟨some n, none, .mov (.t m)⟩
abbrev Of (n k m : Nat) : MO := ⟨some n, none, .fadr k (.t m)⟩
abbrev Ol (n m : Nat) : MO := ⟨some n, none, .load false 1 (.t m)⟩
abbrev Ok (n m : Nat) : MO := ⟨some n, none, .lenL (.t m)⟩
abbrev Ci (n : Int) : DV := .p (.s (.int .i64 n))
attribute [go_sem] Int.lt_irrefl Option.map_none Nat.add_eq_left Nat.left_eq_add List.append_nil List.cons_append snap_clo snapC_grid snapC_problem mRes_cons mRes1_s
   mRes1_t2 Nat.add_assoc eq_self decide_true decide_false mkAgg_1 mkAgg_2 mkAgg_3 mkAgg_4 mkAgg_5 layR_nil layR_cons setAt_nil setAt_zero setAt_succ
   cells_dv_agg tup_agg sto_mp List.drop_zero List.take_succ_cons List.drop_succ_cons List.take_zero Nat.le_refl and_self Nat.add_zero List.length_drop
   List.getElem?_cons_zero List.getElem?_cons_succ Int.toNat_natCast nat_neg two_ne bits_u32 bits_u8 bits_i64 cvI_i iop_shr iop_rem iop_quo iop_and
   un_not bop_b bl_f bl_t aop_a mx_two sop_eql sop_neq lenS_s xtr_p optL_cons optL_nil mkTup_p2 mkTup_p3 X_seq X_reg X_cond X_block X_ret X_skip X_exit
   Ops_cons Ops_nil wM_none wM opsW_none opsW_false opsK_some mstep stX evX_t evX_d PT.get_set effS_some okE Option.bind_some Option.map_some putD_some
   putD_none up_nil up_cons Option.getD_some kS_normal kS_ret kS_exit kB_normal kB_ret kB_exit kL_ret kL_exit kL_normal kF_normal kF_ret kF_exit
   indepO_none indepO_rev roL_nil roL_cons true_and and_true List.map_cons List.map_nil List.length_cons List.length_nil List.length_map if_true if_false
   Nat.zero_add lenL_lst iop_lss iop_leq iop_gtr iop_geq iop_eql iop_neq iop_add iop_sub iop_mul asB_bool condX_true condX_false Ret_normal Ret_ret
   resultsX resX Option.some.injEq exists_eq_left' snap_p snap_ow snap_nil snap_zc snaps_nil snaps_cons consS_some List.nil_append mRes_nil mRes0_some
   beq_tt beq_ff Bool.not_true Bool.not_false beq_self_eq_true iadrS_map cells_s cells_l ld_s ld_l fadr_rp fadr_mp ld_mp tup_s tup_l cells_dv_s
   cells_dv_l mkClo_mp argsT Bool.false_eq_true Bool.true_eq_false Option.getD_none PT.get_leaf VGrid_len VGrid_dlen VGrid_tup VGrid_ld VGrid_ldb
   VGrid_setb VGrid_st VGrid_f_weeks VGrid_r_weeks VGrid_b_weeks VGrid_f_days VGrid_r_days VGrid_b_days VGrid_f_slots VGrid_r_slots VGrid_b_slots
   VWhen_len VWhen_dlen VWhen_tup VWhen_ld VWhen_ldb VWhen_setb VWhen_st VWhen_f_weeks VWhen_r_weeks VWhen_b_weeks VWhen_f_days VWhen_r_days VWhen_b_days
   VWhen_f_start VWhen_r_start VWhen_b_start VWhen_f_len VWhen_r_len VWhen_b_len VRoom_len VRoom_dlen VRoom_tup VRoom_ld VRoom_ldb VRoom_setb VRoom_st
   VRoom_f_name VRoom_r_name VRoom_b_name VRoom_f_seats VRoom_r_seats VRoom_b_seats VRoom_f_gear VRoom_r_gear VRoom_b_gear VRoom_f_shut VRoom_r_shut
   VRoom_b_shut VPerson_len VPerson_dlen VPerson_tup VPerson_ld VPerson_ldb VPerson_setb VPerson_st VPerson_f_name VPerson_r_name VPerson_b_name
   VPerson_f_away VPerson_r_away VPerson_b_away VTime_len VTime_dlen VTime_tup VTime_ld VTime_ldb VTime_setb VTime_st VTime_f_when VTime_r_when
   VTime_b_when VTime_r_when_weeks VTime_b_when_weeks VTime_r_when_days VTime_b_when_days VTime_r_when_start VTime_b_when_start VTime_r_when_len
   VTime_b_when_len VTime_f_cost VTime_r_cost VTime_b_cost VPlace_len VPlace_dlen VPlace_tup VPlace_ld VPlace_ldb VPlace_setb VPlace_st VPlace_f_room
   VPlace_r_room VPlace_b_room VPlace_f_cost VPlace_r_cost VPlace_b_cost VClass_len VClass_dlen VClass_tup VClass_ld VClass_ldb VClass_setb VClass_st
   VClass_f_name VClass_r_name VClass_b_name VClass_f_seats VClass_r_seats VClass_b_seats VClass_f_gear VClass_r_gear VClass_b_gear VClass_f_persons
   VClass_r_persons VClass_b_persons VClass_f_times VClass_r_times VClass_b_times VClass_f_places VClass_r_places VClass_b_places VClass_f_over
   VClass_r_over VClass_b_over VWay_len VWay_dlen VWay_tup VWay_ld VWay_ldb VWay_setb VWay_st VWay_f_parts VWay_r_parts VWay_b_parts VCourse_len
   VCourse_dlen VCourse_tup VCourse_ld VCourse_ldb VCourse_setb VCourse_st VCourse_f_name VCourse_r_name VCourse_b_name VCourse_f_ways VCourse_r_ways
   VCourse_b_ways VStudent_len VStudent_dlen VStudent_tup VStudent_ld VStudent_ldb VStudent_setb VStudent_st VStudent_f_name VStudent_r_name
   VStudent_b_name VStudent_f_courses VStudent_r_courses VStudent_b_courses VRule_len VRule_dlen VRule_tup VRule_ld VRule_ldb VRule_setb VRule_st
   VRule_f_kind VRule_r_kind VRule_b_kind VRule_f_classes VRule_r_classes VRule_b_classes VRule_f_a VRule_r_a VRule_b_a VRule_f_b VRule_r_b VRule_b_b
   VRule_f_hard VRule_r_hard VRule_b_hard VRule_f_cost VRule_r_cost VRule_b_cost VWeigh_len VWeigh_dlen VWeigh_tup VWeigh_ld VWeigh_ldb VWeigh_setb
   VWeigh_st VWeigh_f_time VWeigh_r_time VWeigh_b_time VWeigh_f_place VWeigh_r_place VWeigh_b_place VWeigh_f_rule VWeigh_r_rule VWeigh_b_rule
   VWeigh_f_clash VWeigh_r_clash VWeigh_b_clash VProblem_len VProblem_dlen VProblem_tup VProblem_ld VProblem_ldb VProblem_setb VProblem_st
   VProblem_f_name VProblem_r_name VProblem_b_name VProblem_f_grid VProblem_r_grid VProblem_b_grid VProblem_r_grid_weeks VProblem_b_grid_weeks
   VProblem_r_grid_days VProblem_b_grid_days VProblem_r_grid_slots VProblem_b_grid_slots VProblem_f_rooms VProblem_r_rooms VProblem_b_rooms
   VProblem_f_walk VProblem_r_walk VProblem_b_walk VProblem_f_persons VProblem_r_persons VProblem_b_persons VProblem_f_classes VProblem_r_classes
   VProblem_b_classes VProblem_f_courses VProblem_r_courses VProblem_b_courses VProblem_f_students VProblem_r_students VProblem_b_students
   VProblem_f_rules VProblem_r_rules VProblem_b_rules VProblem_f_weigh VProblem_r_weigh VProblem_b_weigh VProblem_r_weigh_time VProblem_b_weigh_time
   VProblem_r_weigh_place VProblem_b_weigh_place VProblem_r_weigh_rule VProblem_b_weigh_rule VProblem_r_weigh_clash VProblem_b_weigh_clash VSeat_len
   VSeat_dlen VSeat_tup VSeat_ld VSeat_ldb VSeat_setb VSeat_st VSeat_f_time VSeat_r_time VSeat_b_time VSeat_f_place VSeat_r_place VSeat_b_place VLoad_len
   VLoad_dlen VLoad_tup VLoad_ld VLoad_ldb VLoad_setb VLoad_st VLoad_f_classes VLoad_r_classes VLoad_b_classes VSpot_len VSpot_dlen VSpot_tup VSpot_ld
   VSpot_ldb VSpot_setb VSpot_st VSpot_f_when VSpot_r_when VSpot_b_when VSpot_r_when_weeks VSpot_b_when_weeks VSpot_r_when_days VSpot_b_when_days
   VSpot_r_when_start VSpot_b_when_start VSpot_r_when_len VSpot_b_when_len VSpot_f_room VSpot_r_room VSpot_b_room
end Go.Proofs.YtddmnddocbmjnaaGreat.Dv
namespace Go.Proofs.YtddmnddocbmjnaaGreat.Dv
open Go.RowKit
def Gn : Cfg := ⟨fun _ _ => .pure, fun _ => false, fun _ => none⟩
section
variable {P : Program} {fn : FuncId}
theorem extOK_n : ExtOK P Gn := fun g F h => by cases h
theorem extLoc_n : ExtLoc Gn := fun g F h => by cases h
theorem callsOK_n (hC : CodeOK P) (hm : P.follows .mixedOrders = true) (k : Nat) : CallsOK P (call P Gn k) := call_ok extOK_n extLoc_n hC hm k
theorem wp_X (hC : CodeOK P) (hm : P.follows .mixedOrders = true) {n : Nat} {c : Code} {m : M} (hc : cCode P Gn fn c = some m) (ho : okCode n c = true) {s : St} {Q : DX → St → Prop} (hx : X P Gn fn m s Q) {ρ : Rho} {w : World} {a : Act} (sr : SR n ρ w s a)
    {R : Exit → Act → World → Prop} (hR : ∀ x r a' w', After n ρ w s r a' w' → Q x r → R (toExit x) a' w') : c.wp P R a w := by
  obtain ⟨k, x, r, h1, h2⟩ := hx
  exact exec_ok extOK_n extLoc_n (callsOK_n hC hm k) hm c ho (mexec_ok c hc h1) sr (fun a' w' hA => hR x r a' w' hA h2)
variable {ops : Array Oper} {Q : Exit → Act → World → Prop} {K : Act → World → Prop} {i n : Nat} {a : Act} {w w' : World} {s : St} {ρ : Rho}
theorem wpOp_run {o : Oper} (ho : ops[i]? = some o) (hg : o.guard = none) {v : Value} (hr : (execOp a.eval o).run P w = .ok (.value v) w') (hK : K (a.put o.dst v) w') : wpOp P ops Q i K a w := by
  unfold wpOp
  simp only [ho]
  rw [show Region.wanted o (yielded ops a.tmps) = true by simp [Region.wanted, hg]]
  simp only [if_true]
  exact .inl (by simp only [Oper.wp, hr, Oper.upon]; exact hK)
theorem SR.val (sr : SR n ρ w s a) {d : DV} {v : Value} (hv : DR w s.h ρ d v) {dst : Option Tmp} (hd : ∀ i, dst = some i → i < n) : SR n ρ w { s with t := putD s.t dst d } (a.put dst v) :=
  ⟨sr.inv, sr.tr.put (fun i hi => by rw [sr.size]; exact hd i hi) hv, by rw [put_size]; exact sr.size, by rw [put_defers]; exact sr.defs, sr.lt⟩
end
theorem name_ok {ρ : Rho} {w : World} {h : PT AObj} (inv : Inv ρ w h) {id : Nat} (hid : ¬ ρ.al id) (b : Nat) : Stp ρ w h (ρ.add id b 0 0 0) w h ∧ Inv (ρ.add id b 0 0 0) w h := by
  have hne : ∀ j ob, h.get j = some ob → j ≠ id := fun j ob hj e => hid (e ▸ (inv.obj j ob hj).1)
  have hst : Stp ρ w h (ρ.add id b 0 0 0) w h := by
    refine ⟨rfl, rfl, rfl, Nat.le_refl _, fun _ _ _ => rfl, fun _ _ _ => rfl, ?_, fun _ h => .inl h, fun j hj => ?_, fun j k hj ht => ⟨ht, ?_⟩, rfl, Nat.le_refl _⟩
    · rintro b' o hb ⟨j, ob, hj, hbk, hc⟩
      obtain ⟨e1, e2, e3, e4⟩ := Rho.add_old (ρ := ρ) b 0 0 0 (hne j ob hj)
      rw [e1] at hbk
      refine ⟨j, ob, hj, hbk, ?_⟩
      cases ob <;> simp only [e2, e4] at hc ⊢ <;> exact hc
    · obtain ⟨e1, e2, e3, e4⟩ := Rho.add_old (ρ := ρ) (id := id) (i := j) b 0 0 0 (fun e => hid (e ▸ hj))
      exact ⟨e1, e2, e3⟩
    · exact (Rho.add_old (ρ := ρ) (id := id) (i := j) b 0 0 0 (fun e => hid (e ▸ hj))).2.2.2
  refine ⟨hst, ?_, ?_, inv.fb, ?_⟩
  · intro j ob hj
    obtain ⟨h1, h2, h3⟩ := inv.obj j ob hj
    obtain ⟨e1, _⟩ := Rho.add_old (ρ := ρ) b 0 0 0 (hne j ob hj)
    exact ⟨.inl h1, by rw [e1]; exact h2, hst.or h1 rfl h3⟩
  · intro i j x y hi hj he
    rw [(Rho.add_old (ρ := ρ) b 0 0 0 (hne i x hi)).1, (Rho.add_old (ρ := ρ) b 0 0 0 (hne j y hj)).1] at he
    exact inv.inj i j x y hi hj he
  · intro j ob o hj
    rw [(Rho.add_old (ρ := ρ) b 0 0 0 (hne j ob hj)).1]
    exact inv.fd j ob o hj
theorem map_lone {ρ : Rho} {w : World} {id : Nat} (hfb : ∀ b o, ρ.frn b o → b < w.heap.size) (hal : ρ.al id) (hb : ρ.blk id < w.heap.size) {en : Array MapEntry} {ck : Nat} {ms : List MapEntry} {es : List (PDV × DV)} (hg : w.heap[ρ.blk id]? = some (.map en ck)) (hk : Kept en ck ms)
    (hm : ∀ {w' : World} {h' : PT AObj}, MapR w' h' ρ es ms) (hf : ∀ o, ¬ ρ.frn (ρ.blk id) o) : Inv ρ w ((PT.leaf : PT AObj).set id (some (.map es))) := by
  have key : ∀ j ob, ((PT.leaf : PT AObj).set id (some (.map es))).get j = some ob → j = id ∧ ob = .map es := by
    intro j ob hj
    by_cases e : id = j
    · subst e
      rw [PT.get_set_same] at hj
      cases hj
      exact ⟨rfl, rfl⟩
    · rw [PT.get_set_ne _ _ e] at hj
      simp at hj
  refine ⟨?_, ?_, hfb, ?_⟩
  · intro j ob hj
    obtain ⟨rfl, rfl⟩ := key j ob hj
    exact ⟨hal, hb, en, ck, ms, hg, hk, hm⟩
  · intro i j x y hi hj he
    rw [(key i x hi).1, (key j y hj).1]
  · intro j ob o hj
    obtain ⟨rfl, rfl⟩ := key j ob hj
    exact hf o
end Go.Proofs.YtddmnddocbmjnaaGreat.Dv
namespace Go.Proofs.YtddmnddocbmjnaaGreat.Dv
abbrev Qn (g : FuncId) : Prop := ∀ {fn : FuncId} {xs : List DV} {dst : Option Nat} {id : Nat} {s : St}, mCall Gn fn (callR Tryz.prog Gn) g xs dst id s = mRes Tryz.prog Gn g dst s (snaps s.h xs)
def m_cmp_isNaN_int_ : MF := ⟨6, (.seq (.reg none [Oo 2 (.mov (.d (.p (.s (.bool false)))))]) (.seq (.reg none [Om 3 0, Om 4 0, Oo 5 (.iop .neq (.t 3) (.t 4)), Om 2 5]) .ret)), [.tmp 2]⟩
theorem c_cmp_isNaN_int_ : comp Tryz.prog Gn 80 = some m_cmp_isNaN_int_ := by kernel_rfl
theorem q_cmp_isNaN_int_ : Qn 80 := mCall_pure rfl
def m_cmp_Compare_int_ : MF := ⟨20, (.seq (.reg none [Oo 4 (.mov (.d (Ci 0)))]) (.seq (.reg none [Om 7 0, Oo 8 (.call 80 [.t 7]), Om 5 8]) (.seq (.reg none [Om 9 1, Oo 10 (.call 80 [.t 9]), Om 6 10]) (.seq (.seq (.reg none [Om 11 5]) (.cond (.t 11) (.seq (.seq (.reg none [Om 12 6]) (.cond (.t 12) (.seq (.reg none [Oo 4 (.mov (.d (Ci 0)))]) .ret) .skip)) (.seq (.reg none [Oo 4 (.mov (.d (Ci (-1))))]) .ret)) .skip)) (.seq (.seq (.reg none [Om 13 6]) (.cond (.t 13) (.seq (.reg none [Oo 4 (.mov (.d (Ci 1)))]) .ret) .skip)) (.seq (.seq (.reg none [Om 14 0, Om 15 1, Oo 16 (.iop .lss (.t 14) (.t 15))]) (.cond (.t 16) (.seq (.reg none [Oo 4 (.mov (.d (Ci (-1))))]) .ret) .skip)) (.seq (.seq (.reg none [Om 17 0, Om 18 1, Oo 19 (.iop .gtr (.t 17) (.t 18))]) (.cond (.t 19) (.seq (.reg none [Oo 4 (.mov (.d (Ci 1)))]) .ret) .skip)) (.seq (.reg none [Oo 4 (.mov (.d (Ci 0)))]) .ret)))))))), [.tmp 4]⟩
theorem c_cmp_Compare_int_ : comp Tryz.prog Gn 47 = some m_cmp_Compare_int_ := by kernel_rfl
theorem q_cmp_Compare_int_ : Qn 47 := mCall_pure rfl
def m_cmp_Or_int_ : MF := ⟨18, (.seq (.reg none [Oo 2 (.mov (.d (Ci 0)))]) (.seq (.reg none [Oo 3 (.mov (.d (Ci 0)))]) (.seq (.seq (.reg none [Om 6 0, Ok 7 6, Oo 8 (.mov (.d (Ci 0)))]) (.block 0 (.loop (.seq (.reg none [Oo 9 (.iop .lss (.t 8) (.t 7))]) (.seq (.cond (.t 9) .skip (.exit 0)) (.seq (.block 1 (.seq (.reg none [Oo 10 (.iadrS 1 (.t 6) (.t 8)), Ol 11 10, Om 5 11]) (.seq (.reg none [Om 12 5, Om 13 3, Oo 14 (.iop .neq (.t 12) (.t 13))]) (.cond (.t 14) (.seq (.reg none [Om 15 5, Om 2 15]) .ret) .skip)))) (.reg none [Oo 16 (.iop .add (.t 8) (.d (Ci 1))), Om 8 16]))))))) (.seq (.reg none [Om 17 3, Om 2 17]) .ret)))), [.tmp 2]⟩
theorem c_cmp_Or_int_ : comp Tryz.prog Gn 46 = some m_cmp_Or_int_ := by kernel_rfl
theorem q_cmp_Or_int_ : Qn 46 := mCall_pure rfl
def m_crowd_Week_1 : MF := ⟨22, (.seq (.reg none [Oo 2 (.box (.t 0)), Oo 3 (.box (.t 1)), Oo 4 (.mov (.d (Ci 0)))]) (.seq (.reg (some #[0, 1, 0, 4, 15, 0, 32, 0, 128, 511, 0, 1024, 0, 4096, 16383, 32767, 65535, 131071]) [Oo 5 (.iadrA 3 1 (.t 2) (.d (Ci 0))), Ol 6 5, Oo 7 (.iadrA 3 1 (.t 3) (.d (Ci 0))), Ol 8 7, Oo 9 (.call 47 [.t 6, .t 8]), Oo 10 (.iadrA 3 1 (.t 2) (.d (Ci 1))), Ol 11 10, Oo 12 (.iadrA 3 1 (.t 3) (.d (Ci 1))), Ol 13 12, Oo 14 (.call 47 [.t 11, .t 13]), Oo 15 (.iadrA 3 1 (.t 2) (.d (Ci 2))), Ol 16 15, Oo 17 (.iadrA 3 1 (.t 3) (.d (Ci 2))), Ol 18 17, Oo 19 (.call 47 [.t 16, .t 18]), Oo 20 (.bldS false none 3 [.t 9, .t 14, .t 19]), Oo 21 (.call 46 [.t 20]), Om 4 21]) .ret)), [.tmp 4]⟩
theorem c_crowd_Week_1 : comp Tryz.prog Gn 45 = some m_crowd_Week_1 := by kernel_rfl
def cmpI1 (a b : Int) : Int := if a < b then -1 else if b < a then 1 else 0
def or3 (a b c : Int) : Int := if a ≠ 0 then a else if b ≠ 0 then b else c
def cf3 (a b : T3) : Int := or3 (cmpI1 a.1 b.1) (cmpI1 a.2.1 b.2.1) (cmpI1 a.2.2 b.2.2)
def P3 (a : T3) : PDV := .agg [I a.1, I a.2.1, I a.2.2]
theorem isNaN_n (a : Int) : res Tryz.prog Gn 80 [I a] = some (B false) := by
  refine res_body c_cmp_isNaN_int_ (Nat.le_of_ble_eq_true rfl) ?_
  simp only [m_cmp_isNaN_int_, Oo, Ou, Og, Ci, Om, Of, Ol, Ok]
  repeat' (first | simp only [go_sem, Int.reduceLT, Int.reduceLE, Int.reduceNeg, Int.reduceEq, Nat.reduceAdd, Nat.reduceEqDiff, Nat.reduceLeDiff, Nat.reduceBEq, reduceIte, reduceCtorEq, show decide (a ≠ a) = false by simp] | (with_reducible first | apply c1 | (first | apply c2 | apply c3) <;> (intro hc; simp only [hc]) | (first | apply c4 | apply c5) <;> (intro hc; rw [hc])))
theorem compare_n (a b : Int) : res Tryz.prog Gn 47 [I a, I b] = some (I (cmpI1 a b)) := by
  refine res_body c_cmp_Compare_int_ (Nat.le_of_ble_eq_true rfl) ?_
  simp only [m_cmp_Compare_int_, Oo, Ou, Og, Ci, Om, Of, Ol, Ok]
  by_cases h1 : a < b
  · repeat' (first | simp only [go_sem, Int.reduceLT, Int.reduceLE, Int.reduceNeg, Int.reduceEq, Nat.reduceAdd, Nat.reduceEqDiff, Nat.reduceLeDiff, Nat.reduceBEq, reduceIte, reduceCtorEq, q_cmp_isNaN_int_, isNaN_n, show decide (a < b) = true by simpa using h1] | (with_reducible first | apply c1 | (first | apply c2 | apply c3) <;> (intro hc; simp only [hc]) | (first | apply c4 | apply c5) <;> (intro hc; rw [hc])))
    simp [cmpI1, h1]
  · by_cases h2 : b < a
    · repeat' (first | simp only [go_sem, Int.reduceLT, Int.reduceLE, Int.reduceNeg, Int.reduceEq, Nat.reduceAdd, Nat.reduceEqDiff, Nat.reduceLeDiff, Nat.reduceBEq, reduceIte, reduceCtorEq, q_cmp_isNaN_int_, isNaN_n, show decide (a < b) = false by simpa using h1, show decide (b < a) = true by simpa using h2] | (with_reducible first | apply c1 | (first | apply c2 | apply c3) <;> (intro hc; simp only [hc]) | (first | apply c4 | apply c5) <;> (intro hc; rw [hc])))
      simp [cmpI1, h1, h2]
    · repeat' (first | simp only [go_sem, Int.reduceLT, Int.reduceLE, Int.reduceNeg, Int.reduceEq, Nat.reduceAdd, Nat.reduceEqDiff, Nat.reduceLeDiff, Nat.reduceBEq, reduceIte, reduceCtorEq, q_cmp_isNaN_int_, isNaN_n, show decide (a < b) = false by simpa using h1, show decide (b < a) = false by simpa using h2] | (with_reducible first | apply c1 | (first | apply c2 | apply c3) <;> (intro hc; simp only [hc]) | (first | apply c4 | apply c5) <;> (intro hc; rw [hc])))
      simp [cmpI1, h1, h2]
theorem or_n (l : List Int) (hl : l.length ≤ 1048576) : res Tryz.prog Gn 46 [L l] = some (I ((l.find? (fun x => decide (x ≠ 0))).getD 0)) := by
  refine res_body c_cmp_Or_int_ (Nat.le_of_ble_eq_true rfl) ?_
  simp only [m_cmp_Or_int_, Oo, Ou, Og, Ci, Om, Of, Ol, Ok]
  repeat' (first | simp only [go_sem, Int.reduceLT, Int.reduceLE, Int.reduceNeg, Int.reduceEq, Nat.reduceAdd, Nat.reduceEqDiff, Nat.reduceLeDiff, Nat.reduceBEq, reduceIte, reduceCtorEq] | (with_reducible first | apply c1 | (first | apply c2 | apply c3) <;> (intro hc; simp only [hc]) | (first | apply c4 | apply c5) <;> (intro hc; rw [hc])))
  refine X_for 8 l.length (fun i s => ∀ x ∈ l.take i, x = 0) 0 (by omega) ?_ (Nat.zero_le _) (by simp) ?_
  · simp only [go_sem, Int.reduceLT, Int.reduceLE, Int.reduceNeg, Int.reduceEq, Nat.reduceAdd, Nat.reduceEqDiff, Nat.reduceLeDiff, Nat.reduceBEq, reduceIte, reduceCtorEq]; rfl
  intro i t h nx hf hi0 hi h8 hj
  have h3 := hf 3 rfl; simp only [PT.get_set, Nat.reduceEqDiff, if_true, if_false, reduceIte, PT.get_leaf] at h3; have h6 := hf 6 rfl; simp only [PT.get_set, Nat.reduceEqDiff, if_true, if_false, reduceIte, PT.get_leaf] at h6; have h7 := hf 7 rfl; simp only [PT.get_set, Nat.reduceEqDiff, if_true, if_false, reduceIte, PT.get_leaf] at h7
  clear hf
  rcases Nat.lt_or_ge i l.length with hlt | hge
  · obtain ⟨x, hx, _, htk⟩ := get_dec (l := l) (i := i) (by simpa using hlt)
    have hdl : decide ((i : Int) < (l.length : Int)) = true := by simpa using hlt
    by_cases h0 : x = 0
    · repeat' (first | simp only [go_sem, Int.reduceLT, Int.reduceLE, Int.reduceNeg, Int.reduceEq, Nat.reduceAdd, Nat.reduceEqDiff, Nat.reduceLeDiff, Nat.reduceBEq, reduceIte, reduceCtorEq, h3, h6, h7, h8, hx, hdl, show decide (x ≠ 0) = false by simpa using h0] | (with_reducible first | apply c1 | (first | apply c2 | apply c3) <;> (intro hc; simp only [hc]) | (first | apply c4 | apply c5) <;> (intro hc; rw [hc])))
      refine ⟨hlt, fun y hy => ?_⟩
      rw [htk, List.mem_append, List.mem_singleton] at hy
      rcases hy with hy | rfl
      · exact hj y hy
      · exact h0
    · repeat' (first | simp only [go_sem, Int.reduceLT, Int.reduceLE, Int.reduceNeg, Int.reduceEq, Nat.reduceAdd, Nat.reduceEqDiff, Nat.reduceLeDiff, Nat.reduceBEq, reduceIte, reduceCtorEq, h3, h6, h7, h8, hx, hdl, show decide (x ≠ 0) = true by simpa using h0] | (with_reducible first | apply c1 | (first | apply c2 | apply c3) <;> (intro hc; simp only [hc]) | (first | apply c4 | apply c5) <;> (intro hc; rw [hc])))
      have : l.find? (fun x => decide (x ≠ 0)) = some x := by
        rw [List.find?_eq_some_iff_append]
        refine ⟨by simpa using h0, l.take i, l.drop (i + 1), ?_, fun y hy => by simpa using hj y hy⟩
        rw [← (List.getElem?_eq_some_iff.1 hx).2, ← List.drop_eq_getElem_cons hlt, List.take_append_drop]
      rw [this]; rfl
  · rw [List.take_of_length_le hge] at hj
    repeat' (first | simp only [go_sem, Int.reduceLT, Int.reduceLE, Int.reduceNeg, Int.reduceEq, Nat.reduceAdd, Nat.reduceEqDiff, Nat.reduceLeDiff, Nat.reduceBEq, reduceIte, reduceCtorEq, h3, h6, h7, h8, show decide ((i : Int) < (l.length : Int)) = false by simpa using hge] | (with_reducible first | apply c1 | (first | apply c2 | apply c3) <;> (intro hc; simp only [hc]) | (first | apply c4 | apply c5) <;> (intro hc; rw [hc])))
    have : l.find? (fun x => decide (x ≠ 0)) = none := by
      rw [List.find?_eq_none]
      intro x hx
      simpa using hj x hx
    rw [this]; rfl
theorem or3_eq {a b c : Int} : or3 a b c = (([a, b, c].find? (fun x => decide (x ≠ 0))).getD 0) := by
  unfold or3
  by_cases h1 : a = 0
  · by_cases h2 : b = 0
    · by_cases h3 : c = 0 <;> simp [h1, h2, h3]
    · simp [h1, h2]
  · simp [h1]
theorem iadrA_mp {n k i id o : Nat} (h : i < n) : iadrAX n k (.mp id o) (.p (.s (.int .i64 (i : Int)))) = some (.mp id (o + i * k)) := by
  simp only [iadrAX, asI]
  rw [if_neg (by omega), Int.toNat_natCast, if_pos h]
theorem bldS_3 {a b c : Int} {id : Nat} : bldSX false none 3 [.p (I a), .p (I b), .p (I c)] id = some { dv := .ow id ([a, b, c].map I), rd := [], up := [(id, some (.tip 1))] } := rfl
theorem week1_n (a b : T3) : res Tryz.prog Gn 45 [P3 a, P3 b] = some (I (cf3 a b)) := by
  refine res_body c_crowd_Week_1 (Nat.le_of_ble_eq_true rfl) ?_
  simp only [m_crowd_Week_1, Oo, Ou, Og, Ci, Om, Of, Ol, Ok, P3]
  have e0 : ∀ {id o : Nat}, iadrAX 3 1 (.mp id o) (.p (.s (.int .i64 0))) = some (.mp id o) := fun {id o} => by simpa using iadrA_mp (n := 3) (k := 1) (i := 0) (id := id) (o := o) (by omega)
  have e1 : ∀ {id o : Nat}, iadrAX 3 1 (.mp id o) (.p (.s (.int .i64 1))) = some (.mp id (o + 1)) := fun {id o} => by simpa using iadrA_mp (n := 3) (k := 1) (i := 1) (id := id) (o := o) (by omega)
  have e2 : ∀ {id o : Nat}, iadrAX 3 1 (.mp id o) (.p (.s (.int .i64 2))) = some (.mp id (o + 2)) := fun {id o} => by simpa using iadrA_mp (n := 3) (k := 1) (i := 2) (id := id) (o := o) (by omega)
  have ho : res Tryz.prog Gn 46 [.lst [I (cmpI1 a.1 b.1), I (cmpI1 a.2.1 b.2.1), I (cmpI1 a.2.2 b.2.2)]] = some (I (or3 (cmpI1 a.1 b.1) (cmpI1 a.2.1 b.2.1) (cmpI1 a.2.2 b.2.2))) := by
    rw [or3_eq]
    exact or_n [cmpI1 a.1 b.1, cmpI1 a.2.1 b.2.1, cmpI1 a.2.2 b.2.2] (by simp)
  repeat' (first | simp only [go_sem, Int.reduceLT, Int.reduceLE, Int.reduceNeg, Int.reduceEq, Nat.reduceAdd, Nat.reduceEqDiff, Nat.reduceLeDiff, Nat.reduceBEq, reduceIte, reduceCtorEq, e0, e1, e2, q_cmp_Compare_int_, compare_n, bldS_3, q_cmp_Or_int_, ho] | (with_reducible first | apply c1 | (first | apply c2 | apply c3) <;> (intro hc; simp only [hc]) | (first | apply c4 | apply c5) <;> (intro hc; rw [hc])))
  all_goals rfl
end Go.Proofs.YtddmnddocbmjnaaGreat.Dv
namespace Go.Proofs
open Go.Shelf
def Tryz.lays189_ren : Go.Shelf.Ren := ⟨fun | 189 => 58 | 125 => 79 | 257 => 94 | 128 => 116 | 129 => 117 | 294 => 151 | 295 => 152 | 296 => 153 | 297 => 154 | 298 => 155 | 299 => 156 | 216 => 157 | 300 => 158 | 301 => 159 | 328 => 212 | 329 => 185 | 330 => 186 | 331 => 213 | 332 => 214 | 215 => 80 | 343 => 244 | n => n, fun | 28 => 51 | 3 => 3 | 46 => 97 | 0 => 0 | 51 => 78 | 53 => 156 | 4 => 4 | 183 => 149 | 182 => 148 | 131 => 48 | 5 => 5 | 9 => 9 | 218 => 212 | 222 => 216 | 228 => 245 | 229 => 157 | n => n, fun | n => n⟩
theorem Tryz.lays189 : Go.Proofs.Lays.n189 Tryz.prog Tryz.lays189_ren := {
  mixed := by kernel_rfl
  f125 := Tryz.func79.trans (congrArg some (by kernel_rfl))
  f128 := Tryz.func116.trans (congrArg some (by kernel_rfl))
  f129 := Tryz.func117.trans (congrArg some (by kernel_rfl))
  f189 := Tryz.func58.trans (congrArg some (by kernel_rfl))
  f215 := Tryz.func80.trans (congrArg some (by kernel_rfl))
  f216 := Tryz.func157.trans (congrArg some (by kernel_rfl))
  f257 := Tryz.func94.trans (congrArg some (by kernel_rfl))
  f294 := Tryz.func151.trans (congrArg some (by kernel_rfl))
  f295 := Tryz.func152.trans (congrArg some (by kernel_rfl))
  f296 := Tryz.func153.trans (congrArg some (by kernel_rfl))
  f297 := Tryz.func154.trans (congrArg some (by kernel_rfl))
  f298 := Tryz.func155.trans (congrArg some (by kernel_rfl))
  f299 := Tryz.func156.trans (congrArg some (by kernel_rfl))
  f300 := Tryz.func158.trans (congrArg some (by kernel_rfl))
  f301 := Tryz.func159.trans (congrArg some (by kernel_rfl))
  f328 := Tryz.func212.trans (congrArg some (by kernel_rfl))
  f329 := Tryz.func185.trans (congrArg some (by kernel_rfl))
  f330 := Tryz.func186.trans (congrArg some (by kernel_rfl))
  f331 := Tryz.func213.trans (congrArg some (by kernel_rfl))
  f332 := Tryz.func214.trans (congrArg some (by kernel_rfl))
  f343 := Tryz.func244.trans (congrArg some (by kernel_rfl))
  t0 := Tryz.underlying0
  a0 := Tryz.isAgg0
  z0 := Tryz.sizeOf0
  v0 := Tryz.zeroValue0
  t3 := Tryz.underlying3
  a3 := Tryz.isAgg3
  z3 := Tryz.sizeOf3
  v3 := Tryz.zeroValue3
  t4 := Tryz.underlying4
  a4 := Tryz.isAgg4
  z4 := Tryz.sizeOf4
  v4 := Tryz.zeroValue4
  t5 := Tryz.underlying5
  a5 := Tryz.isAgg5
  z5 := Tryz.sizeOf5
  v5 := Tryz.zeroValue5
  t9 := Tryz.underlying9
  a9 := Tryz.isAgg9
  z9 := Tryz.sizeOf9
  v9 := Tryz.zeroValue9
  t28 := Tryz.underlying51
  a28 := Tryz.isAgg51
  z28 := Tryz.sizeOf51
  v28 := Tryz.zeroValue51
  t46 := Tryz.underlying97
  a46 := Tryz.isAgg97
  z46 := Tryz.sizeOf97
  v46 := Tryz.zeroValue97
  t51 := Tryz.underlying78
  a51 := Tryz.isAgg78
  z51 := Tryz.sizeOf78
  v51 := Tryz.zeroValue78
  t53 := Tryz.underlying156
  a53 := Tryz.isAgg156
  z53 := Tryz.sizeOf156
  v53 := Tryz.zeroValue156
  t131 := Tryz.underlying48
  a131 := Tryz.isAgg48
  z131 := Tryz.sizeOf48
  v131 := Tryz.zeroValue48
  t182 := Tryz.underlying148
  a182 := Tryz.isAgg148
  z182 := Tryz.sizeOf148
  v182 := Tryz.zeroValue148
  t183 := Tryz.underlying149
  a183 := Tryz.isAgg149
  z183 := Tryz.sizeOf149
  v183 := Tryz.zeroValue149
  t218 := Tryz.underlying212
  a218 := Tryz.isAgg212
  z218 := Tryz.sizeOf212
  v218 := Tryz.zeroValue212
  t222 := Tryz.underlying216
  a222 := Tryz.isAgg216
  z222 := Tryz.sizeOf216
  v222 := Tryz.zeroValue216
  t228 := Tryz.underlying245
  a228 := Tryz.isAgg245
  z228 := Tryz.sizeOf245
  v228 := Tryz.zeroValue245
  t229 := Tryz.underlying157
  a229 := Tryz.isAgg157
  z229 := Tryz.sizeOf157
  v229 := Tryz.zeroValue157 }
def Tryz.laysS3_ren : Go.Shelf.Ren := ⟨fun | 6 => 44 | 15 => 79 | 14 => 78 | 28 => 116 | 29 => 117 | 20 => 108 | 21 => 109 | 22 => 110 | 23 => 111 | 24 => 112 | 25 => 113 | 26 => 114 | 27 => 115 | 46 => 184 | 47 => 185 | 48 => 186 | 49 => 187 | 50 => 188 | 57 => 234 | n => n, fun | 22 => 55 | 24 => 71 | 25 => 92 | 3 => 3 | 39 => 97 | 0 => 0 | 53 => 78 | 55 => 156 | 4 => 4 | 46 => 149 | 45 => 148 | 50 => 48 | 5 => 5 | 9 => 9 | 66 => 212 | 70 => 216 | 76 => 245 | 77 => 157 | n => n, fun | n => n⟩
theorem Tryz.laysS3 : Go.Proofs.SlLaysF0.n6 Tryz.prog Tryz.laysS3_ren := {
  mixed := by kernel_rfl
  f6 := ⟨Tryz.f44.name, by decide, Tryz.func44.trans (congrArg some (by kernel_rfl))⟩
  f14 := ⟨Tryz.f78.name, by decide, Tryz.func78.trans (congrArg some (by kernel_rfl))⟩
  f15 := Tryz.func79.trans (congrArg some (by kernel_rfl))
  f20 := ⟨Tryz.f108.name, by decide, Tryz.func108.trans (congrArg some (by kernel_rfl))⟩
  f21 := ⟨Tryz.f109.name, by decide, Tryz.func109.trans (congrArg some (by kernel_rfl))⟩
  f22 := ⟨Tryz.f110.name, by decide, Tryz.func110.trans (congrArg some (by kernel_rfl))⟩
  f23 := ⟨Tryz.f111.name, by decide, Tryz.func111.trans (congrArg some (by kernel_rfl))⟩
  f24 := ⟨Tryz.f112.name, by decide, Tryz.func112.trans (congrArg some (by kernel_rfl))⟩
  f25 := ⟨Tryz.f113.name, by decide, Tryz.func113.trans (congrArg some (by kernel_rfl))⟩
  f26 := ⟨Tryz.f114.name, by decide, Tryz.func114.trans (congrArg some (by kernel_rfl))⟩
  f27 := ⟨Tryz.f115.name, by decide, Tryz.func115.trans (congrArg some (by kernel_rfl))⟩
  f28 := Tryz.func116.trans (congrArg some (by kernel_rfl))
  f29 := Tryz.func117.trans (congrArg some (by kernel_rfl))
  f46 := ⟨Tryz.f184.name, by decide, Tryz.func184.trans (congrArg some (by kernel_rfl))⟩
  f47 := Tryz.func185.trans (congrArg some (by kernel_rfl))
  f48 := Tryz.func186.trans (congrArg some (by kernel_rfl))
  f49 := ⟨Tryz.f187.name, by decide, Tryz.func187.trans (congrArg some (by kernel_rfl))⟩
  f50 := ⟨Tryz.f188.name, by decide, Tryz.func188.trans (congrArg some (by kernel_rfl))⟩
  f57 := ⟨Tryz.f234.name, by decide, Tryz.func234.trans (congrArg some (by kernel_rfl))⟩
  t0 := Tryz.underlying0
  a0 := Tryz.isAgg0
  z0 := Tryz.sizeOf0
  v0 := Tryz.zeroValue0
  t3 := Tryz.underlying3
  a3 := Tryz.isAgg3
  z3 := Tryz.sizeOf3
  v3 := Tryz.zeroValue3
  t4 := Tryz.underlying4
  a4 := Tryz.isAgg4
  z4 := Tryz.sizeOf4
  v4 := Tryz.zeroValue4
  t5 := Tryz.underlying5
  a5 := Tryz.isAgg5
  z5 := Tryz.sizeOf5
  v5 := Tryz.zeroValue5
  t9 := Tryz.underlying9
  a9 := Tryz.isAgg9
  z9 := Tryz.sizeOf9
  v9 := Tryz.zeroValue9
  t22 := Tryz.underlying55
  a22 := Tryz.isAgg55
  z22 := Tryz.sizeOf55
  v22 := Tryz.zeroValue55
  t25 := Tryz.underlying92
  a25 := Tryz.isAgg92
  z25 := Tryz.sizeOf92
  v25 := Tryz.zeroValue92
  t39 := Tryz.underlying97
  a39 := Tryz.isAgg97
  z39 := Tryz.sizeOf97
  v39 := Tryz.zeroValue97
  t45 := Tryz.underlying148
  a45 := Tryz.isAgg148
  z45 := Tryz.sizeOf148
  v45 := Tryz.zeroValue148
  t46 := Tryz.underlying149
  a46 := Tryz.isAgg149
  z46 := Tryz.sizeOf149
  v46 := Tryz.zeroValue149
  t50 := Tryz.underlying48
  a50 := Tryz.isAgg48
  z50 := Tryz.sizeOf48
  v50 := Tryz.zeroValue48
  t53 := Tryz.underlying78
  a53 := Tryz.isAgg78
  z53 := Tryz.sizeOf78
  v53 := Tryz.zeroValue78
  t55 := Tryz.underlying156
  a55 := Tryz.isAgg156
  z55 := Tryz.sizeOf156
  v55 := Tryz.zeroValue156
  t66 := Tryz.underlying212
  a66 := Tryz.isAgg212
  z66 := Tryz.sizeOf212
  v66 := Tryz.zeroValue212
  t70 := Tryz.underlying216
  a70 := Tryz.isAgg216
  z70 := Tryz.sizeOf216
  v70 := Tryz.zeroValue216
  t76 := Tryz.underlying245
  a76 := Tryz.isAgg245
  z76 := Tryz.sizeOf245
  v76 := Tryz.zeroValue245
  t77 := Tryz.underlying157
  a77 := Tryz.isAgg157
  z77 := Tryz.sizeOf157
  v77 := Tryz.zeroValue157 }
end Go.Proofs
namespace Go.Proofs.YtddmnddocbmjnaaGreat.Dv
open Go.Shelf Go.RowKit Go.Sort
theorem put1_perm (x : Int) : ∀ l : List Int, (put1 x l).Perm (x :: l)
  | [] => .refl _
  | y :: l => by
    simp only [put1]
    split
    · exact .refl _
    · exact ((put1_perm x l).cons y).trans (.swap x y l)
theorem isort_perm : ∀ l : List Int, (isort l).Perm l
  | [] => .refl _
  | x :: l => (put1_perm x (isort l)).trans ((isort_perm l).cons x)
theorem put1_sorted {x : Int} : ∀ {l : List Int}, l.Pairwise (· ≤ ·) → (put1 x l).Pairwise (· ≤ ·)
  | [], _ => by simp [put1]
  | y :: l, h => by
    rw [List.pairwise_cons] at h
    simp only [put1]
    split
    · rename_i hxy
      refine List.pairwise_cons.2 ⟨fun z hz => ?_, List.pairwise_cons.2 h⟩
      rw [List.mem_cons] at hz
      rcases hz with rfl | hz
      · exact hxy
      · exact Int.le_trans hxy (h.1 z hz)
    · rename_i hxy
      refine List.pairwise_cons.2 ⟨fun z hz => ?_, put1_sorted h.2⟩
      rw [(put1_perm x l).mem_iff, List.mem_cons] at hz
      rcases hz with rfl | hz
      · omega
      · exact h.1 z hz
theorem isort_sorted : ∀ l : List Int, (isort l).Pairwise (· ≤ ·)
  | [] => by simp [isort]
  | x :: l => put1_sorted (isort_sorted l)
theorem isort_len (l : List Int) : (isort l).length = l.length := (isort_perm l).length_eq
theorem sorted_eq : ∀ {a b : List Int}, a.Perm b → a.Pairwise (· ≤ ·) → b.Pairwise (· ≤ ·) → a = b
  | [], b, hp, _, _ => (hp.nil_eq)
  | x :: a, [], hp, _, _ => by simpa using hp.length_eq
  | x :: a, y :: b, hp, ha, hb => by
    rw [List.pairwise_cons] at ha hb
    have hxy : x = y := by
      have h1 := (hp.mem_iff (a := x)).1 (by simp)
      have h2 := (hp.mem_iff (a := y)).2 (by simp)
      rw [List.mem_cons] at h1 h2
      rcases h1 with h1 | h1
      · exact h1
      · rcases h2 with h2 | h2
        · exact h2.symm
        · have := ha.1 y h2; have := hb.1 x h1; omega
    subst hxy
    rw [sorted_eq (hp.cons_inv) ha.2 hb.2]
theorem isort_eq (l : List Int) : (l.mergeSort fun x y => decide (x ≤ y)) = isort l := by
  refine sorted_eq ((List.mergeSort_perm l _).trans (isort_perm l).symm) ?_ (isort_sorted l)
  have := List.pairwise_mergeSort (le := fun x y : Int => decide (x ≤ y)) (fun a b c h1 h2 => by simp at *; omega) (fun a b => by simp; omega) l
  exact this.imp (fun h => by simpa using h)
section
variable {F : Addr → Value → Prop} {ρ : Rho} {T : Nat → Nat → Prop}
theorem intsL_ok : ∀ {ds : List DV} {zs : List Int} {vs : List Value}, intsL ds = some zs → DRepL F ρ T ds vs → vs = zs.map (Value.int .i64)
  | [], zs, vs, h, hr => by
    simp only [intsL, Option.some.injEq] at h
    subst h
    simp only [DRepL] at hr
    subst hr; rfl
  | d :: ds, zs, vs, h, hr => by
    unfold intsL at h
    split at h
    · rename_i he; cases he
    · rename_i n ds' he
      cases he
      split at h
      · rename_i l hl
        cases h
        simp only [DRepL, DRep, PRep] at hr
        obtain ⟨y, ys, rfl, _, ⟨rfl, _⟩, hr⟩ := hr
        rw [intsL_ok hl hr]; rfl
      · cases h
    · cases h
theorem ints_rep : ∀ (zs : List Int), DRepL F ρ T (zs.map fun n => .p (.s (.int .i64 n))) (zs.map (Value.int .i64))
  | [] => by simp [DRepL]
  | z :: zs => by
    simp only [List.map_cons, DRepL]
    exact ⟨_, _, rfl, rfl, by simp [DRep, PRep, scal], ints_rep zs⟩
end
theorem intsL_len : ∀ {ds : List DV} {zs : List Int}, intsL ds = some zs → zs.length = ds.length
  | [], zs, h => by simp only [intsL, Option.some.injEq] at h; subst h; rfl
  | d :: ds, zs, h => by
    unfold intsL at h
    split at h
    · rename_i he; cases he
    · rename_i n ds' he
      cases he
      split at h
      · rename_i l hl
        cases h
        simp [intsL_len hl]
      · cases h
    · cases h
section
variable {ρ : Rho} {w : World} {h : PT AObj}
theorem Stp.ahead (ρ : Rho) (w : World) (h : PT AObj) (n : Nat) : Stp ρ w h ρ (Go.Sort.ahead w n) h :=
  ⟨rfl, rfl, rfl, Nat.le_refl _, fun _ _ _ => rfl, fun _ _ _ => rfl, fun _ _ _ h => h, fun _ h => h, fun _ _ => ⟨rfl, rfl, rfl⟩, fun _ _ _ h => ⟨h, rfl⟩, rfl, Nat.le_add_right _ _⟩
theorem Stp.grow (ρ : Rho) (w : World) (h : PT AObj) (os : Array Obj) : Stp ρ w h ρ (Go.Sort.grow w os) h :=
  ⟨rfl, rfl, rfl, by simp, fun b hb _ => Go.Sort.heap_grow_old w os hb, fun a hb _ => cell_of_heap (Go.Sort.heap_grow_old w os hb), fun _ _ _ h => h, fun _ h => h, fun _ _ => ⟨rfl, rfl, rfl⟩, fun _ _ _ h => ⟨h, rfl⟩, rfl, Nat.le_refl _⟩
theorem putRow_setRow {w : World} {b o : Nat} {zs : List Int} {arr : Array Value} {T : TypeId} (h : w.heap[b]? = some (.cells arr T (0, 0))) (hl : o + zs.length ≤ arr.size) :
    Go.Sort.putRow (Value.int .i64) w b o zs.toArray = w.setRow b (setAt arr.toList o (zs.map (Value.int .i64))).toArray := by
  have e : ∀ c e fr, w.heap[b]? = some (.cells c e fr) → Go.Sort.putCells (Value.int .i64) o zs.toArray c = (fun _ => (setAt arr.toList o (zs.map (Value.int .i64))).toArray) c := by
    intro c e fr hc
    rw [h] at hc
    cases hc
    apply Array.ext_getElem?
    intro j
    simp only [Go.Sort.putCells, Array.getElem?_mapIdx, List.getElem?_toArray, List.size_toArray]
    rw [setAt_get _ _ _ (by simp; omega)]
    simp only [List.length_map, Array.getElem?_toList]
    by_cases h1 : j < o
    · rw [if_pos h1]
      simp [show ¬ (o ≤ j ∧ j < o + zs.length) by omega]
    · rw [if_neg h1]
      by_cases h2 : j < o + zs.length
      · rw [if_pos h2]
        have hj : j < arr.size := by omega
        have hz : j - o < zs.length := by omega
        simp [show o ≤ j ∧ j < o + zs.length by omega, Array.getElem?_eq_getElem hj, List.getElem?_eq_getElem hz]
      · rw [if_neg h2]
        simp [show ¬ (o ≤ j ∧ j < o + zs.length) by omega]
  rw [Go.Sort.putRow, Go.Sort.mapBlock_congr _ _ _ _ e]
  unfold Go.Sort.mapBlock World.setRow
  congr 2
end
theorem sort_loc : ∀ xs h h' id e, sortX xs h id = some e → (∀ i ∈ e.rd, h'.get i = h.get i) → sortX xs h' id = some e := by
  intro xs h h' id e hd hh
  unfold sortX at hd ⊢
  split at hd
  · rename_i i off len av
    split at hd
    · rename_i cs hg
      split at hd
      · rename_i hl
        split at hd
        · rename_i zs hz
          cases hd
          simp only [hh i (by simp), hg, if_pos hl, hz]
        · cases hd
      · cases hd
    · cases hd
  · exact hd
  · cases hd
theorem sort_ok : ∀ xs h id e, sortX xs h id = some e → ∀ ρ w vs, Inv ρ w h → ¬ ρ.al id → DRT w h ρ xs vs → COK Tryz.prog 58 vs ρ w h id e := by
  intro xs h id e hd ρ w vs inv hid hr
  unfold sortX at hd
  split at hd
  · rename_i i off len av
    split at hd
    · rename_i cs hg
      split at hd
      · rename_i hl
        split at hd
        · rename_i zs hz
          cases hd
          simp only [DRepT, DRep] at hr
          obtain ⟨y, ys, rfl, ⟨hal, c, rfl, hc1, hc2, hc3⟩, rfl⟩ := hr
          obtain ⟨_, arr, T, vs, h1, h2, h3, h4, h5⟩ := obj_cells inv hg
          have h6 := (h3.drop off).take len
          have h7 := intsL_ok hz h6
          have hzl : zs.length = len := by
            rw [intsL_len hz]
            simp
            omega
          have hvl := h3.len
          have hcell : ∀ j, j < len → vs[off + j]? = some (.int .i64 (zs.toArray[j]!)) := by
            intro j hj
            have e1 : ((vs.drop off).take len)[j]? = vs[off + j]? := by
              rw [List.getElem?_take_of_lt hj, List.getElem?_drop]
            rw [← e1, h7, List.getElem?_map]
            simp [hzl, hj]
          have hH : Go.Sort.Holds (Value.int .i64) w (ρ.blk i) (ρ.st i + off) zs.toArray := by
            intro j hj
            have hj' : j < len := by simpa [hzl] using hj
            refine ⟨?_, ?_⟩
            · rw [Nat.add_assoc]
              exact h5 _ _ (hcell j hj')
            · simp [World.frozen?, h1]
          have hbl : ρ.blk i < w.heap.size := (inv.obj i _ hg).2.1
          have hlen : zs.length < 4611686018427387904 := Nat.lt_of_le_of_lt (hzl ▸ hl.2 : zs.length ≤ 4096) (by decide)
          have hcall := Any.slices_Sort_int Tryz.lays189 (ρ.blk i) (ρ.st i + off) c zs w hH hbl hlen
          rw [hzl] at hcall
          refine Calls.mono hcall ?_
          rintro en w' ⟨rfl, n, os, rfl⟩
          rw [isort_eq]
          have hvl2 : vs.length ≤ arr.size - ρ.st i := by
            rcases Nat.eq_zero_or_pos vs.length with h0 | h0
            · omega
            · have hlast := List.getElem?_eq_getElem (l := vs) (i := vs.length - 1) (by omega)
              have := h4 _ _ hlast
              have := (Array.getElem?_eq_some_iff.1 this).1
              omega
          have hst : ρ.st i ≤ arr.size := by omega
          have hsz : ρ.st i + off + (isort zs).length ≤ arr.size := by
            rw [isort_len, hzl]
            omega
          have i1 : Inv ρ (Go.Sort.ahead w n) h := inv.same (Stp.ahead ρ w h n) (fun _ _ => rfl)
          have h1' : (Go.Sort.ahead w n).heap[ρ.blk i]? = some (.cells arr T (0, 0)) := h1
          rw [putRow_setRow h1' hsz]
          have hsl : (setAt arr.toList (ρ.st i + off) ((isort zs).map (Value.int .i64))).length = arr.toList.length := setAt_len _ _ _ (by simpa using hsz)
          obtain ⟨s2, i2⟩ := write_cells i1 hg h1' (arr' := (setAt arr.toList (ρ.st i + off) ((isort zs).map (Value.int .i64))).toArray) (by simpa using hsl) (fun o ho => by
              rw [List.getElem?_toArray, setAt_get _ _ _ (by simp; omega), if_pos (by omega)]
              simp) (cs' := setAt cs off ((isort zs).map fun n => .p (.s (.int .i64 n)))) (vs' := setAt vs off ((isort zs).map (Value.int .i64))) (DRepL.setAt ((Stp.ahead ρ w h n).drl h3) (ints_rep _) off) (fun j v hj => by
              rw [List.getElem?_toArray]
              exact setAt_arr (arr := arr.toList) (fun j v hj => by simpa using h4 j v hj) (by omega) (by simp; omega) j v hj)
          have s3 := ((Stp.ahead ρ w h n).trans s2).trans (Stp.grow ρ _ _ os)
          refine ⟨_, ρ, rfl, s3, i2.same (Stp.grow ρ _ _ os) (fun b hb => Go.Sort.heap_grow_old _ os hb), ?_, fun i hi => .inl hi⟩
          simp [DRep, PRep, PRepT]
        · cases hd
      · cases hd
    · cases hd
  · cases hd
    simp only [DRepT, DRep] at hr
    obtain ⟨y, ys, rfl, rfl, rfl⟩ := hr
    refine Calls.mono (Any.slices_Sort_int_none Tryz.lays189 none 0 w) ?_
    rintro en w' ⟨rfl, rfl⟩
    exact ⟨_, ρ, rfl, Stp.refl _ _ _, inv, by simp [DRep, PRep, PRepT], fun i hi => .inl hi⟩
  · cases hd
end Go.Proofs.YtddmnddocbmjnaaGreat.Dv
