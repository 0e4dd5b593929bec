/- Part 2 of the proof: CrowdWeeks: whatever plain data comes in, the call returns true and leaves its arguments as they were. No condition. -/
import Derived.Test.YtddmnddocbmjnaaGreatPb1
import Derived.Deep.Draws
import Derived.ChangeKeysEq
set_option linter.all false
set_option linter.unusedVariables false
set_option linter.unusedSectionVars false
set_option linter.unusedSimpArgs false
namespace Go.Proofs.YtddmnddocbmjnaaGreat.Dv
open Go.RowKit
theorem add_lit0 (b o n : Nat) : Addr.add ⟨b, o, none⟩ n = ⟨b, o + n, none⟩ := Addr.add_lit b o n
theorem addr_add (a : Addr) (i j : Nat) : (a.add i).add j = a.add (i + j) := by
  unfold Addr.add
  by_cases hi : i = 0
  · subst hi; simp
  · by_cases hj : j = 0
    · subst hj; simp
    · have : i + j ≠ 0 := by omega
      simp [hi, hj, this, Nat.add_assoc]
theorem scal_one (v : Value) : v.oneCell' = scal v := by cases v <;> rfl
theorem heap_new (w : World) (o : Obj) : (w.alloc o).heap[w.heap.size]? = some o := by
  show (w.heap.push o)[w.heap.size]? = _
  simp
theorem heap_old (w : World) (o : Obj) {k : Nat} (h : k < w.heap.size) : (w.alloc o).heap[k]? = w.heap[k]? := Below.heap_alloc w o k h
theorem cell_of_heap {w w' : World} {a : Addr} (h : w'.heap[a.block]? = w.heap[a.block]?) : w'.cell? a = w.cell? a := by simp [World.cell?, h]
def Rho.add (ρ : Rho) (id b s c e : Nat) : Rho where
  blk := fun i => if i = id then b else ρ.blk i
  st := fun i => if i = id then s else ρ.st i
  cap := fun i => if i = id then c else ρ.cap i
  ext := fun i => if i = id then e else ρ.ext i
  al := fun i => ρ.al i ∨ i = id
  frn := ρ.frn
section
variable {ρ ρ' : Rho} {w w' : World} {h h' : PT AObj}
@[simp] theorem Rho.add_blk (id b s c e : Nat) : (ρ.add id b s c e).blk id = b := by simp [Rho.add]
@[simp] theorem Rho.add_st (id b s c e : Nat) : (ρ.add id b s c e).st id = s := by simp [Rho.add]
@[simp] theorem Rho.add_cap (id b s c e : Nat) : (ρ.add id b s c e).cap id = c := by simp [Rho.add]
@[simp] theorem Rho.add_ext (id b s c e : Nat) : (ρ.add id b s c e).ext id = e := by simp [Rho.add]
theorem Rho.add_al (id b s c e : Nat) : (ρ.add id b s c e).al id := .inr rfl
theorem Rho.add_old {id i : Nat} (b s c e : Nat) (hne : i ≠ id) : (ρ.add id b s c e).blk i = ρ.blk i ∧ (ρ.add id b s c e).st i = ρ.st i ∧ (ρ.add id b s c e).cap i = ρ.cap i ∧ (ρ.add id b s c e).ext i = ρ.ext i := by simp [Rho.add, hne]
theorem Stp.drew (ρ : Rho) (w : World) (h : PT AObj) (n : Nat) : Stp ρ w h ρ (w.drewN n) h :=
  ⟨rfl, rfl, rfl, Nat.le_refl _, fun _ _ _ => rfl, fun _ _ _ => rfl, fun _ _ _ h => h, fun _ h => h, fun _ _ => ⟨rfl, rfl, rfl⟩, fun _ _ _ h => ⟨h, rfl⟩, rfl, Nat.le_add_right _ _⟩
theorem Stp.alloc0 (ρ : Rho) (w : World) (h : PT AObj) (o : Obj) : Stp ρ w h ρ (w.alloc o) h :=
  ⟨rfl, rfl, rfl, by simp, fun b hb _ => heap_old w o hb, fun a hb _ => cell_of_heap (heap_old w o hb), fun _ _ _ h => h, fun _ h => h, fun _ _ => ⟨rfl, rfl, rfl⟩, fun _ _ _ h => ⟨h, rfl⟩, rfl, Nat.le_refl _⟩
theorem Stp.row (ρ : Rho) (w : World) (h : PT AObj) {g : Nat} {arr arr' : Array Value} {T : TypeId} (hg : w.heap[g]? = some (.cells arr T (0, 0))) (hw : ∃ o, Wr h ρ g o) (hd : ∀ o, ¬ Wr h ρ g o → arr'[o]? = arr[o]?) : Stp ρ w h ρ (w.setRow g arr') h where
  os := rfl
  tape := rfl
  output := rfl
  size := by simp
  blocks := fun b hb hn => by
    refine setRow_other w g b arr' (fun e => ?_)
    subst e
    obtain ⟨o, ho⟩ := hw
    exact hn o ho
  cells := fun a hb hn => by
    by_cases e : a.block = g
    · have h1 : (w.setRow g arr').heap[a.block]? = some (.cells arr' T (0, 0)) := by rw [e]; exact setRow_heap w g arr arr' T _ hg
      have h2 : w.heap[a.block]? = some (.cells arr T (0, 0)) := by rw [e]; exact hg
      simp only [World.cell?, h1, h2]
      rw [hd a.off (by rw [← e]; exact hn)]
    · exact cell_of_heap (setRow_other w g _ arr' e)
  wr := fun _ _ _ h => h
  al := fun _ h => h
  ag := fun _ _ => ⟨rfl, rfl, rfl⟩
  tp := fun _ _ _ h => ⟨h, rfl⟩
  frn := rfl
  dn := Nat.le_refl _
theorem Stp.turn (ρ ρ' : Rho) (w : World) (h h' : PT AObj) (hw : ∀ b o, b < w.heap.size → Wr h' ρ' b o → Wr h ρ b o) (hal : ∀ i, ρ.al i → ρ'.al i) (hag : ∀ i, ρ.al i → ρ'.blk i = ρ.blk i ∧ ρ'.st i = ρ.st i ∧ ρ'.cap i = ρ.cap i)
    (htp : ∀ i k, ρ.al i → Tp h' i k → Tp h i k ∧ ρ'.ext i = ρ.ext i) (hfr : ρ'.frn = ρ.frn := by rfl) : Stp ρ w h ρ' w h' :=
  ⟨rfl, rfl, rfl, Nat.le_refl _, fun _ _ _ => rfl, fun _ _ _ => rfl, hw, hal, hag, htp, hfr, Nat.le_refl _⟩
theorem Inv.step (inv : Inv ρ w h) (s : Stp ρ w h ρ' w' h') (id : Nat)
    (hold : ∀ j ob, j ≠ id → h'.get j = some ob → h.get j = some ob ∧ w'.heap[ρ.blk j]? = w.heap[ρ.blk j]?)
    (hnew : ∀ ob, h'.get id = some ob → ρ'.al id ∧ ρ'.blk id < w'.heap.size ∧ OR w' h' ρ' id ob ∧ (∀ j x, j ≠ id → h'.get j = some x → ρ.blk j ≠ ρ'.blk id) ∧ ∀ o, ¬ ρ.frn (ρ'.blk id) o) : Inv ρ' w' h' where
  fb := fun b o hf => Nat.lt_of_lt_of_le (inv.fb b o (s.frn ▸ hf)) s.size
  fd := fun j ob o hj hf => by
    rw [s.frn] at hf
    by_cases e : j = id
    · subst e
      obtain ⟨_, _, _, _, hn⟩ := hnew ob hj
      exact hn o hf
    · obtain ⟨h1, _⟩ := hold j ob e hj
      rw [(s.ag j (inv.obj j ob h1).1).1] at hf
      exact inv.fd j ob o h1 hf
  obj := fun j ob hj => by
    by_cases e : j = id
    · subst e
      obtain ⟨a, b, c, _⟩ := hnew ob hj
      exact ⟨a, b, c⟩
    · obtain ⟨h1, h2⟩ := hold j ob e hj
      obtain ⟨a, b, c⟩ := inv.obj j ob h1
      obtain ⟨e1, _, _⟩ := s.ag j a
      exact ⟨s.al j a, by rw [e1]; exact Nat.lt_of_lt_of_le b s.size, s.or a h2 c⟩
  inj := fun i j x y hi hj he => by
    by_cases ei : i = id
    · by_cases ej : j = id
      · rw [ei, ej]
      · exfalso
        subst ei
        obtain ⟨_, _, _, hne, _⟩ := hnew x hi
        obtain ⟨h1, _⟩ := hold j y ej hj
        obtain ⟨e1, _, _⟩ := s.ag j (inv.obj j y h1).1
        exact hne j y ej hj (by rw [he, e1])
    · by_cases ej : j = id
      · exfalso
        subst ej
        obtain ⟨_, _, _, hne, _⟩ := hnew y hj
        obtain ⟨h1, _⟩ := hold i x ei hi
        obtain ⟨e1, _, _⟩ := s.ag i (inv.obj i x h1).1
        exact hne i x ei hi (by rw [← he, e1])
      · obtain ⟨h1, _⟩ := hold i x ei hi
        obtain ⟨h2, _⟩ := hold j y ej hj
        obtain ⟨e1, _, _⟩ := s.ag i (inv.obj i x h1).1
        obtain ⟨e2, _, _⟩ := s.ag j (inv.obj j y h2).1
        exact inv.inj i j x y h1 h2 (by rw [← e1, ← e2, he])
theorem Inv.same (inv : Inv ρ w h) (s : Stp ρ w h ρ w' h) (hb : ∀ b, b < w.heap.size → w'.heap[b]? = w.heap[b]?) : Inv ρ w' h where
  obj := fun j ob hj => by
    obtain ⟨a, b, c⟩ := inv.obj j ob hj
    exact ⟨a, Nat.lt_of_lt_of_le b s.size, s.or a (hb _ b) c⟩
  inj := inv.inj
  fb := fun b o hf => Nat.lt_of_lt_of_le (inv.fb b o hf) s.size
  fd := inv.fd
theorem Inv.drew (inv : Inv ρ w h) (n : Nat) : Inv ρ (w.drewN n) h := inv.same (Stp.drew ρ w h n) (fun _ _ => rfl)
theorem drop_ok (inv : Inv ρ w h) (id : Nat) : Stp ρ w h ρ w (h.set id none) ∧ Inv ρ w (h.set id none) := by
  have s : Stp ρ w h ρ w (h.set id none) := by
    refine Stp.turn _ _ _ _ _ ?_ (fun _ h => h) (fun _ _ => ⟨rfl, rfl, rfl⟩) ?_
    · rintro b o _ ⟨j, ob, hj, hb, hc⟩
      by_cases e : id = j
      · subst e; simp at hj
      · rw [PT.get_set_ne _ _ e] at hj; exact ⟨j, ob, hj, hb, hc⟩
    · intro i k _ ht
      refine ⟨?_, rfl⟩
      unfold Tp at *
      by_cases e : id = i
      · subst e; simp at ht
      · rwa [PT.get_set_ne _ _ e] at ht
  refine ⟨s, inv.step s id ?_ ?_⟩
  · intro j ob hne hj
    rw [PT.get_set_ne _ _ (Ne.symm hne)] at hj
    exact ⟨hj, rfl⟩
  · intro ob ho; simp at ho
theorem new_ok (inv : Inv ρ w h) {id : Nat} (hid : ¬ ρ.al id) (o : Obj) (s c e : Nat) (ob : AObj) (hor : Stp ρ w h (ρ.add id w.heap.size s c e) (w.alloc o) (h.set id (some ob)) → OR (w.alloc o) (h.set id (some ob)) (ρ.add id w.heap.size s c e) id ob) :
    Stp ρ w h (ρ.add id w.heap.size s c e) (w.alloc o) (h.set id (some ob)) ∧ Inv (ρ.add id w.heap.size s c e) (w.alloc o) (h.set id (some ob)) := by
  have ne : ∀ i, ρ.al i → i ≠ id := fun i hi he => hid (he ▸ hi)
  have st : Stp ρ w h (ρ.add id w.heap.size s c e) (w.alloc o) (h.set id (some ob)) := by
    refine ⟨rfl, rfl, rfl, by simp, fun b hb _ => heap_old w o hb, fun a hb _ => cell_of_heap (heap_old w o hb), ?_, fun _ h => .inl h, fun i hi => ?_, ?_, rfl, Nat.le_refl _⟩
    · rintro b q hb ⟨j, x, hj, hbk, hc⟩
      by_cases ej : id = j
      · subst ej
        simp only [Rho.add_blk] at hbk
        omega
      · rw [PT.get_set_ne _ _ ej] at hj
        obtain ⟨e1, e2, e3, e4⟩ := Rho.add_old (ρ := ρ) w.heap.size s c e (Ne.symm ej)
        rw [e1] at hbk
        refine ⟨j, x, hj, hbk, ?_⟩
        cases x <;> simp only [e2, e4] at hc ⊢ <;> exact hc
    · obtain ⟨e1, e2, e3, _⟩ := Rho.add_old (ρ := ρ) w.heap.size s c e (ne i hi)
      exact ⟨e1, e2, e3⟩
    · intro i k hi ht
      unfold Tp at *
      rw [PT.get_set_ne _ _ (Ne.symm (ne i hi))] at ht
      exact ⟨ht, (Rho.add_old (ρ := ρ) w.heap.size s c e (ne i hi)).2.2.2⟩
  refine ⟨st, inv.step st id ?_ ?_⟩
  · intro j x hne hj
    rw [PT.get_set_ne _ _ (Ne.symm hne)] at hj
    exact ⟨hj, heap_old w o (inv.obj j x hj).2.1⟩
  · intro x hx
    rw [PT.get_set_same] at hx
    injection hx with hx
    subst hx
    refine ⟨Rho.add_al .., by simp, hor st, fun j y hne hj => ?_, fun q hq => ?_⟩
    · rw [PT.get_set_ne _ _ (Ne.symm hne)] at hj
      have := (inv.obj j y hj).2.1
      simp
      omega
    · have := inv.fb _ _ hq
      simp at this
theorem new_cells (inv : Inv ρ w h) {id : Nat} (hid : ¬ ρ.al id) {cs : List DV} {vs : List Value} (hc : DRL w h ρ cs vs) (T : TypeId) (arr : Array Value) (ha : ∀ (j : Nat) (v : Value), vs[j]? = some v → arr[j]? = some v) :
    Stp ρ w h (ρ.add id w.heap.size 0 arr.size 0) (w.alloc (.cells arr T)) (h.set id (some (.cells cs false))) ∧ Inv (ρ.add id w.heap.size 0 arr.size 0) (w.alloc (.cells arr T)) (h.set id (some (.cells cs false))) :=
  new_ok inv hid _ 0 arr.size 0 _ (fun s => ⟨arr, T, vs, by rw [Rho.add_blk]; exact heap_new w _, by simp, s.drl hc, fun j v hj => by simpa using ha j v hj⟩)
theorem new_tip (inv : Inv ρ w h) {id : Nat} (hid : ¬ ρ.al id) (T : TypeId) (arr : Array Value) (e k : Nat) :
    Stp ρ w h (ρ.add id w.heap.size 0 arr.size e) (w.alloc (.cells arr T)) (h.set id (some (.tip k))) ∧ Inv (ρ.add id w.heap.size 0 arr.size e) (w.alloc (.cells arr T)) (h.set id (some (.tip k))) :=
  new_ok inv hid _ 0 arr.size e _ (fun s => ⟨arr, T, by rw [Rho.add_blk]; exact heap_new w _, by simp⟩)
theorem new_map (inv : Inv ρ w h) {id : Nat} (hid : ¬ ρ.al id) :
    Stp ρ w h (ρ.add id w.heap.size 0 0 0) (w.alloc (.map #[] 0)) (h.set id (some (.map []))) ∧ Inv (ρ.add id w.heap.size 0 0 0) (w.alloc (.map #[] 0)) (h.set id (some (.map []))) :=
  new_ok inv hid _ 0 0 0 _ (fun s => ⟨#[], 0, [], by rw [Rho.add_blk]; exact heap_new w _, ⟨.nil, by simp, by simp⟩, .nil⟩)
theorem write_cells (inv : Inv ρ w h) {id : Nat} {cs : List DV} (ho : h.get id = some (.cells cs false)) {arr arr' : Array Value} {T : TypeId} (hg : w.heap[ρ.blk id]? = some (.cells arr T (0, 0))) (hs : arr'.size = arr.size)
    (hd : ∀ o, o < ρ.st id → arr'[o]? = arr[o]?) {cs' : List DV} {vs' : List Value} (hc : DRL w h ρ cs' vs') (ha : ∀ (j : Nat) (v : Value), vs'[j]? = some v → arr'[ρ.st id + j]? = some v) :
    Stp ρ w h ρ (w.setRow (ρ.blk id) arr') (h.set id (some (.cells cs' false))) ∧ Inv ρ (w.setRow (ρ.blk id) arr') (h.set id (some (.cells cs' false))) := by
  have s1 := Stp.row ρ w h (arr' := arr') hg ⟨ρ.st id, id, _, ho, rfl, rfl, Nat.le_refl _⟩ (fun o hn => hd o (Nat.lt_of_not_le fun hle => hn ⟨id, _, ho, rfl, rfl, hle⟩))
  have s2 : Stp ρ (w.setRow (ρ.blk id) arr') h ρ (w.setRow (ρ.blk id) arr') (h.set id (some (.cells cs' false))) := by
    refine Stp.turn _ _ _ _ _ ?_ (fun _ h => h) (fun _ _ => ⟨rfl, rfl, rfl⟩) ?_
    · rintro b o _ ⟨j, x, hj, hb, hcc⟩
      by_cases e : id = j
      · subst e
        rw [PT.get_set_same] at hj
        injection hj with hj
        subst hj
        exact ⟨id, _, ho, hb, hcc⟩
      · rw [PT.get_set_ne _ _ e] at hj
        exact ⟨j, x, hj, hb, hcc⟩
    · intro i k _ ht
      unfold Tp at *
      by_cases e : id = i
      · subst e; simp at ht
      · rw [PT.get_set_ne _ _ e] at ht; exact ⟨ht, rfl⟩
  have s := s1.trans s2
  refine ⟨s, inv.step s id ?_ ?_⟩
  · intro j x hne hj
    rw [PT.get_set_ne _ _ (Ne.symm hne)] at hj
    exact ⟨hj, setRow_other w _ _ _ (fun e => hne (inv.inj j id _ _ hj ho e))⟩
  · intro x hx
    rw [PT.get_set_same] at hx
    injection hx with hx
    subst hx
    obtain ⟨a, b, arr0, T0, _, h1, h2, _, _⟩ := inv.obj id _ ho
    rw [hg] at h1
    injection h1 with h1
    injection h1 with h1 _ _
    subst h1
    refine ⟨a, by simpa using b, ⟨arr', T, vs', setRow_heap w _ arr arr' T _ hg, by rw [hs, h2], s.drl hc, ha⟩, fun j y hne hj => ?_, fun o => inv.fd id _ o ho⟩
    rw [PT.get_set_ne _ _ (Ne.symm hne)] at hj
    exact fun e => hne (inv.inj j id _ _ hj ho e)
theorem adopt_ok (inv : Inv ρ w h) {i id : Nat} (hid : ¬ ρ.al id) (hi : i ≠ id) {ob ob' : AObj} (ho : h.get i = some ob) {arr arr' : Array Value} {T : TypeId} (hg : w.heap[ρ.blk i]? = some (.cells arr T (0, 0))) (hs : arr'.size = arr.size) (s0 c e : Nat)
    (hw1 : ∃ o, Wr h ρ (ρ.blk i) o) (hw2 : ∀ o, ¬ Wr h ρ (ρ.blk i) o → arr'[o]? = arr[o]?)
    (hw3 : ∀ o, (match ob' with | .cells _ fz => fz = false ∧ s0 ≤ o | .tip _ => s0 + e ≤ o | .map _ => True) → Wr h ρ (ρ.blk i) o)
    (hor : Stp ρ w h (ρ.add id (ρ.blk i) s0 c e) (w.setRow (ρ.blk i) arr') ((h.set i none).set id (some ob')) → OR (w.setRow (ρ.blk i) arr') ((h.set i none).set id (some ob')) (ρ.add id (ρ.blk i) s0 c e) id ob') :
    Stp ρ w h (ρ.add id (ρ.blk i) s0 c e) (w.setRow (ρ.blk i) arr') ((h.set i none).set id (some ob')) ∧ Inv (ρ.add id (ρ.blk i) s0 c e) (w.setRow (ρ.blk i) arr') ((h.set i none).set id (some ob')) := by
  have ne : ∀ j, ρ.al j → j ≠ id := fun j hj he => hid (he ▸ hj)
  have get : ∀ j, j ≠ id → ((h.set i none).set id (some ob')).get j = if i = j then none else h.get j := by
    intro j hj
    rw [PT.get_set_ne _ _ (Ne.symm hj), PT.get_set]
  have s1 := Stp.row ρ w h (arr' := arr') hg hw1 hw2
  have s2 : Stp ρ (w.setRow (ρ.blk i) arr') h (ρ.add id (ρ.blk i) s0 c e) (w.setRow (ρ.blk i) arr') ((h.set i none).set id (some ob')) := by
    refine Stp.turn _ _ _ _ _ ?_ (fun _ h => .inl h) (fun j hj => ?_) ?_
    · rintro b o _ ⟨j, x, hj, hb, hcc⟩
      by_cases ej : j = id
      · subst ej
        rw [PT.get_set_same] at hj
        injection hj with hj
        subst hj
        simp only [Rho.add_blk] at hb
        subst hb
        refine hw3 o ?_
        cases ob' <;> simp at hcc ⊢ <;> exact hcc
      · rw [get j ej] at hj
        split at hj
        · cases hj
        · obtain ⟨e1, e2, e3, e4⟩ := Rho.add_old (ρ := ρ) (ρ.blk i) s0 c e ej
          rw [e1] at hb
          refine ⟨j, x, hj, hb, ?_⟩
          cases x <;> simp only [e2, e4] at hcc ⊢ <;> exact hcc
    · obtain ⟨e1, e2, e3, _⟩ := Rho.add_old (ρ := ρ) (ρ.blk i) s0 c e (ne j hj)
      exact ⟨e1, e2, e3⟩
    · intro j k hj ht
      unfold Tp at *
      rw [get j (ne j hj)] at ht
      split at ht
      · cases ht
      · exact ⟨ht, (Rho.add_old (ρ := ρ) (ρ.blk i) s0 c e (ne j hj)).2.2.2⟩
  have s := s1.trans s2
  refine ⟨s, inv.step s id ?_ ?_⟩
  · intro j x hne hj
    rw [get j hne] at hj
    split at hj
    · cases hj
    · rename_i hij
      exact ⟨hj, setRow_other w _ _ _ (fun e => hij (inv.inj j i _ _ hj ho e).symm)⟩
  · intro x hx
    rw [PT.get_set_same] at hx
    injection hx with hx
    subst hx
    refine ⟨Rho.add_al .., by simpa using (inv.obj i _ ho).2.1, hor s, fun j y hne hj => ?_, fun o => by simpa using inv.fd i _ o ho⟩
    rw [get j hne] at hj
    split at hj
    · cases hj
    · rename_i hij
      simp only [Rho.add_blk]
      exact fun e => hij (inv.inj j i _ _ hj ho e).symm
theorem freeze1_ok (inv : Inv ρ w h) {id : Nat} {cs : List DV} {fz : Bool} (ho : h.get id = some (.cells cs fz)) : Stp ρ w h ρ w (h.set id (some (.cells cs true))) ∧ Inv ρ w (h.set id (some (.cells cs true))) := by
  have s : Stp ρ w h ρ w (h.set id (some (.cells cs true))) := by
    refine Stp.turn _ _ _ _ _ ?_ (fun _ h => h) (fun _ _ => ⟨rfl, rfl, rfl⟩) ?_
    · rintro b o _ ⟨j, x, hj, hb, hcc⟩
      by_cases e : id = j
      · subst e
        rw [PT.get_set_same] at hj
        injection hj with hj
        subst hj
        simp at hcc
      · rw [PT.get_set_ne _ _ e] at hj
        exact ⟨j, x, hj, hb, hcc⟩
    · intro i k _ ht
      unfold Tp at *
      by_cases e : id = i
      · subst e; simp at ht
      · rw [PT.get_set_ne _ _ e] at ht; exact ⟨ht, rfl⟩
  refine ⟨s, inv.step s id ?_ ?_⟩
  · intro j x hne hj
    rw [PT.get_set_ne _ _ (Ne.symm hne)] at hj
    exact ⟨hj, rfl⟩
  · intro x hx
    rw [PT.get_set_same] at hx
    injection hx with hx
    subst hx
    obtain ⟨a, b, c⟩ := inv.obj id _ ho
    refine ⟨a, b, s.or a rfl (by cases fz <;> exact c), fun j y hne hj => ?_, fun o => inv.fd id _ o ho⟩
    rw [PT.get_set_ne _ _ (Ne.symm hne)] at hj
    exact fun e => hne (inv.inj j id _ _ hj ho e)
end
end Go.Proofs.YtddmnddocbmjnaaGreat.Dv
namespace Go.Proofs.YtddmnddocbmjnaaGreat.Dv
open Go.RowKit
section
variable {P : Program} {F : Addr → Value → Prop} {ρ : Rho} {T : Nat → Nat → Prop}
def udf : DV := .p (.tup [])
theorem udf_rep : DRep F ρ T udf undef := by simp [udf, DRep, PRep, PRepT, undef]
theorem s_rep {v : Value} (h : scal v = true) : DRep F ρ T (.p (.s v)) v := by simp [DRep, PRep, h]
theorem i_rep (k : IntKind) (n : Int) : DRep F ρ T (.p (.s (.int k n))) (.int k n) := s_rep rfl
theorem b_rep (b : Bool) : DRep F ρ T (.p (.s (.bool b))) (.bool b) := s_rep rfl
theorem ofScal_ok {v : Value} {d : DV} (h : ofScal v = some d) : scal v = true ∧ DRep F ρ T d v := by
  unfold ofScal at h
  split at h
  · cases h; exact ⟨rfl, by simp [DRep]⟩
  · cases h
  · split at h
    · rename_i hs
      cases h
      exact ⟨hs, s_rep hs⟩
    · cases h
theorem optL_scal : ∀ {vs : List Value} {l : List DV}, optL ofScal vs = some l → DRepL F ρ T l vs
  | [], l, h => by simp [optL] at h; subst h; simp [DRepL]
  | v :: vs, l, h => by
    simp only [optL] at h
    cases h1 : ofScal v with
    | none => rw [h1] at h; cases h
    | some d =>
      rw [h1] at h
      cases h2 : optL ofScal vs with
      | none => rw [h2] at h; cases h
      | some ds =>
        rw [h2] at h
        cases h
        obtain ⟨hs, hd⟩ := ofScal_ok (F := F) (ρ := ρ) (T := T) h1
        simp only [DRepL]
        exact ⟨v, vs, rfl, hs, hd, optL_scal h2⟩
theorem ofConst_ok {v : Value} {d : DV} (h : ofConst v = some d) : DRep F ρ T d v := by
  unfold ofConst at h
  split at h
  · rename_i cs
    split at h
    · rename_i l hl
      cases h
      have := DRep.mkAgg (optL_scal (F := F) (ρ := ρ) (T := T) hl)
      simpa using this
    · cases h
  · rename_i cs
    split at h
    · rename_i hz
      cases h
      have : cs = #[] := by simpa using hz
      subst this
      exact udf_rep
    · cases h
  · exact (ofScal_ok h).2
theorem ofConst_nt {v : Value} {d : DV} (h : ofConst v = some d) (hn : d.tupB = false) : notTup v = true := by
  cases v <;> first | rfl | skip
  simp only [ofConst] at h
  split at h
  · cases h; simp [DV.tupB] at hn
  · cases h
theorem nt_of {d : DV} {x : Value} (h : DRep F ρ T d x) (hn : d.tupB = false) : notTup x = true := by
  cases d with
  | p d =>
    cases d with
    | s v => simp only [DRep, PRep] at h; obtain ⟨rfl, hs⟩ := h; cases x <;> simp_all [notTup, scal]
    | agg l => simp only [DRep, PRep] at h; obtain ⟨xs, rfl, _⟩ := h; rfl
    | tup l => simp [DV.tupB] at hn
    | lst l => simp only [DRep, PRep] at h; obtain ⟨a, c, sz, rfl, _⟩ := h; rfl
    | rp l => simp only [DRep, PRep] at h; obtain ⟨a, c, rfl, _⟩ := h; rfl
    | clo f a b => simp only [DRep, PRep] at h; obtain ⟨x, y, rfl, _⟩ := h; rfl
  | agg l => simp only [DRep] at h; obtain ⟨xs, rfl, _⟩ := h; rfl
  | tup l => simp [DV.tupB] at hn
  | ow i l => simp only [DRep, PRep] at h; obtain ⟨_, ⟨a, c, sz, rfl, _⟩, _⟩ := h; rfl
  | nil => simp only [DRep] at h; subst h; rfl
  | zc => simp only [DRep] at h; obtain ⟨a, rfl⟩ := h; rfl
  | mp i o => simp only [DRep] at h; obtain ⟨_, rfl⟩ := h; rfl
  | ms i o n a e => simp only [DRep] at h; obtain ⟨_, c, rfl, _⟩ := h; rfl
  | mm i => simp only [DRep] at h; obtain ⟨_, rfl⟩ := h; rfl
  | clo f a b => simp only [DRep] at h; obtain ⟨x, y, rfl, _⟩ := h; rfl
  | any => simp only [DRep] at h; cases x <;> simp_all [notTup, scal]
def TR (F : Addr → Value → Prop) (ρ : Rho) (T : Nat → Nat → Prop) (t : PT DV) (tm : Array Value) : Prop := ∀ i, DRep F ρ T ((t.get i).getD udf) (tm.getD i undef)
theorem ev_ok {t : PT DV} {a : Act} (ht : TR F ρ T t a.tmps) {x : Operand} {d : DV} (h : ev t x = some d) : DRep F ρ T d (a.eval x) := by
  cases x with
  | tmp i => simp only [ev] at h; cases h; exact ht i
  | const v => exact ofConst_ok h
  | func f => simp only [ev] at h; cases h; exact s_rep rfl
  | global g => simp [ev] at h
theorem evs_ok {t : PT DV} {a : Act} (ht : TR F ρ T t a.tmps) : ∀ {xs : List Operand} {ds : List DV}, evs t xs = some ds → DRepT F ρ T ds (xs.map a.eval)
  | [], ds, h => by simp [evs, optL] at h; subst h; simp [DRepT]
  | x :: xs, ds, h => by
    simp only [evs, optL] at h
    cases h1 : ev t x with
    | none => rw [h1] at h; cases h
    | some d =>
      rw [h1] at h
      cases h2 : optL (ev t) xs with
      | none => rw [h2] at h; cases h
      | some ys =>
        rw [h2] at h
        cases h
        simp only [List.map_cons, DRepT]
        exact ⟨_, _, rfl, ev_ok ht h1, evs_ok ht (by simpa [evs] using h2)⟩
theorem asI_ok {d : DV} {x : Value} {k : IntKind} {n : Int} (h : asI d = some (k, n)) (hr : DRep F ρ T d x) : x = .int k n := by
  unfold asI at h
  split at h
  · cases h; simp only [DRep, PRep] at hr; exact hr.1
  · cases h
theorem asB_ok {d : DV} {x : Value} {b : Bool} (h : asB d = some b) (hr : DRep F ρ T d x) : x = .bool b := by
  unfold asB at h
  split at h
  · cases h; simp only [DRep, PRep] at hr; exact hr.1
  · cases h
theorem binI_ok {op : BinOp} {k : IntKind} {a b : Int} {v : Value} (h : binI op k a b = some v) (h1 : op ≠ .shl) (h2 : op ≠ .shr) (t : TypeId) (w : World) : (binOp op t (.int k a) (.int k b)).run P w = .ok v w ∧ scal v = true := by
  cases op <;> simp [binI, isCmp, cmpI] at h h1 h2 <;> first
    | (subst h; refine ⟨?_, rfl⟩; simp [binOp, Op.intArith, Op.intBits, Op.intCmp])
    | (obtain ⟨hb, rfl⟩ := h; refine ⟨?_, rfl⟩; simp [binOp, Op.intDiv, hb])
theorem shI_ok {op : BinOp} {k k' : IntKind} {a b : Int} {v : Value} (h : shI op k a b = some v) (t : TypeId) (w : World) : (binOp op t (.int k a) (.int k' b)).run P w = .ok v w ∧ scal v = true := by
  unfold shI at h
  split at h
  · cases h
  · rename_i hb
    cases op <;> simp at h <;> (subst h; refine ⟨?_, rfl⟩; simp [binOp, Op.shift, hb])
theorem strCmp_ok {op : BinOp} {a b : ByteArray} {v : Bool} (h : strCmp op a b = some v) (t : TypeId) (w : World) : (binOp op t (.string a) (.string b)).run P w = .ok (.bool v) w := by
  cases op <;> simp only [strCmp] at h <;> cases h <;> simp [binOp, Op.stringOp]
theorem guard_scal (op : BinOp) (t : TypeId) (x y : Operand) {a b : Value} (h1 : a ≠ .nilIface) (h2 : ∀ c, a ≠ .agg c) (w : World) : (eqGuard op t x y a b).run P w = .ok () w := by
  unfold eqGuard
  cases op <;> first
    | (simp; done)
    | (cases a <;> first | (simp; done) | exact absurd rfl h1 | exact absurd rfl (h2 _))
theorem eqlv {t : TypeId} {a b : Value} {r : Bool} {w : World} (h : ∀ d, (Op.equalIn (d + 1) t a b).run P w = .ok r w) (h1 : binOp .eql t a b = (do pure (.bool (← Op.equal t a b)))) (h2 : binOp .neq t a b = (do pure (.bool (!(← Op.equal t a b))))) : (binOp .eql t a b).run P w = .ok (.bool r) w ∧ (binOp .neq t a b).run P w = .ok (.bool (!r)) w := by
  have e : (Op.equal t a b).run P w = .ok r w := h 9999
  rw [h1, h2]
  constructor <;> simp [e]
theorem bin1_ok {op : BinOp} {t : TypeId} {a b v : Value} (h : bin1 P op t a b = some v) (x y : Operand) (w : World) : (binOp op t a b).run P w = .ok v w ∧ (eqGuard op t x y a b).run P w = .ok () w ∧ scal v = true := by
  unfold bin1 at h
  split at h
  · rename_i k p k' q
    have g : (eqGuard op t x y (.int k p) (.int k' q)).run P w = .ok () w := guard_scal op t x y (by simp) (by simp) w
    split at h
    · obtain ⟨r, s⟩ := shI_ok (P := P) (k' := k') h t w
      exact ⟨r, g, s⟩
    · rename_i hn
      split at h
      · rename_i hk
        subst hk
        obtain ⟨r, s⟩ := binI_ok (P := P) h (fun e => hn (.inl e)) (fun e => hn (.inr e)) t w
        exact ⟨r, g, s⟩
      · cases h
  · rename_i p q
    have g : (eqGuard op t x y (.string p) (.string q)).run P w = .ok () w := guard_scal op t x y (by simp) (by simp) w
    split at h
    · rename_i ho
      subst ho
      split at h
      · rename_i hsz
        cases h
        refine ⟨?_, g, rfl⟩
        have : ¬ ((9223372036854775807 : Int) < (p.size : Int) + (q.size : Int)) := by omega
        have hm : IntKind.max .i64 = 9223372036854775807 := by decide
        simp [binOp, Op.stringOp, hm, this]
      · cases h
    · cases hc : strCmp op p q with
      | none => rw [hc] at h; cases h
      | some r =>
        rw [hc] at h
        cases h
        exact ⟨strCmp_ok hc t w, g, rfl⟩
  · rename_i p q
    have g : (eqGuard op t x y (.bool p) (.bool q)).run P w = .ok () w := guard_scal op t x y (by simp) (by simp) w
    split at h
    · rename_i hu
      split at h
      · rename_i ho
        subst ho; cases h
        exact ⟨by simp [binOp, Op.equal, Op.maxDepth, run_equalIn_bool' w 9999 t p q hu], g, rfl⟩
      · split at h
        · rename_i ho
          subst ho; cases h
          exact ⟨by simp [binOp, Op.equal, Op.maxDepth, run_equalIn_bool' w 9999 t p q hu], g, rfl⟩
        · cases h
    · cases h
  · rename_i f1 f2 f3
    have g : (eqGuard op t x y (.func f1 f2 f3) .nilFunc).run P w = .ok () w := guard_scal op t x y (by simp) (by simp) w
    split at h
    · rename_i hu
      have q : ∀ d, (Op.equalIn (d + 1) t (.func f1 f2 f3) .nilFunc).run P w = .ok false w := fun d => by simp [Op.equalIn, run_underlying hu]
      split at h
      · rename_i ho
        subst ho; cases h
        exact ⟨(eqlv q rfl rfl).1, g, rfl⟩
      · split at h
        · rename_i ho
          subst ho; cases h
          exact ⟨(eqlv q rfl rfl).2, g, rfl⟩
        · cases h
    · cases h
  · have g : (eqGuard op t x y .nilFunc .nilFunc).run P w = .ok () w := guard_scal op t x y (by simp) (by simp) w
    split at h
    · rename_i hu
      have q : ∀ d, (Op.equalIn (d + 1) t .nilFunc .nilFunc).run P w = .ok true w := fun d => by simp [Op.equalIn, run_underlying hu]
      split at h
      · rename_i ho
        subst ho; cases h
        exact ⟨(eqlv q rfl rfl).1, g, rfl⟩
      · split at h
        · rename_i ho
          subst ho; cases h
          exact ⟨(eqlv q rfl rfl).2, g, rfl⟩
        · cases h
    · cases h
  · have g : (eqGuard op t x y (.pointer none) (.pointer none)).run P w = .ok () w := guard_scal op t x y (by simp) (by simp) w
    split at h
    · rename_i hu
      have q : ∀ d, (Op.equalIn (d + 1) t (.pointer none) (.pointer none)).run P w = .ok true w := fun d => by simp [Op.equalIn, run_underlying hu]
      split at h
      · rename_i ho
        subst ho; cases h
        exact ⟨(eqlv q rfl rfl).1, g, rfl⟩
      · split at h
        · rename_i ho
          subst ho; cases h
          exact ⟨(eqlv q rfl rfl).2, g, rfl⟩
        · cases h
    · cases h
  · cases h
end
end Go.Proofs.YtddmnddocbmjnaaGreat.Dv
namespace Go.Proofs.YtddmnddocbmjnaaGreat.Dv
open Go.RowKit
section
variable {P : Program} {F : Addr → Value → Prop} {ρ : Rho} {T : Nat → Nat → Prop}
theorem aggT_run {t : TypeId} {g : Bool} (h : aggT P t = some g) (w : World) : (isAgg t).run P w = .ok g w := by
  unfold aggT at h
  cases hu : P.underlying t with
  | none => rw [hu] at h; cases h
  | some d =>
    rw [hu] at h
    simp only [isAgg, Sem.run_bind, run_underlying hu, Result.andThen_ok]
    cases d <;> simp at h <;> subst h <;> rfl
theorem szT_run {t : TypeId} {k : Nat} (h : szT P t = some k) (w : World) : (sizeOf t).run P w = .ok k w := by
  unfold szT at h
  cases hi : P.info? t with
  | none => rw [hi] at h; cases h
  | some i =>
    rw [hi] at h
    cases h
    simp [sizeOf, typeInfo, hi]
theorem cellsOf_szT {t : TypeId} {k : Nat} (h : szT P t = some k) : P.cellsOf t = k := by
  unfold szT at h
  simp [Program.cellsOf, h]
def valOf (P : Program) (t : TypeId) (xs : List Value) : Value := if aggT P t = some true then .agg xs.toArray else xs.headD undef
theorem part_run {t : TypeId} {g : Bool} {k : Nat} (hg : aggT P t = some g) (hk : szT P t = some k) (h1 : g = false → k = 1) {xs : List Value} {off : Nat} (hl : off + k ≤ xs.length) (w : World) :
    (part t xs.toArray off).run P w = .ok (valOf P t ((xs.drop off).take k)) w := by
  simp only [part, Sem.run_bind, aggT_run hg, Result.andThen_ok]
  cases g with
  | true =>
    simp only [if_true, Sem.run_bind, szT_run hk, Result.andThen_ok, Sem.run_pure, valOf, hg]
    congr 2
    apply Array.ext'
    simp [Array.toList_extract, List.extract_eq_take_drop]
  | false =>
    have := h1 rfl
    subst this
    have hlt : off < xs.length := by omega
    simp only [Bool.false_eq_true, if_false, valOf, hg, reduceCtorEq]
    have e : xs.toArray[off]? = some xs[off] := by simp [hlt]
    rw [e]
    have e2 : (List.take 1 (List.drop off xs)).headD undef = xs[off] := by rw [List.drop_eq_getElem_cons hlt]; rfl
    rw [e2]
    rfl
theorem eqL_len : ∀ {ks : List Nat} {zas bs : List PDV} {r : Bool}, eqL ks zas bs = some r → zas.length = ks.length ∧ bs.length = ks.length
  | [], [], [], r, h => ⟨rfl, rfl⟩
  | k :: ks, a :: zas, b :: bs, r, h => by
    simp only [eqL] at h
    split at h
    · rename_i x y h1 h2
      obtain ⟨e1, e2⟩ := eqL_len h2
      simp [e1, e2]
    · cases h
  | [], _ :: _, _, r, h => by simp [eqL] at h
  | [], [], _ :: _, r, h => by simp [eqL] at h
  | _ :: _, [], _, r, h => by simp [eqL] at h
  | _ :: _, _ :: _, [], r, h => by simp [eqL] at h
theorem eqL_split : ∀ {ks ks' : List Nat} {zas bs : List PDV} {r : Bool}, eqL (ks ++ ks') zas bs = some r → ∃ x y, eqL ks (zas.take ks.length) (bs.take ks.length) = some x ∧ eqL ks' (zas.drop ks.length) (bs.drop ks.length) = some y ∧ r = (x && y)
  | [], ks', zas, bs, r, h => ⟨true, r, by simp [eqL], by simpa using h, by simp⟩
  | k :: ks, ks', [], bs, r, h => by simp [eqL] at h
  | k :: ks, ks', a :: zas, [], r, h => by simp [eqL] at h
  | k :: ks, ks', a :: zas, b :: bs, r, h => by
    simp only [List.cons_append, eqL] at h
    split at h
    · rename_i x y h1 h2
      cases h
      obtain ⟨p, q, e1, e2, rfl⟩ := eqL_split h2
      refine ⟨x && p, q, ?_, by simpa using e2, by simp [Bool.and_assoc]⟩
      simp [eqL, h1, e1]
    · cases h
theorem take_drop_pr {zas : List PDV} {xs : List Value} (h : PRepL F zas xs) (o n : Nat) : PRepL F ((zas.drop o).take n) ((xs.drop o).take n) := (h.drop o).take n
theorem eq1_val {k : Nat} {a b : PDV} {x y : Value} {r : Bool} (h : eq1 k a b = some r) (ha : PRep F a x) (hb : PRep F b y) :
    (k = 0 ∧ ∃ kk p q, x = .int kk p ∧ y = .int kk q ∧ r = (p == q)) ∨ (k = 1 ∧ ∃ p q, x = .bool p ∧ y = .bool q ∧ r = (p == q)) ∨ (k = 2 ∧ ∃ p q, x = .string p ∧ y = .string q ∧ r = (p.toList == q.toList)) := by
  unfold eq1 at h
  split at h
  · simp only [PRep] at ha hb
    obtain ⟨rfl, _⟩ := ha
    obtain ⟨rfl, _⟩ := hb
    split at h
    · rename_i e; subst e; cases h; exact .inl ⟨rfl, _, _, _, rfl, rfl, rfl⟩
    · cases h
  · simp only [PRep] at ha hb
    obtain ⟨rfl, _⟩ := ha
    obtain ⟨rfl, _⟩ := hb
    cases h; exact .inr (.inl ⟨rfl, _, _, rfl, rfl, rfl⟩)
  · simp only [PRep] at ha hb
    obtain ⟨rfl, _⟩ := ha
    obtain ⟨rfl, _⟩ := hb
    cases h; exact .inr (.inr ⟨rfl, _, _, rfl, rfl, rfl⟩)
  · cases h
def EqAt (P : Program) (F : Addr → Value → Prop) (t : TypeId) (ks : List Nat) (D : Nat) : Prop := ∀ (zas bs : List PDV) (r : Bool), eqL ks zas bs = some r → ∀ xs ys, PRepL F zas xs → PRepL F bs ys → ∀ w, (Op.equalIn D t (valOf P t xs) (valOf P t ys)).run P w = .ok r w
theorem one_cell {ks : List Nat} {k : Nat} {zas bs : List PDV} {r : Bool} (h : eqL [k] zas bs = some r) {xs ys : List Value} (hx : PRepL F zas xs) (hy : PRepL F bs ys) : ∃ a b x y, eq1 k a b = some r ∧ xs = [x] ∧ ys = [y] ∧ PRep F a x ∧ PRep F b y := by
  obtain ⟨l1, l2⟩ := eqL_len h
  match zas, bs, l1, l2 with
  | [a], [b], _, _ =>
    simp only [PRepL] at hx hy
    obtain ⟨x, _, rfl, _, hx, rfl⟩ := hx
    obtain ⟨y, _, rfl, _, hy, rfl⟩ := hy
    simp only [eqL] at h
    split at h
    · rename_i p q h1 h2
      cases h
      cases h2
      exact ⟨a, b, x, y, by simpa using h1, rfl, rfl, hx, hy⟩
    · cases h
theorem flatK_agg : ∀ {d : Nat} {t : TypeId} {ks : List Nat}, flatK P d t = some ks → ∃ g, aggT P t = some g ∧ (g = false → ks.length = 1)
  | 0, t, ks, h => by simp [flatK] at h
  | d + 1, t, ks, h => by
    simp only [flatK] at h
    unfold aggT
    split at h <;> rename_i hu <;> first
      | (cases h; exact ⟨_, by rw [hu]; rfl, fun _ => rfl⟩)
      | exact ⟨true, by rw [hu]; rfl, fun e => by cases e⟩
      | cases h
theorem fields_eq {d D : Nat} (ih : ∀ (t : TypeId) (ks : List Nat), flatK P d t = some ks → EqAt P F t ks D) {zas bs : List PDV} {xs ys : List Value} (hx : PRepL F zas xs) (hy : PRepL F bs ys) (w : World) :
    ∀ (gs : List Field) (o : Nat) (ks : List Nat) (r : Bool), flatF (flatK P d) P gs o = some ks → eqL ks (zas.drop o) (bs.drop o) = some r → (Op.eqFields D xs.toArray ys.toArray gs).run P w = .ok r w
  | [], o, ks, r, h, he => by
    simp only [flatF] at h
    cases h
    obtain ⟨l1, l2⟩ := eqL_len he
    have : zas.drop o = [] := List.eq_nil_of_length_eq_zero l1
    have : bs.drop o = [] := List.eq_nil_of_length_eq_zero l2
    simp_all [eqL, Op.eqFields]
  | g :: gs, o, ks, r, h, he => by
    simp only [flatF] at h
    split at h
    · rename_i hn
      obtain ⟨hn, ho⟩ := hn
      cases hk : flatK P d g.type with
      | none => rw [hk] at h; cases h
      | some k1 =>
        rw [hk] at h
        simp only at h
        split at h
        · rename_i hsz
          cases hr : flatF (flatK P d) P gs (o + k1.length) with
          | none => rw [hr] at h; cases h
          | some k2 =>
            rw [hr] at h
            cases h
            obtain ⟨p, q, e1, e2, rfl⟩ := eqL_split he
            obtain ⟨l1, l2⟩ := eqL_len he
            obtain ⟨ag, hag, h1⟩ := flatK_agg hk
            have lx := hx.len
            have ly := hy.len
            simp only [List.length_drop, List.length_append] at l1 l2
            have e1' := ih g.type k1 hk _ _ _ e1 _ _ (take_drop_pr hx o _) (take_drop_pr hy o _) w
            have e2' := fields_eq ih hx hy w gs (o + k1.length) k2 q hr (by simpa [List.drop_drop] using e2)
            have hne : g.name ≠ "_" := hn
            simp only [Op.eqFields, hne, ne_eq, not_false_eq_true, if_true, Sem.run_bind]
            by_cases hz : o + k1.length ≤ zas.length ∧ o + k1.length ≤ bs.length
            · rw [ho, part_run hag hsz h1 (by omega) w, Result.andThen_ok, part_run hag hsz h1 (by omega) w, Result.andThen_ok, e1', Result.andThen_ok]
              cases p
              · simp
              · simpa using e2'
            · have hk0 : k1.length = 0 := by omega
              have hz2 : ag = true := by
                cases ag
                · have := h1 rfl; omega
                · rfl
              subst hz2
              have : k1 = [] := List.eq_nil_of_length_eq_zero hk0
              subst this
              have hp : ∀ zs : List Value, (part g.type zs.toArray o).run P w = .ok (.agg (zs.toArray.extract o o)) w := by
                intro zs
                simp [part, aggT_run hag, szT_run hsz]
              have hv : ∀ zs : List Value, zs.toArray.extract o o = ([] : List Value).toArray := by intro zs; simp
              have e1'' : (Op.equalIn D g.type (.agg ([] : List Value).toArray) (.agg ([] : List Value).toArray)).run P w = .ok p w := by
                simpa [valOf, hag] using e1'
              rw [ho, hp, Result.andThen_ok, hp, Result.andThen_ok, hv, hv, e1'', Result.andThen_ok]
              cases p
              · simp
              · simpa using e2'
        · cases h
    · cases h
theorem items_eq {D : Nat} {e : TypeId} {ks : List Nat} {g : Bool} (hag : aggT P e = some g) (h1 : g = false → ks.length = 1) (hsz : szT P e = some ks.length) (ih : EqAt P F e ks D) {zas bs : List PDV} {xs ys : List Value} (hx : PRepL F zas xs) (hy : PRepL F bs ys) (w : World) :
    ∀ (n i : Nat) (r : Bool), i * ks.length + n * ks.length ≤ zas.length → i * ks.length + n * ks.length ≤ bs.length → eqL (repN ks n) (zas.drop (i * ks.length)) (bs.drop (i * ks.length)) = some r → (Op.eqItems D e ks.length xs.toArray ys.toArray (List.range' i n)).run P w = .ok r w
  | 0, i, r, _, _, he => by
    simp only [repN] at he
    obtain ⟨l1, l2⟩ := eqL_len he
    have a0 : zas.drop (i * ks.length) = [] := List.eq_nil_of_length_eq_zero l1
    have b0 : bs.drop (i * ks.length) = [] := List.eq_nil_of_length_eq_zero l2
    rw [a0, b0] at he
    simp only [eqL] at he
    cases he
    simp [Op.eqItems]
  | n + 1, i, r, la, lb, he => by
    simp only [repN] at he
    obtain ⟨p, q, e1, e2, rfl⟩ := eqL_split he
    have lx := hx.len
    have ly := hy.len
    have e1' := ih _ _ _ e1 _ _ (take_drop_pr hx _ _) (take_drop_pr hy _ _) w
    have em : (i + 1) * ks.length = i * ks.length + ks.length := Nat.succ_mul _ _
    have en : (n + 1) * ks.length = n * ks.length + ks.length := Nat.succ_mul _ _
    have e2' := items_eq hag h1 hsz ih hx hy w n (i + 1) q (by omega) (by omega) (by rw [em]; simpa [List.drop_drop] using e2)
    simp only [List.range'_succ, Op.eqItems, Sem.run_bind]
    rw [part_run hag hsz h1 (by omega) w, Result.andThen_ok, part_run hag hsz h1 (by omega) w, Result.andThen_ok, e1', Result.andThen_ok]
    cases p
    · simp
    · simpa using e2'
theorem repN_len (ks : List Nat) (n : Nat) : (repN ks n).length = n * ks.length := by
  induction n with
  | zero => simp [repN]
  | succ n ih => simp [repN, ih, Nat.succ_mul]; omega
theorem flat_eq : ∀ (d : Nat) (t : TypeId) (ks : List Nat), flatK P d t = some ks → ∀ D, d ≤ D → EqAt P F t ks D
  | 0, t, ks, h, D, hD => by simp [flatK] at h
  | d + 1, t, ks, h, 0, hD => by omega
  | d + 1, t, ks, h, D + 1, hD => by
    intro zas bs r he xs ys hx hy w
    simp only [flatK] at h
    split at h
    · rename_i k hu
      cases h
      obtain ⟨a, b, x, y, e, rfl, rfl, ha, hb⟩ := one_cell (ks := []) he hx hy
      have hv : ∀ z, valOf P t [z] = z := fun z => by simp [valOf, aggT, hu]
      rw [hv, hv]
      rcases eq1_val e ha hb with ⟨_, kk, p, q, rfl, rfl, rfl⟩ | ⟨h0, _⟩ | ⟨h0, _⟩
      · exact run_equalIn_int w D t kk k p q hu
      · cases h0
      · cases h0
    · rename_i hu
      cases h
      obtain ⟨a, b, x, y, e, rfl, rfl, ha, hb⟩ := one_cell (ks := []) he hx hy
      have hv : ∀ z, valOf P t [z] = z := fun z => by simp [valOf, aggT, hu]
      rw [hv, hv]
      rcases eq1_val e ha hb with ⟨h0, _⟩ | ⟨_, p, q, rfl, rfl, rfl⟩ | ⟨h0, _⟩
      · cases h0
      · exact run_equalIn_bool' w D t p q hu
      · cases h0
    · rename_i hu
      cases h
      obtain ⟨a, b, x, y, e, rfl, rfl, ha, hb⟩ := one_cell (ks := []) he hx hy
      have hv : ∀ z, valOf P t [z] = z := fun z => by simp [valOf, aggT, hu]
      rw [hv, hv]
      rcases eq1_val e ha hb with ⟨h0, _⟩ | ⟨h0, _⟩ | ⟨_, p, q, rfl, rfl, rfl⟩
      · cases h0
      · cases h0
      · exact run_equalIn_string w D t p q hu
    · rename_i fs hu
      split at h
      · cases h
      · rename_i hst
        have hv : ∀ z, valOf P t z = .agg z.toArray := fun z => by simp [valOf, aggT, hu]
        rw [hv, hv]
        have hf : P.fieldsOf t = fs := by simp [Program.fieldsOf, hu]
        rw [run_equalIn_struct w D t _ _ (by rw [hf]; exact hu) (by simpa using hst), hf]
        exact fields_eq (fun t ks hk => flat_eq d t ks hk D (by omega)) hx hy w fs.toList 0 ks r h (by simpa using he)
    · rename_i n e hu
      cases hk : flatK P d e with
      | none => rw [hk] at h; cases h
      | some k1 =>
        rw [hk] at h
        simp only at h
        split at h
        · rename_i hsz
          cases h
          obtain ⟨g, hag, h1⟩ := flatK_agg hk
          have hv : ∀ z, valOf P t z = .agg z.toArray := fun z => by simp [valOf, aggT, hu]
          rw [hv, hv]
          obtain ⟨l1, l2⟩ := eqL_len he
          rw [repN_len] at l1 l2
          have hi : ∃ i, P.info? e = some i := by
            unfold szT at hsz
            cases hi : P.info? e with
            | none => rw [hi] at hsz; cases hsz
            | some i => exact ⟨i, rfl⟩
          obtain ⟨i, hi⟩ := hi
          rw [run_equalIn_array w D _ _ hu hi, cellsOf_szT hsz, List.range_eq_range']
          exact items_eq hag h1 hsz (flat_eq d e k1 hk D (by omega)) hx hy w n 0 r (by omega) (by omega) (by simpa using he)
        · cases h
    · cases h
theorem flat_guard : ∀ (d : Nat) (t : TypeId) (ks : List Nat), flatK P d t = some ks → ∀ D, d ≤ D → P.eqGuardType D t = false
  | 0, t, ks, h, D, hD => by simp [flatK] at h
  | d + 1, t, ks, h, 0, hD => by omega
  | d + 1, t, ks, h, D + 1, hD => by
    simp only [flatK] at h
    split at h
    · rename_i hu; simp [Program.eqGuardType, hu]
    · rename_i hu; simp [Program.eqGuardType, hu]
    · rename_i hu; simp [Program.eqGuardType, hu]
    · rename_i fs hu
      split at h
      · cases h
      · simp only [Program.eqGuardType, hu]
        rw [← Array.any_toList]
        have key : ∀ (gs : List Field) (o : Nat) (ks : List Nat), flatF (flatK P d) P gs o = some ks → (gs.any fun f => f.name != "_" && P.eqGuardType D f.type) = false := by
          intro gs
          induction gs with
          | nil => intro o ks _; rfl
          | cons g gs ih =>
            intro o ks hk
            simp only [flatF] at hk
            split at hk
            · cases h1 : flatK P d g.type with
              | none => rw [h1] at hk; cases hk
              | some k1 =>
                rw [h1] at hk
                simp only at hk
                split at hk
                · cases h2 : flatF (flatK P d) P gs (o + k1.length) with
                  | none => rw [h2] at hk; cases hk
                  | some k2 =>
                    simp [flat_guard d g.type k1 h1 D (by omega), ih _ _ h2]
                · cases hk
            · cases hk
        exact key _ _ _ h
    · rename_i n e hu
      cases hk : flatK P d e with
      | none => rw [hk] at h; cases h
      | some k1 =>
        simp [Program.eqGuardType, hu, flat_guard d e k1 hk D (by omega)]
    · cases h
end
end Go.Proofs.YtddmnddocbmjnaaGreat.Dv
namespace Go.Proofs.YtddmnddocbmjnaaGreat.Dv
open Go.RowKit
section
variable {P : Program} {ρ : Rho} {w : World} {h : PT AObj}
theorem slice_eq {t : TypeId} {e : TypeId} (hu : P.underlying t = some (.slice e)) {a b : Option Addr} {n c n' c' : Nat} {r : Bool} (hr : (b = none ∧ r = a.isNone) ) (w : World) :
    (binOp .eql t (.slice a n c) (.slice b n' c')).run P w = .ok (.bool r) w ∧ (binOp .neq t (.slice a n c) (.slice b n' c')).run P w = .ok (.bool (!r)) w := by
  obtain ⟨rfl, rfl⟩ := hr
  refine eqlv (fun d => ?_) rfl rfl
  cases a <;> simp [Op.equalIn, run_underlying hu]
theorem ptr_eq {t : TypeId} {e : TypeId} (hu : P.underlying t = some (.pointer e)) (a : Addr) (w : World) :
    (binOp .eql t (.pointer (some a)) (.pointer none)).run P w = .ok (.bool false) w ∧ (binOp .neq t (.pointer (some a)) (.pointer none)).run P w = .ok (.bool true) w := by
  refine eqlv (r := false) (fun d => ?_) rfl rfl
  simp [Op.equalIn, run_underlying hu]
theorem fun_eq {t : TypeId} {a b : Array TypeId} {v : Bool} (hu : P.underlying t = some (.func a b v)) (f : Fn) (x y : Array Value) (w : World) :
    (binOp .eql t (.func f x y) .nilFunc).run P w = .ok (.bool false) w ∧ (binOp .neq t (.func f x y) .nilFunc).run P w = .ok (.bool true) w := by
  refine eqlv (r := false) (fun d => ?_) rfl rfl
  simp [Op.equalIn, run_underlying hu]
theorem lst_some {l : List PDV} {x : Value} {F : Addr → Value → Prop} (hx : PRep F (.lst l) x) (hl : l ≠ []) : ∃ a n c, x = .slice (some a) n c := by
  simp only [PRep] at hx
  obtain ⟨a, c, sz, rfl, _, _, he⟩ := hx
  cases l with
  | nil => exact absurd rfl hl
  | cons d ds =>
    simp only [PRepE] at he
    obtain ⟨⟨ad, _, rfl, _⟩, _⟩ := he
    exact ⟨_, _, _, rfl⟩
theorem nil_ok {op : BinOp} {t : TypeId} {a b : DV} {r : Bool} (hb : isNil P t b = true) (ha : nilOf P t a = some r) {x y : Value} (hx : DR w h ρ a x) (hy : DR w h ρ b y) (ox oy : Operand) :
    (binOp .eql t x y).run P w = .ok (.bool r) w ∧ (binOp .neq t x y).run P w = .ok (.bool (!r)) w ∧ (eqGuard op t ox oy x y).run P w = .ok () w := by
  unfold isNil at hb
  split at hb
  · simp only [DRep] at hy
    subst hy
    split at hb
    · rename_i e hu
      have fin : ∀ (ad : Option Addr) (n c : Nat), (r = ad.isNone) → (binOp .eql t (.slice ad n c) (.slice none 0 0)).run P w = .ok (.bool r) w ∧ (binOp .neq t (.slice ad n c) (.slice none 0 0)).run P w = .ok (.bool (!r)) w ∧ (eqGuard op t ox oy (.slice ad n c) (.slice none 0 0)).run P w = .ok () w := by
        intro ad n c hr
        obtain ⟨e1, e2⟩ := slice_eq (P := P) hu (a := ad) (b := none) (n := n) (c := c) (n' := 0) (c' := 0) (r := r) ⟨rfl, hr⟩ w
        exact ⟨e1, e2, guard_scal op t ox oy (by simp) (by simp) w⟩
      unfold nilOf at ha
      split at ha <;> (try simp only [hu] at ha) <;> first
        | (cases ha; done)
        | (cases ha
           simp only [DRep] at hx
           first
             | (subst hx; exact fin none 0 0 rfl)
             | (obtain ⟨_, hx, _⟩ := hx; obtain ⟨ad, n, c, rfl⟩ := lst_some hx (by simp); exact fin _ _ _ rfl)
             | (obtain ⟨ad, n, c, rfl⟩ := lst_some hx (by simp); exact fin _ _ _ rfl)
             | (obtain ⟨_, c, rfl, _⟩ := hx; exact fin _ _ _ rfl))
    · cases hb
  · simp only [DRep, PRep] at hy
    obtain ⟨rfl, _⟩ := hy
    split at hb
    · rename_i e hu
      have fin : ∀ ad : Addr, (binOp .eql t (.pointer (some ad)) (.pointer none)).run P w = .ok (.bool false) w ∧ (binOp .neq t (.pointer (some ad)) (.pointer none)).run P w = .ok (.bool (!false)) w ∧ (eqGuard op t ox oy (.pointer (some ad)) (.pointer none)).run P w = .ok () w := fun ad =>
        ⟨(ptr_eq hu ad w).1, (ptr_eq hu ad w).2, guard_scal op t ox oy (by simp) (by simp) w⟩
      unfold nilOf at ha
      split at ha <;> (try simp only [hu] at ha) <;> first
        | (cases ha; done)
        | (cases ha
           simp only [DRep, PRep] at hx
           first
             | (obtain ⟨_, rfl⟩ := hx; exact fin _)
             | (obtain ⟨a, xs, rfl, _⟩ := hx; exact fin _))
    · cases hb
  · simp only [DRep, PRep] at hy
    obtain ⟨rfl, _⟩ := hy
    split at hb
    · rename_i p q v hu
      have fin : ∀ f x y, (binOp .eql t (.func f x y) .nilFunc).run P w = .ok (.bool false) w ∧ (binOp .neq t (.func f x y) .nilFunc).run P w = .ok (.bool (!false)) w ∧ (eqGuard op t ox oy (.func f x y) .nilFunc).run P w = .ok () w := fun f x y =>
        ⟨(fun_eq hu f x y w).1, (fun_eq hu f x y w).2, guard_scal op t ox oy (by simp) (by simp) w⟩
      unfold nilOf at ha
      split at ha <;> (try simp only [hu] at ha) <;> first
        | (cases ha; done)
        | (cases ha
           simp only [DRep, PRep] at hx
           obtain ⟨f, c, rfl, _⟩ := hx
           exact fin _ _ _)
    · cases hb
  · cases hb
theorem agg_eq {t : TypeId} {ks : List Nat} (hk : kindsT P t = some ks) {zas bs : List PDV} {r : Bool} (he : eqL ks zas bs = some r) {x y : Value} (hx : DR w h ρ (.p (.agg zas)) x) (hy : DR w h ρ (.p (.agg bs)) y) (op : BinOp) (ox oy : Operand) (ha : aggT P t = some true) :
    (binOp .eql t x y).run P w = .ok (.bool r) w ∧ (binOp .neq t x y).run P w = .ok (.bool (!r)) w ∧ (eqGuard op t ox oy x y).run P w = .ok () w := by
  unfold kindsT at hk
  split at hk
  · rename_i h8
    simp only [DRep, PRep] at hx hy
    obtain ⟨xs, rfl, hx⟩ := hx
    obtain ⟨ys, rfl, hy⟩ := hy
    have e := flat_eq (P := P) 8 t ks hk 10000 (by omega) zas bs r he xs ys hx hy w
    simp only [valOf, ha, if_true] at e
    refine ⟨?_, ?_, run_eqGuard_agg w op t ox oy _ _ (flat_guard 8 t ks hk _ h8)⟩
    · rw [run_eql_struct, e]; rfl
    · rw [run_neq_struct, e]; rfl
  · cases hk
theorem bin_ok {op : BinOp} {t : TypeId} {a b d : DV} (hd : bin P op t a b = some d) {x y : Value} (hx : DR w h ρ a x) (hy : DR w h ρ b y) (ox oy : Operand) :
    ∃ v, (binOp op t x y).run P w = .ok v w ∧ (eqGuard op t ox oy x y).run P w = .ok () w ∧ DR w h ρ d v := by
  unfold bin at hd
  split at hd
  · rename_i p q
    simp only [DRep, PRep] at hx hy
    obtain ⟨ex, _⟩ := hx
    obtain ⟨ey, _⟩ := hy
    cases hb : bin1 P op t p q with
    | none => rw [hb] at hd; cases hd
    | some v =>
      rw [hb] at hd
      cases hd
      obtain ⟨e1, e2, e3⟩ := bin1_ok hb ox oy w
      rw [ex, ey]
      exact ⟨v, e1, e2, s_rep e3⟩
  · rename_i p q
    split at hd
    · rename_i ks hk ha
      split at hd
      · rename_i ho
        subst ho
        cases he : eqL ks p q with
        | none => rw [he] at hd; cases hd
        | some r =>
          rw [he] at hd; cases hd
          obtain ⟨e1, e2, e3⟩ := agg_eq hk he hx hy .eql ox oy ha
          exact ⟨_, e1, e3, b_rep r⟩
      · split at hd
        · rename_i ho
          subst ho
          cases he : eqL ks p q with
          | none => rw [he] at hd; cases hd
          | some r =>
            rw [he] at hd; cases hd
            obtain ⟨e1, e2, e3⟩ := agg_eq hk he hx hy .neq ox oy ha
            exact ⟨_, e2, e3, b_rep _⟩
        · cases hd
    · cases hd
  · split at hd
    · rename_i hn
      split at hd
      · rename_i ho
        subst ho
        cases he : nilOf P t a with
        | none => rw [he] at hd; cases hd
        | some r =>
          rw [he] at hd; cases hd
          obtain ⟨e1, e2, e3⟩ := nil_ok (op := .eql) hn he hx hy ox oy
          exact ⟨_, e1, e3, b_rep r⟩
      · split at hd
        · rename_i ho
          subst ho
          cases he : nilOf P t a with
          | none => rw [he] at hd; cases hd
          | some r =>
            rw [he] at hd; cases hd
            obtain ⟨e1, e2, e3⟩ := nil_ok (op := .neq) hn he hx hy ox oy
            exact ⟨_, e2, e3, b_rep _⟩
        · cases hd
    · cases hd
theorem un_ok {op : UnOp} {a d : DV} (hd : un op a = some d) {x : Value} (hx : DR w h ρ a x) : ∃ v, (Op.unary op x).run P w = .ok v w ∧ DR w h ρ d v := by
  unfold un at hd
  split at hd
  · rename_i k n
    simp only [DRep, PRep] at hx
    obtain ⟨rfl, _⟩ := hx
    cases op <;> simp only at hd <;> cases hd <;> exact ⟨_, by simp [Op.unary, Op.intArith, Op.intBits], i_rep _ _⟩
  · rename_i b
    simp only [DRep, PRep] at hx
    obtain ⟨rfl, _⟩ := hx
    split at hd
    · rename_i ho
      subst ho
      cases hd
      exact ⟨_, by simp [Op.unary], b_rep _⟩
    · cases hd
  · cases hd
theorem conv_ok {s t : TypeId} {a d : DV} (hd : conv P s t a = some d) {x : Value} (hx : DR w h ρ a x) : ∃ v, (convert s t x).run P w = .ok v w ∧ DR w h ρ d v := by
  unfold conv at hd
  split at hd
  · rename_i e1 k kk n h1 h2
    simp only [DRep, PRep] at hx
    obtain ⟨rfl, _⟩ := hx
    cases hd
    refine ⟨_, ?_, i_rep _ _⟩
    simp only [convert, Sem.run_bind, run_underlying h1, run_underlying h2, Result.andThen_ok]
    simp [Conv.intToInt]
  · rename_i e1 ss h1 h2
    simp only [DRep, PRep] at hx
    obtain ⟨rfl, _⟩ := hx
    cases hd
    refine ⟨_, ?_, s_rep rfl⟩
    simp only [convert, Sem.run_bind, run_underlying h1, run_underlying h2, Result.andThen_ok]
    cases e1 <;> simp
  · cases hd
theorem prt_ok {t : TypeId} {cs : List DV} {off : Nat} {d : DV} (hd : prt P t cs off = some d) {xs : List Value} (hx : DRL w h ρ cs xs) : ∃ v, (part t xs.toArray off).run P w = .ok v w ∧ DR w h ρ d v := by
  unfold prt at hd
  split at hd
  · rename_i k hg hk
    split at hd
    · rename_i hl
      cases hd
      refine ⟨_, part_run hg hk (fun e => by cases e) (by rw [hx.len]; exact hl) w, ?_⟩
      simp only [valOf, hg, if_true]
      exact DRep.mkAgg ((hx.drop off).take k)
    · cases hd
  · rename_i k hg hk
    obtain ⟨v, hv, _, hr⟩ := hx.get off d hd
    refine ⟨v, ?_, hr⟩
    have e : xs.toArray[off]? = some v := by simpa using hv
    simp only [part, Sem.run_bind, aggT_run hg, Result.andThen_ok, Bool.false_eq_true, if_false, e]
    rfl
  · cases hd
theorem aggC_ok {d : DV} {cs : List DV} (hd : aggC d = some cs) {x : Value} (hx : DR w h ρ d x) : ∃ xs : List Value, x = .agg xs.toArray ∧ DRL w h ρ cs xs := by
  unfold aggC at hd
  split at hd
  · cases hd
    simp only [DRep, PRep] at hx
    obtain ⟨xs, e, hx⟩ := hx
    exact ⟨xs, e, DRepL.of_plain hx⟩
  · cases hd
    simp only [DRep] at hx
    exact hx
  · cases hd
theorem fldT_run {t : TypeId} {f off : Nat} {ft : TypeId} (hf : fldT P t f = some (off, ft)) : ∃ fs g, P.underlying t = some (.struct fs) ∧ fs[f]? = some g ∧ g.offset = off ∧ g.type = ft := by
  unfold fldT at hf
  split at hf
  · rename_i fs hu
    cases hg : fs[f]? with
    | none => rw [hg] at hf; cases hf
    | some g =>
      rw [hg] at hf
      cases hf
      exact ⟨fs, g, hu, hg, rfl, rfl⟩
  · cases hf
theorem fld_ok {t : TypeId} {f : Nat} {a d : DV} (hd : fld P t a f = some d) {x : Value} (hx : DR w h ρ a x) : ∃ v, (Instr.field t x f).run P w = .ok v w ∧ DR w h ρ d v := by
  unfold fld at hd
  split at hd
  · rename_i off ft cs hf hc
    obtain ⟨xs, rfl, hxs⟩ := aggC_ok hc hx
    obtain ⟨fs, g, hu, hg, rfl, rfl⟩ := fldT_run hf
    obtain ⟨v, hv, hr⟩ := prt_ok hd hxs
    refine ⟨v, ?_, hr⟩
    simp only [Instr.field, Sem.run_bind, run_underlying hu, Result.andThen_ok, hg, asAgg, Sem.run_pure]
    exact hv
  · cases hd
theorem fadr_ok {t : TypeId} {f : Nat} {a d : DV} (hd : fadr P t a f = some d) {x : Value} (hx : DR w h ρ a x) : ∃ v, (Instr.fieldAt t x f).run P w = .ok v w ∧ DR w h ρ d v := by
  unfold fadr at hd
  split at hd
  · rename_i off ft hf
    obtain ⟨fs, g, hu, hg, rfl, rfl⟩ := fldT_run hf
    split at hd
    · cases hd
    · rename_i k hk hsz
      have hk0 : k ≠ 0 := by rintro rfl; exact hk rfl
      have run : ∀ ad, (Instr.fieldAt t (.pointer (some ad)) f).run P w = .ok (.pointer (some (ad.add g.offset))) w := by
        intro ad
        simp only [Instr.fieldAt, Sem.run_bind, run_underlying hu, Result.andThen_ok, hg, Instr.sureAddr, Sem.run_pure, fieldPlace, szT_run hsz, if_neg hk0]
      split at hd
      · rename_i ds
        split at hd
        · cases hd
          simp only [DRep, PRep] at hx
          obtain ⟨ad, xs, rfl, hx, hf⟩ := hx
          refine ⟨_, run ad, ?_⟩
          simp only [DRep, PRep]
          refine ⟨_, xs.drop g.offset, rfl, hx.drop _, fun j v hj => ?_⟩
          rw [addr_add]
          exact hf _ _ (by simpa using hj)
        · cases hd
      · rename_i i o
        cases hd
        simp only [DRep] at hx
        obtain ⟨hal, rfl⟩ := hx
        refine ⟨_, run _, ?_⟩
        simp only [DRep]
        exact ⟨hal, by rw [add_lit0, Nat.add_assoc]⟩
      · cases hd
    · cases hd
  · cases hd
theorem xtr_ok {a d : DV} {i : Nat} (hd : xtr a i = some d) {x : Value} (hx : DR w h ρ a x) : ∃ v, (Instr.extract x i).run P w = .ok v w ∧ DR w h ρ d v := by
  unfold xtr at hd
  split at hd
  · rename_i l
    simp only [DRep, PRep] at hx
    obtain ⟨xs, rfl, hx⟩ := hx
    obtain ⟨v, hv, hr⟩ := (DRepT.of_plain (F := Fx w (Wf h ρ)) (ρ := ρ) (T := Tp h) hx).get i d (by simpa using hd)
    refine ⟨v, ?_, hr⟩
    have e : xs.toArray[i]? = some v := by simpa using hv
    simp only [Instr.extract, e]; rfl
  · rename_i l
    simp only [DRep] at hx
    obtain ⟨xs, rfl, hx⟩ := hx
    obtain ⟨v, hv, hr⟩ := hx.get i d hd
    refine ⟨v, ?_, hr⟩
    have e : xs.toArray[i]? = some v := by simpa using hv
    simp only [Instr.extract, e]; rfl
  · cases hd
theorem mxI_ok {b : Bool} {x y d : DV} (hd : mxI b x y = some d) {u v : Value} (hx : DR w h ρ x u) (hy : DR w h ρ y v) : ∃ r, ((if b then Builtin.max2 u v else Builtin.min2 u v).run P w = .ok r w) ∧ DR w h ρ d r := by
  unfold mxI at hd
  split at hd
  · simp only [DRep, PRep] at hx hy
    obtain ⟨rfl, _⟩ := hx
    obtain ⟨rfl, _⟩ := hy
    cases hd
    cases b
    · exact ⟨_, by simp [Builtin.min2], i_rep _ _⟩
    · exact ⟨_, by simp [Builtin.max2], i_rep _ _⟩
  · cases hd
theorem fold_mx {b : Bool} : ∀ {xs : List DV} {x d : DV}, foldO (mxI b) x xs = some d → ∀ {u : Value} {us : List Value}, DR w h ρ x u → DRT w h ρ xs us → ∃ r, (us.foldlM (fun p q => if b then Builtin.max2 p q else Builtin.min2 p q) u).run P w = .ok r w ∧ DR w h ρ d r
  | [], x, d, hd, u, us, hx, hs => by
    simp only [foldO] at hd
    cases hd
    simp only [DRepT] at hs
    subst hs
    exact ⟨u, by simp, hx⟩
  | y :: ys, x, d, hd, u, us, hx, hs => by
    simp only [foldO] at hd
    split at hd
    · rename_i c hc
      simp only [DRepT] at hs
      obtain ⟨v, vs, rfl, hv, hs⟩ := hs
      obtain ⟨r, hr, hrr⟩ := mxI_ok (P := P) hc hx hv
      obtain ⟨r', hr', hrr'⟩ := fold_mx hd hrr hs
      exact ⟨r', by simp only [List.foldlM_cons, Sem.run_bind, hr, Result.andThen_ok, hr'], hrr'⟩
    · cases hd
end
end Go.Proofs.YtddmnddocbmjnaaGreat.Dv
namespace Go.Proofs.YtddmnddocbmjnaaGreat.Dv
open Go.RowKit
theorem getObj_map {P : Program} {w : World} {r : Nat} {es : Array MapEntry} {c : Nat} (hr : w.heap[r]? = some (.map es c)) : (getObj r).run P w = .ok (.map es c) w := by simp only [getObj, Sem.run, hr]
theorem add_zero (a : Addr) : a.add 0 = a := by simp [Addr.add]
section
variable {P : Program} {ρ : Rho} {w : World} {h : PT AObj}
theorem dvcells_p (d : PDV) : DV.cells (.p d) = d.cells.map .p := by cases d <;> rfl
theorem prep_cells {F : Addr → Value → Prop} {d : PDV} {y : Value} (hd : PRep F d y) (hn : notTup y = true) : PRepL F d.cells y.cells.toList := by
  have := DRep.cells (F := F) (ρ := ⟨fun _ => 0, fun _ => 0, fun _ => 0, fun _ => 0, fun _ => True, fun _ _ => False⟩) (T := fun _ _ => False) (d := .p d) (x := y) (by simpa [DRep] using hd) hn
  rw [dvcells_p] at this
  exact PRepL.of_p this
theorem PRepE.get {F : Addr → Value → Prop} {sz : Nat} {a : Option Addr} : ∀ {o : Nat} {l : List PDV}, PRepE F sz a o l → ∀ (i : Nat) (d : PDV), l[i]? = some d → ∃ ad y, a = some ad ∧ PRep F d y ∧ notTup y = true ∧ y.cells.size = sz ∧ ∀ j v, y.cells[j]? = some v → F (ad.add (o + i * sz + j)) v
  | o, [], _, i, d, hi => by simp at hi
  | o, x :: xs, hl, i, d, hi => by
    simp only [PRepE] at hl
    obtain ⟨h1, h2⟩ := hl
    cases i with
    | zero => simp at hi; subst hi; simpa using h1
    | succ i =>
      simp at hi
      obtain ⟨ad, y, e, hp, hn, hs, hf⟩ := PRepE.get h2 i d hi
      refine ⟨ad, y, e, hp, hn, hs, fun j v hj => ?_⟩
      have := hf j v hj
      rwa [show o + sz + i * sz + j = o + (i + 1) * sz + j by rw [Nat.succ_mul]; omega] at this
theorem PRepE.drop {F : Addr → Value → Prop} {sz : Nat} {a : Option Addr} : ∀ (n : Nat) {o : Nat} {l : List PDV}, PRepE F sz a o l → PRepE F sz a (o + n * sz) (l.drop n)
  | 0, o, l, hl => by simpa using hl
  | n + 1, o, [], hl => by simp [PRepE]
  | n + 1, o, x :: xs, hl => by
    simp only [PRepE] at hl
    have := PRepE.drop n hl.2
    rw [show o + (n + 1) * sz = o + sz + n * sz by rw [Nat.succ_mul]; omega]
    simpa using this
theorem PRepE.take {F : Addr → Value → Prop} {sz : Nat} {a : Option Addr} : ∀ (n : Nat) {o : Nat} {l : List PDV}, PRepE F sz a o l → PRepE F sz a o (l.take n)
  | 0, o, l, hl => by simp [PRepE]
  | n + 1, o, [], hl => by simp [PRepE]
  | n + 1, o, x :: xs, hl => by
    simp only [PRepE] at hl
    simp only [List.take_succ_cons, PRepE]
    exact ⟨hl.1, PRepE.take n hl.2⟩
theorem PRepE.shift {F : Addr → Value → Prop} {sz : Nat} {ad : Addr} {m : Nat} : ∀ {o : Nat} {l : List PDV}, PRepE F sz (some ad) (m + o) l → PRepE F sz (some (ad.add m)) o l
  | o, [], hl => by simp [PRepE]
  | o, x :: xs, hl => by
    simp only [PRepE] at hl ⊢
    obtain ⟨⟨ad', y, e, hp, hn, hs, hf⟩, h2⟩ := hl
    cases e
    refine ⟨⟨_, y, rfl, hp, hn, hs, fun j v hj => ?_⟩, PRepE.shift (by rw [← Nat.add_assoc]; exact h2)⟩
    rw [addr_add, ← Nat.add_assoc]
    exact hf j v hj
theorem elem_size {F : Addr → Value → Prop} {sz : Nat} {a : Option Addr} {o : Nat} {l : List PDV} (hl : PRepE F sz a o l) {k : Nat} (hk : szOk k l = true) (hne : l ≠ []) : sz = k := by
  cases l with
  | nil => exact absurd rfl hne
  | cons d ds =>
    simp only [PRepE] at hl
    obtain ⟨⟨ad, y, _, hp, hn, hs, _⟩, _⟩ := hl
    simp only [szOk, List.all_cons, Bool.and_eq_true, beq_iff_eq] at hk
    have := (prep_cells hp hn).len
    rw [← hs, ← hk.1, ← this]
    simp
theorem obj_cells (inv : Inv ρ w h) {i : Nat} {cs : List DV} {fz : Bool} (ho : h.get i = some (.cells cs fz)) : ρ.al i ∧ ∃ arr T vs, w.heap[ρ.blk i]? = some (.cells arr T (0, 0)) ∧ arr.size = ρ.st i + ρ.cap i ∧ DRL w h ρ cs vs ∧ (∀ j v, vs[j]? = some v → arr[ρ.st i + j]? = some v) ∧ ∀ j v, vs[j]? = some v → w.cell? ⟨ρ.blk i, ρ.st i + j, none⟩ = some v := by
  obtain ⟨a, b, arr, T, vs, h1, h2, h3, h4⟩ := inv.obj i _ ho
  refine ⟨a, arr, T, vs, h1, h2, h3, h4, fun j v hj => ?_⟩
  simp [World.cell?, h1, h4 j v hj]
theorem loadVar_agg {t : TypeId} {k : Nat} (hg : aggT P t = some true) (hk : szT P t = some k) (a : Addr) {xs : List Value} (hl : xs.length = k) (hc : ∀ j v, xs[j]? = some v → w.cell? (a.add j) = some v) : (loadVar t a).run P w = .ok (.agg xs.toArray) w := by
  have := run_loadCells_list (P := P) w a xs hc
  rw [hl] at this
  simp [loadVar, aggT_run hg, szT_run hk, this]
theorem loadVar_one {t : TypeId} (hg : aggT P t = some false) (a : Addr) {v : Value} (hc : w.cell? a = some v) : (loadVar t a).run P w = .ok v w := by
  simp [loadVar, aggT_run hg, hc]
theorem ld_ok (inv : Inv ρ w h) {t : TypeId} {a : DV} {e : Eff} (hd : ld P t a h = some e) {x : Value} (hx : DR w h ρ a x) : ∃ v, (Instr.loadAt t x).run P w = .ok v w ∧ DR w h ρ e.dv v ∧ e.up = [] := by
  unfold ld at hd
  split at hd
  · rename_i g k hg hk
    split at hd
    · rename_i ds
      simp only [DRep, PRep] at hx
      obtain ⟨ad, xs, rfl, hx, hf⟩ := hx
      split at hd
      · rename_i hgt
        subst hgt
        split at hd
        · rename_i hle
          cases hd
          refine ⟨.agg (xs.take k).toArray, ?_, ?_, rfl⟩
          · simp only [Instr.loadAt, Instr.sureAddr, Sem.run_bind, Sem.run_pure, Result.andThen_ok]
            refine loadVar_agg hg hk ad (by rw [List.length_take, hx.len]; omega) (fun j v hj => ?_)
            refine (hf j v ?_).2.1
            rw [List.getElem?_take] at hj
            split at hj
            · exact hj
            · cases hj
          · simp only [DRep, PRep]
            exact ⟨_, rfl, hx.take k⟩
        · cases hd
      · rename_i hgf
        have hgf : g = false := by simpa using hgf
        subst hgf
        split at hd
        · rename_i d ds'
          cases hd
          simp only [PRepL] at hx
          obtain ⟨y, ys, rfl, _, hy, _⟩ := hx
          refine ⟨y, ?_, by simpa [DRep] using hy, rfl⟩
          simp only [Instr.loadAt, Instr.sureAddr, Sem.run_bind, Sem.run_pure, Result.andThen_ok]
          have := (hf 0 y rfl).2.1
          rw [add_zero] at this
          exact loadVar_one hg ad this
        · cases hd
    · rename_i i off
      simp only [DRep] at hx
      obtain ⟨hal, rfl⟩ := hx
      split at hd
      · rename_i cs fz ho
        obtain ⟨_, arr, T, vs, h1, h2, h3, h4, h5⟩ := obj_cells inv ho
        split at hd
        · rename_i hgt
          subst hgt
          split at hd
          · rename_i hle
            cases hd
            refine ⟨.agg ((vs.drop off).take k).toArray, ?_, DRep.mkAgg ((h3.drop off).take k), rfl⟩
            simp only [Instr.loadAt, Instr.sureAddr, Sem.run_bind, Sem.run_pure, Result.andThen_ok]
            refine loadVar_agg hg hk _ (by rw [List.length_take, List.length_drop, h3.len]; omega) (fun j v hj => ?_)
            rw [add_lit0, Nat.add_assoc]
            refine h5 _ _ ?_
            rw [List.getElem?_take] at hj
            split at hj
            · simpa using hj
            · cases hj
          · cases hd
        · rename_i hgf
          have hgf : g = false := by simpa using hgf
          subst hgf
          split at hd
          · rename_i d hdd
            cases hd
            obtain ⟨v, hv, _, hr⟩ := h3.get off d hdd
            refine ⟨v, ?_, hr, rfl⟩
            simp only [Instr.loadAt, Instr.sureAddr, Sem.run_bind, Sem.run_pure, Result.andThen_ok]
            exact loadVar_one hg _ (h5 _ _ hv)
          · cases hd
      · cases hd
    · cases hd
  · cases hd
theorem iadr_ok {t : TypeId} {a ix d : DV} (hd : iadr P t a ix = some d) {x y : Value} (hx : DR w h ρ a x) (hy : DR w h ρ ix y) : ∃ v, (Instr.indexAt t x y).run P w = .ok v w ∧ DR w h ρ d v := by
  unfold iadr at hd
  split at hd
  · rename_i k i hi
    have hyv := asI_ok hi hy
    subst hyv
    split at hd
    · cases hd
    · rename_i hneg
      split at hd
      · rename_i e hu
        have run : ∀ (ad : Addr) (n c : Nat) (sz : Nat), szT P e = some sz → i.toNat < n → (Instr.indexAt t (.slice (some ad) n c) (.int k i)).run P w = .ok (.pointer (some (ad.add (i.toNat * sz)))) w := by
          intro ad n c sz hsz hlt
          have h1 : 0 ≤ i ∧ i < (n : Int) := by omega
          simp [Instr.indexAt, asIntOf, run_underlying hu, szT_run hsz, h1]
        have lst : ∀ (l : List PDV), PRep (Fx w (Wf h ρ)) (.lst l) x → ((l[i.toNat]?).bind fun d => if szT P e = some d.cells.length then some (DV.p (.rp d.cells)) else none) = some d → ∃ v, (Instr.indexAt t x (.int k i)).run P w = .ok v w ∧ DR w h ρ d v := by
          intro l hl hd
          cases hg : l[i.toNat]? with
          | none => rw [hg] at hd; cases hd
          | some q =>
            rw [hg] at hd
            simp only [Option.bind_some] at hd
            split at hd
            · rename_i hsz
              cases hd
              simp only [PRep] at hl
              obtain ⟨a, c, sz, rfl, _, _, he⟩ := hl
              obtain ⟨ad, z, rfl, hp, hn, hs, hf⟩ := he.get _ _ hg
              have hc := prep_cells hp hn
              have hlen : sz = q.cells.length := by rw [← hs, ← hc.len]; simp
              have hlt : i.toNat < l.length := (List.getElem?_eq_some_iff.1 hg).1
              refine ⟨_, run ad _ c _ hsz hlt, ?_⟩
              simp only [DRep, PRep]
              refine ⟨_, _, rfl, hc, fun j v hj => ?_⟩
              rw [addr_add, ← hlen]
              simpa using hf j v (by simpa using hj)
            · cases hd
        split at hd
        · rename_i l
          simp only [DRep] at hx
          exact lst l hx hd
        · rename_i id l
          simp only [DRep] at hx
          exact lst l hx.2.1 hd
        · rename_i id off n av es
          split at hd
          · rename_i hc
            obtain ⟨hlt, hsz⟩ := hc
            cases hd
            simp only [DRep] at hx
            obtain ⟨hal, c, rfl, _⟩ := hx
            refine ⟨_, run _ n c _ hsz hlt, ?_⟩
            simp only [DRep]
            exact ⟨hal, by rw [add_lit0, Nat.add_assoc]⟩
          · cases hd
        · cases hd
      · rename_i n e hu
        split at hd
        · rename_i hlt
          have run : ∀ (ad : Addr) (sz : Nat), szT P e = some sz → (Instr.indexAt t (.pointer (some ad)) (.int k i)).run P w = .ok (.pointer (some (ad.add (i.toNat * sz)))) w := by
            intro ad sz hsz
            have h1 : 0 ≤ i ∧ i < (n : Int) := by omega
            simp [Instr.indexAt, asIntOf, run_underlying hu, Instr.sureAddr, szT_run hsz, h1]
          split at hd
          · rename_i sz ds hsz
            split at hd
            · cases hd
              simp only [DRep, PRep] at hx
              obtain ⟨ad, xs, rfl, hx, hf⟩ := hx
              refine ⟨_, run ad sz hsz, ?_⟩
              simp only [DRep, PRep]
              refine ⟨_, xs.drop (i.toNat * sz), rfl, hx.drop _, fun j v hj => ?_⟩
              rw [addr_add]
              exact hf _ _ (by simpa using hj)
            · cases hd
          · rename_i sz id o hsz
            cases hd
            simp only [DRep] at hx
            obtain ⟨hal, rfl⟩ := hx
            refine ⟨_, run _ sz hsz, ?_⟩
            simp only [DRep]
            exact ⟨hal, by rw [add_lit0, Nat.add_assoc]⟩
          · cases hd
        · cases hd
      · cases hd
  · cases hd
theorem idx_ok {t : TypeId} {a ix d : DV} (hd : idx P t a ix = some d) {x y : Value} (hx : DR w h ρ a x) (hy : DR w h ρ ix y) : ∃ v, (Instr.index t x y).run P w = .ok v w ∧ DR w h ρ d v := by
  unfold idx at hd
  split at hd
  · rename_i k i hi
    have hyv := asI_ok hi hy
    subst hyv
    split at hd
    · cases hd
    · rename_i hneg
      have hnn : 0 ≤ i := by omega
      split at hd
      · rename_i s hu
        simp only [DRep, PRep] at hx
        obtain ⟨rfl, _⟩ := hx
        cases hg : s[i.toNat]? with
        | none => rw [hg] at hd; cases hd
        | some b =>
          rw [hg] at hd
          cases hd
          refine ⟨_, ?_, i_rep _ _⟩
          simp [Instr.index, asIntOf, run_underlying hu, hnn, hg]
      · rename_i n e hu
        split at hd
        · rename_i hlt
          split at hd
          · rename_i sz cs hsz hc
            obtain ⟨xs, rfl, hxs⟩ := aggC_ok hc hx
            obtain ⟨v, hv, hr⟩ := prt_ok hd hxs
            refine ⟨v, ?_, hr⟩
            have h1 : 0 ≤ i ∧ i < (n : Int) := by omega
            simp only [Instr.index, asIntOf, Sem.run_bind, Sem.run_pure, Result.andThen_ok, run_underlying hu, h1, and_self, if_true, szT_run hsz]
            exact hv
          · cases hd
        · cases hd
      · cases hd
  · cases hd
theorem lenD_ok (inv : Inv ρ w h) {t : TypeId} {a : DV} {r : Nat × List Nat} (hd : lenD P t a h = some r) {x : Value} (hx : DR w h ρ a x) (ts : List TypeId) (ty : TypeId) (xs : List Value) :
    (Builtin.len_ (t :: ts).toArray ty (x :: xs).toArray).run P w = .ok (.int .i64 r.1) w := by
  unfold lenD at hd
  split at hd <;> rename_i hu <;> first
    | (cases hd
       simp only [DRep, PRep] at hx
       first
         | (obtain ⟨rfl, _⟩ := hx; simp [Builtin.len_, run_underlying hu, goInt]; done)
         | (subst hx; simp [Builtin.len_, run_underlying hu, goInt]; done)
         | (obtain ⟨q, rfl⟩ := hx; simp [Builtin.len_, run_underlying hu, goInt]; done)
         | (obtain ⟨q, c, sz, rfl, _⟩ := hx; simp [Builtin.len_, run_underlying hu, goInt]; done)
         | (obtain ⟨_, ⟨q, c, sz, rfl, _⟩, _⟩ := hx; simp [Builtin.len_, run_underlying hu, goInt]; done)
         | (obtain ⟨_, c, rfl, _⟩ := hx; simp [Builtin.len_, run_underlying hu, goInt]; done))
    | (cases hd
       simp [Builtin.len_, run_underlying hu, goInt]; done)
    | (cases hd; done)
    | skip
  · rename_i i _
    simp only [DRep] at hx
    obtain ⟨_, rfl⟩ := hx
    split at hd
    · rename_i es ho
      cases hd
      obtain ⟨_, _, hor⟩ := inv.obj _ _ ho
      simp only [OR] at hor
      obtain ⟨en, ck, mss, h1, hpm, h2⟩ := hor
      have hlen : ∀ {es : List (PDV × DV)} {ms : List MapEntry}, MapR w h ρ es ms → ms.length = es.length := by
        intro es ms hm
        induction hm with
        | nil => rfl
        | cons _ _ _ ih => simp [ih]
      have := hpm.1.length_eq.trans (hlen h2)
      simp only [Array.length_toList] at this
      simp [Builtin.len_, run_underlying hu, goInt, getObj_map h1, this]
    · cases hd
end
end Go.Proofs.YtddmnddocbmjnaaGreat.Dv
