/- Part 1 of the proof: CrowdWeeks: whatever plain data comes in, the call returns true and leaves its arguments as they were. No condition. -/
import Derived.WalkKit
set_option linter.all false
set_option linter.unusedVariables false
set_option linter.unusedSectionVars false
set_option linter.unusedSimpArgs false
namespace Go.Proofs.YtddmnddocbmjnaaGreat.Dv
inductive PT (α : Type) where
  | leaf
  | node (v : Option α) (l r : PT α)
def PT.get {α : Type} : PT α → Nat → Option α
  | .leaf, _ => none
  | .node v l r, n => if n = 0 then v else if n % 2 = 1 then l.get (n / 2) else r.get (n / 2 - 1)
def PT.setF {α : Type} : Nat → PT α → Nat → Option α → PT α
  | 0, t, _, _ => t
  | f + 1, .leaf, n, v => if n = 0 then .node v .leaf .leaf else if n % 2 = 1 then .node none (PT.setF f .leaf (n / 2) v) .leaf else .node none .leaf (PT.setF f .leaf (n / 2 - 1) v)
  | f + 1, .node u l r, n, v => if n = 0 then .node v l r else if n % 2 = 1 then .node u (PT.setF f l (n / 2) v) r else .node u l (PT.setF f r (n / 2 - 1) v)
def PT.set {α : Type} (t : PT α) (n : Nat) (v : Option α) : PT α := PT.setF (n + 1) t n v
theorem PT.get_setF {α : Type} (v : Option α) : ∀ (f : Nat) (t : PT α) (n m : Nat), n < f → (PT.setF f t n v).get m = if n = m then v else t.get m := by
  intro f
  induction f with
  | zero => intro t n m h; omega
  | succ f ih =>
    intro t n m h
    cases t with
    | leaf =>
      unfold PT.setF
      by_cases hn : n = 0
      · subst hn
        simp only [if_true, PT.get]
        by_cases hm : m = 0
        · subst hm; simp
        · rw [if_neg hm]; rw [if_neg (Ne.symm hm)]; split <;> rfl
      · simp only [if_neg hn]
        by_cases h1 : n % 2 = 1
        · simp only [if_pos h1, PT.get]
          by_cases hm : m = 0
          · subst hm; simp [hn]
          · rw [if_neg hm]
            by_cases h2 : m % 2 = 1
            · rw [if_pos h2, ih _ _ _ (by omega)]
              by_cases e : n = m
              · subst e; simp
              · rw [if_neg (by omega), if_neg e]; rfl
            · rw [if_neg h2, if_neg (by omega)]
        · simp only [if_neg h1, PT.get]
          by_cases hm : m = 0
          · subst hm; simp [hn]
          · rw [if_neg hm]
            by_cases h2 : m % 2 = 1
            · rw [if_pos h2, if_neg (by omega)]
            · rw [if_neg h2, ih _ _ _ (by omega)]
              by_cases e : n = m
              · subst e; simp
              · rw [if_neg (by omega), if_neg e]; rfl
    | node u l r =>
      unfold PT.setF
      by_cases hn : n = 0
      · subst hn
        simp only [if_true, PT.get]
        by_cases hm : m = 0
        · subst hm; simp
        · simp only [if_neg hm]; rw [if_neg (Ne.symm hm)]
      · simp only [if_neg hn]
        by_cases h1 : n % 2 = 1
        · simp only [if_pos h1, PT.get]
          by_cases hm : m = 0
          · subst hm; simp [hn]
          · simp only [if_neg hm]
            by_cases h2 : m % 2 = 1
            · simp only [if_pos h2]; rw [ih _ _ _ (by omega)]
              by_cases e : n = m
              · subst e; simp
              · rw [if_neg (by omega), if_neg e]
            · simp only [if_neg h2]; rw [if_neg (by omega)]
        · simp only [if_neg h1, PT.get]
          by_cases hm : m = 0
          · subst hm; simp [hn]
          · simp only [if_neg hm]
            by_cases h2 : m % 2 = 1
            · simp only [if_pos h2]; rw [if_neg (by omega)]
            · simp only [if_neg h2]; rw [ih _ _ _ (by omega)]
              by_cases e : n = m
              · subst e; simp
              · rw [if_neg (by omega), if_neg e]
theorem PT.get_set {α : Type} (t : PT α) (n m : Nat) (v : Option α) : (t.set n v).get m = if n = m then v else t.get m := PT.get_setF v _ _ _ _ (by omega)
@[simp] theorem PT.get_set_same {α : Type} (t : PT α) (n : Nat) (v : Option α) : (t.set n v).get n = v := by rw [PT.get_set, if_pos rfl]
theorem PT.get_set_ne {α : Type} (t : PT α) {n m : Nat} (v : Option α) (h : n ≠ m) : (t.set n v).get m = t.get m := by rw [PT.get_set, if_neg h]
@[simp] theorem PT.get_leaf {α : Type} (n : Nat) : (PT.leaf : PT α).get n = none := rfl
inductive PDV where
  | s (v : Value)
  | agg (l : List PDV)
  | lst (l : List PDV)
  | rp (l : List PDV)
  | clo (fn : Fn) (first caps : List PDV)
  | tup (l : List PDV)
  deriving Inhabited
inductive DV where
  | p (d : PDV)
  | agg (l : List DV)
  | ow (id : Nat) (l : List PDV)
  | nil
  | zc
  | mp (id off : Nat)
  | ms (id off len avail : Nat) (es : Option Nat)
  | mm (id : Nat)
  | clo (fn : Fn) (first caps : List DV)
  | tup (l : List DV)
  | any
  deriving Inhabited
inductive AObj where
  | cells (cs : List DV) (fz : Bool)
  | tip (k : Nat)
  | map (es : List (PDV × DV))
  deriving Inhabited
def scal : Value → Bool
  | .agg _ => false
  | .tuple _ => false
  | _ => true
def PDV.cells : PDV → List PDV
  | .agg l => l
  | d => [d]
def DV.cells : DV → List DV
  | .p (.agg l) => l.map .p
  | .agg l => l
  | d => [d]
def DV.tupB : DV → Bool
  | .p (.tup _) => true
  | .tup _ => true
  | _ => false
def pureL (f : DV → Option PDV) : List DV → Option (List PDV)
  | [] => some []
  | d :: ds => match f d with
    | none => none
    | some x => match pureL f ds with
      | none => none
      | some xs => some (x :: xs)
def pure1 : DV → Option PDV
  | .p d => some d
  | .ow _ l => some (.lst l)
  | .nil => some (.lst [])
  | .zc => some (.lst [])
  | _ => none
def DV.pure : DV → Option PDV
  | .agg l => match pureL pure1 l with
    | some ps => some (.agg ps)
    | none => none
  | d => pure1 d
def plainL : List DV → Option (List PDV)
  | [] => some []
  | .p d :: ds => match plainL ds with
    | none => none
    | some xs => some (d :: xs)
  | _ :: _ => none
def mkAgg (l : List DV) : DV := match plainL l with
  | some ps => .p (.agg ps)
  | none => .agg l
def mkClo (fn : Fn) (first caps : List DV) : DV := match plainL first, plainL caps with
  | some a, some b => .p (.clo fn a b)
  | _, _ => .clo fn first caps
def mkTup (l : List DV) : DV := match plainL l with
  | some ps => .p (.tup ps)
  | none => .tup l
def ofScal (v : Value) : Option DV := match v with
  | .slice none 0 0 => some .nil
  | .slice _ _ _ => none
  | v => if scal v then some (.p (.s v)) else none
def optL {α β : Type} (f : α → Option β) : List α → Option (List β)
  | [] => some []
  | x :: xs => match f x with
    | none => none
    | some y => match optL f xs with
      | none => none
      | some ys => some (y :: ys)
def ofConst (v : Value) : Option DV := match v with
  | .agg cs => match optL ofScal cs.toList with
    | some l => some (mkAgg l)
    | none => none
  | .tuple cs => if cs.size = 0 then some (.p (.tup [])) else none
  | v => ofScal v
def szT (P : Program) (t : TypeId) : Option Nat := (P.info? t).map (·.size)
def byT (P : Program) (t : TypeId) : Option Nat := (P.info? t).map (·.bytes)
def aggT (P : Program) (t : TypeId) : Option Bool := (P.underlying t).map fun | .struct _ => true | .array _ _ => true | _ => false
def elT (P : Program) (t : TypeId) : Option TypeId := match P.underlying t with
  | some (.slice e) => some e
  | _ => none
def fldT (P : Program) (t : TypeId) (f : Nat) : Option (Nat × TypeId) := match P.underlying t with
  | some (.struct fs) => (fs[f]?).map fun g => (g.offset, g.type)
  | _ => none
def zeroT (P : Program) (t : TypeId) : Option (List DV) := match P.info? t with
  | some i => match i.zero with
    | some v => (ofConst v).bind fun d => if d.tupB then none else some d.cells
    | none => none
  | none => none
def esT (P : Program) (e : TypeId) : Option (Option Nat) := match aggT P e, szT P e with
  | some true, some k => if k = 0 then none else some (some k)
  | some false, some 1 => some none
  | _, _ => none
def isCmp : BinOp → Bool
  | .eql | .neq | .lss | .leq | .gtr | .geq => true
  | _ => false
def cmpI (op : BinOp) (a b : Int) : Bool := match op with
  | .eql => a == b
  | .neq => a != b
  | .lss => decide (a < b)
  | .leq => decide (a ≤ b)
  | .gtr => decide (a > b)
  | _ => decide (a ≥ b)
def binI (op : BinOp) (k : IntKind) (a b : Int) : Option Value := match op with
  | .add => some (.int k (k.wrap (a + b)))
  | .sub => some (.int k (k.wrap (a - b)))
  | .mul => some (.int k (k.wrap (a * b)))
  | .quo => if b = 0 then none else some (.int k (k.wrap (a.tdiv b)))
  | .rem => if b = 0 then none else some (.int k (a.tmod b))
  | .and => some (.int k (k.wrap (BitVec.ofInt k.bits a &&& BitVec.ofInt k.bits b).toNat))
  | .or => some (.int k (k.wrap (BitVec.ofInt k.bits a ||| BitVec.ofInt k.bits b).toNat))
  | .xor => some (.int k (k.wrap (BitVec.ofInt k.bits a ^^^ BitVec.ofInt k.bits b).toNat))
  | .andNot => some (.int k (k.wrap (BitVec.ofInt k.bits a &&& ~~~ BitVec.ofInt k.bits b).toNat))
  | op => if isCmp op then some (.bool (cmpI op a b)) else none
def shI (op : BinOp) (k : IntKind) (a b : Int) : Option Value := if b < 0 then none else match op with
  | .shl => some (.int k (k.wrap (a * 2 ^ (min b.toNat k.bits))))
  | .shr => some (.int k (a.fdiv (2 ^ (min b.toNat k.bits))))
  | _ => none
def strCmp (op : BinOp) (a b : ByteArray) : Option Bool := match op with
  | .eql => some (a.toList == b.toList)
  | .neq => some (!(a.toList == b.toList))
  | .lss => some (Op.bytesLess a.toList b.toList)
  | .leq => some (Op.bytesLess a.toList b.toList || a.toList == b.toList)
  | .gtr => some (!(Op.bytesLess a.toList b.toList || a.toList == b.toList))
  | .geq => some (!(Op.bytesLess a.toList b.toList))
  | _ => none
def bin1 (P : Program) (op : BinOp) (t : TypeId) (a b : Value) : Option Value := match a, b with
  | .int k x, .int k' y => if op = .shl ∨ op = .shr then shI op k x y else if k = k' then binI op k x y else none
  | .string x, .string y => if op = .add then (if x.size + y.size ≤ 140737488355328 then some (.string (x ++ y)) else none) else (strCmp op x y).map .bool
  | .bool x, .bool y => match P.underlying t with
    | some .bool => if op = .eql then some (.bool (x == y)) else if op = .neq then some (.bool (!(x == y))) else none
    | _ => none
  | .func _ _ _, .nilFunc => match P.underlying t with
    | some (.func _ _ _) => if op = .eql then some (.bool false) else if op = .neq then some (.bool true) else none
    | _ => none
  | .nilFunc, .nilFunc => match P.underlying t with
    | some (.func _ _ _) => if op = .eql then some (.bool true) else if op = .neq then some (.bool false) else none
    | _ => none
  | .pointer none, .pointer none => match P.underlying t with
    | some (.pointer _) => if op = .eql then some (.bool true) else if op = .neq then some (.bool false) else none
    | _ => none
  | _, _ => none
def flatF (f : TypeId → Option (List Nat)) (P : Program) : List Field → Nat → Option (List Nat)
  | [], _ => some []
  | g :: gs, o => if g.name ≠ "_" ∧ g.offset = o then match f g.type with
    | some ks => if szT P g.type = some ks.length then (flatF f P gs (o + ks.length)).map fun r => ks ++ r else none
    | none => none
    else none
def repN (ks : List Nat) : Nat → List Nat
  | 0 => []
  | n + 1 => ks ++ repN ks n
def flatK (P : Program) : Nat → TypeId → Option (List Nat)
  | 0, _ => none
  | d + 1, t => match P.underlying t with
    | some (.int _) => some [0]
    | some .bool => some [1]
    | some .string => some [2]
    | some (.struct fs) => if P.stoodInHeld t then none else flatF (flatK P d) P fs.toList 0
    | some (.array n e) => match flatK P d e with
      | some ks => if szT P e = some ks.length then some (repN ks n) else none
      | none => none
    | _ => none
def kindsT (P : Program) (t : TypeId) : Option (List Nat) := if 8 ≤ P.depth then flatK P 8 t else none
def eq1 (k : Nat) (a b : PDV) : Option Bool := match k, a, b with
  | 0, .s (.int k x), .s (.int k' y) => if k = k' then some (x == y) else none
  | 1, .s (.bool x), .s (.bool y) => some (x == y)
  | 2, .s (.string x), .s (.string y) => some (x.toList == y.toList)
  | _, _, _ => none
def eqL : List Nat → List PDV → List PDV → Option Bool
  | [], [], [] => some true
  | k :: ks, a :: zas, b :: bs => match eq1 k a b, eqL ks zas bs with
    | some x, some y => some (x && y)
    | _, _ => none
  | _, _, _ => none
def nilOf (P : Program) (t : TypeId) : DV → Option Bool
  | .nil => match P.underlying t with | some (.slice _) => some true | _ => none
  | .ow _ (_ :: _) => match P.underlying t with | some (.slice _) => some false | _ => none
  | .p (.lst (_ :: _)) => match P.underlying t with | some (.slice _) => some false | _ => none
  | .ms _ _ _ _ _ => match P.underlying t with | some (.slice _) => some false | _ => none
  | .mp _ _ => match P.underlying t with | some (.pointer _) => some false | _ => none
  | .p (.rp _) => match P.underlying t with | some (.pointer _) => some false | _ => none
  | .p (.clo _ _ _) => match P.underlying t with | some (.func _ _ _) => some false | _ => none
  | .clo _ _ _ => match P.underlying t with | some (.func _ _ _) => some false | _ => none
  | _ => none
def isNil (P : Program) (t : TypeId) : DV → Bool
  | .nil => match P.underlying t with | some (.slice _) => true | _ => false
  | .p (.s (.pointer none)) => match P.underlying t with | some (.pointer _) => true | _ => false
  | .p (.s .nilFunc) => match P.underlying t with | some (.func _ _ _) => true | _ => false
  | _ => false
def bin (P : Program) (op : BinOp) (t : TypeId) (a b : DV) : Option DV := match a, b with
  | .p (.s x), .p (.s y) => (bin1 P op t x y).map fun v => .p (.s v)
  | .p (.agg x), .p (.agg y) => match kindsT P t, aggT P t with
    | some ks, some true => if op = .eql then (eqL ks x y).map fun r => .p (.s (.bool r)) else if op = .neq then (eqL ks x y).map fun r => .p (.s (.bool (!r))) else none
    | _, _ => none
  | a, b => if isNil P t b then (if op = .eql then (nilOf P t a).map fun r => .p (.s (.bool r)) else if op = .neq then (nilOf P t a).map fun r => .p (.s (.bool (!r))) else none) else none
def un (op : UnOp) (a : DV) : Option DV := match a with
  | .p (.s (.int k n)) => match op with
    | .neg => some (.p (.s (.int k (k.wrap (0 - n)))))
    | .xor => some (.p (.s (.int k (k.wrap (BitVec.ofInt k.bits (if k.signed then -1 else k.max) ^^^ BitVec.ofInt k.bits n).toNat))))
    | _ => none
  | .p (.s (.bool b)) => if op = .not then some (.p (.s (.bool (!b)))) else none
  | _ => none
def conv (P : Program) (src dst : TypeId) (a : DV) : Option DV := match P.underlying src, P.underlying dst, a with
  | some _, some (.int k), .p (.s (.int _ n)) => some (.p (.s (.int k (k.wrap n))))
  | some _, some .string, .p (.s (.string s)) => some (.p (.s (.string s)))
  | _, _, _ => none
def asI : DV → Option (IntKind × Int)
  | .p (.s (.int k n)) => some (k, n)
  | _ => none
def asB : DV → Option Bool
  | .p (.s (.bool b)) => some b
  | _ => none
def chunk (k : Nat) : Nat → List PDV → List PDV
  | 0, _ => []
  | n + 1, l => .agg (l.take k) :: chunk k n (l.drop k)
def snapL (f : DV → Option (PDV × List Nat)) : List DV → Option (List PDV × List Nat)
  | [] => some ([], [])
  | d :: ds => match f d with
    | none => none
    | some (x, r) => match snapL f ds with
      | none => none
      | some (xs, rs) => some (x :: xs, r ++ rs)
def snapF (h : PT AObj) : Nat → DV → Option (PDV × List Nat)
  | 0, _ => none
  | _ + 1, .p d => some (d, [])
  | _ + 1, .ow _ l => some (.lst l, [])
  | _ + 1, .nil => some (.lst [], [])
  | _ + 1, .zc => some (.lst [], [])
  | n + 1, .agg l => (snapL (snapF h n) l).map fun r => (.agg r.1, r.2)
  | n + 1, .tup l => (snapL (snapF h n) l).map fun r => (.tup r.1, r.2)
  | n + 1, .clo fn a b => match snapL (snapF h n) a, snapL (snapF h n) b with
    | some (x, r), some (y, q) => some (.clo fn x y, r ++ q)
    | _, _ => none
  | n + 1, .mp id off => match h.get id with
    | some (.cells cs _) => (snapL (snapF h n) (cs.drop off)).map fun r => (.rp r.1, id :: r.2)
    | _ => none
  | n + 1, .ms id off len _ es => match h.get id with
    | some (.cells cs _) => (snapL (snapF h n) ((cs.drop off).take (len * es.getD 1))).bind fun r =>
        if 0 < es.getD 1 ∧ r.1.length = len * es.getD 1 then some (.lst (match es with | none => r.1 | some k => chunk k len r.1), id :: r.2) else none
    | _ => none
  | _ + 1, .mm _ => none
  | _ + 1, .any => none
def snap (h : PT AObj) (d : DV) : Option (PDV × List Nat) := snapF h 40 d
def snaps (h : PT AObj) (l : List DV) : Option (List PDV × List Nat) := snapL (snap h) l
@[simp] theorem snap_p (h : PT AObj) (d : PDV) : snap h (.p d) = some (d, []) := rfl
@[simp] theorem snap_ow (h : PT AObj) (i : Nat) (l : List PDV) : snap h (.ow i l) = some (.lst l, []) := rfl
@[simp] theorem snap_nil (h : PT AObj) : snap h .nil = some (.lst [], []) := rfl
@[simp] theorem snap_zc (h : PT AObj) : snap h .zc = some (.lst [], []) := rfl
mutual
def PDV.ref : PDV → Bool
  | .s _ => false
  | .agg l => PDV.refL l
  | .tup l => PDV.refL l
  | .lst l => !l.isEmpty
  | .rp _ => true
  | .clo _ a b => PDV.refL a || PDV.refL b
def PDV.refL : List PDV → Bool
  | [] => false
  | d :: ds => d.ref || PDV.refL ds
end
end Go.Proofs.YtddmnddocbmjnaaGreat.Dv
namespace Go.Proofs.YtddmnddocbmjnaaGreat.Dv
inductive Mode where
  | pure | ownT | ownA | ref | ext
  deriving DecidableEq, Inhabited
structure Eff where
  dv : DV
  rd : List Nat := []
  up : List (Nat × Option AObj) := []
abbrev ExtF := List DV → PT AObj → Nat → Option Eff
structure Cfg where
  mode : FuncId → FuncId → Mode
  arr : FuncId → Bool
  ext : FuncId → Option ExtF
abbrev CallF := FuncId → List DV → PT AObj → Nat → Option (DV × PT AObj × Nat)
def ev (t : PT DV) : Operand → Option DV
  | .tmp i => some ((t.get i).getD (.p (.tup [])))
  | .const v => ofConst v
  | .func f => some (.p (.s (.func (.func f) #[] #[])))
  | .global _ => none
def evs (t : PT DV) (l : List Operand) : Option (List DV) := optL (ev t) l
def okE (dv : DV) : Option Eff := some { dv := dv }
def setAt {α : Type} (cs : List α) (off : Nat) (xs : List α) : List α := cs.take off ++ xs ++ cs.drop (off + xs.length)
def flatC (l : List PDV) : List DV := (l.flatMap PDV.cells).map .p
def szOk (k : Nat) (l : List PDV) : Bool := l.all fun d => d.cells.length == k
def esK (es : Option Nat) : Nat := es.getD 1
def elems (es : Option Nat) (n : Nat) (l : List PDV) : List PDV := match es with
  | none => l
  | some k => chunk k n l
def unitE : Option Eff := some { dv := .p (.tup []) }
def ld (P : Program) (ty : TypeId) (a : DV) (h : PT AObj) : Option Eff := match aggT P ty, szT P ty with
  | some g, some k => match a with
    | .p (.rp ds) => if g then (if k ≤ ds.length then some { dv := .p (.agg (ds.take k)) } else none) else match ds with
      | d :: _ => some { dv := .p d }
      | [] => none
    | .mp i off => match h.get i with
      | some (.cells cs _) => if g then (if off + k ≤ cs.length then some { dv := mkAgg ((cs.drop off).take k), rd := [i] } else none) else match cs[off]? with
        | some d => some { dv := d, rd := [i] }
        | none => none
      | _ => none
    | _ => none
  | _, _ => none
def sto (P : Program) (ty : TypeId) (a x : DV) (h : PT AObj) : Option Eff := match szT P ty, a with
  | some k, .mp i off => match h.get i with
    | some (.cells cs false) => if x.tupB = false ∧ x.cells.length = k ∧ off + k ≤ cs.length then some { dv := .p (.tup []), rd := [i], up := [(i, some (.cells (setAt cs off x.cells) false))] } else none
    | _ => none
  | _, _ => none
def lay (place : Nat → Option (Nat × Nat)) (cs : List DV) : List (Nat × DV) → Option (List DV)
  | [] => some cs
  | (i, v) :: r => match place i with
    | some (off, k) => if v.tupB = false ∧ v.cells.length = k ∧ off + k ≤ cs.length then lay place (setAt cs off v.cells) r else none
    | none => none
def evp (t : PT DV) (l : List (Nat × Operand)) : Option (List (Nat × DV)) := optL (fun x => (ev t x.2).map fun d => (x.1, d)) l
def plT (P : Program) (t : TypeId) : Option (List (Nat × Nat)) := match P.underlying t with
  | some (.struct fs) => fs.toList.mapM fun f => (P.info? f.type).map fun i => (f.offset, i.size)
  | _ => none
def bld (P : Program) (ty : TypeId) (parts : List (Nat × DV)) : Option DV := match zeroT P ty, P.underlying ty with
  | some z, some (.struct _) => match plT P ty with
    | some pl => (lay (fun i => pl[i]?) z parts).map mkAgg
    | none => none
  | some z, some (.array _ e) => match szT P e with
    | some k => (lay (fun i => some (i * k, k)) z parts).map mkAgg
    | none => none
  | _, _ => none
def fresh (arr : Bool) (es : Option Nat) (n : Nat) (cs : List DV) (id : Nat) (rd : List Nat) : Eff :=
  match arr, plainL cs with
  | false, some ps => { dv := .ow id (elems es n ps), rd := rd, up := [(id, some (.tip (esK es)))] }
  | _, _ => { dv := .ms id 0 n n es, rd := rd, up := [(id, some (.cells cs false))] }
def bldS (P : Program) (arr : Bool) (ty : TypeId) (n : Nat) (parts : List (Nat × DV)) (id : Nat) : Option Eff := match elT P ty with
  | some e => match esT P e with
    | some es => if parts.map (·.1) = List.range n ∧ parts.all (fun x => x.2.cells.length == esK es && !x.2.tupB) ∧ n * esK es ≤ 16777216 ∧ (zeroT P e).isSome = true then some (fresh arr es n (parts.flatMap fun x => x.2.cells) id []) else none
    | none => none
  | none => none
def src (h : PT AObj) (k : Nat) : DV → Option (List DV × Nat × List Nat)
  | .nil => some ([], 0, [])
  | .zc => some ([], 0, [])
  | .p (.lst l) => if szOk k l then some (flatC l, l.length, []) else none
  | .ow _ l => if szOk k l then some (flatC l, l.length, []) else none
  | .ms i off n _ es => match h.get i with
    | some (.cells cs _) => if esK es = k ∧ off + n * k ≤ cs.length then some ((cs.drop off).take (n * k), n, [i]) else none
    | _ => none
  | .p (.s (.string s)) => if k = 1 then some (s.data.toList.map fun b => .p (.s (.int .u8 b.toNat)), s.size, []) else none
  | _ => none
def zeros (z : List DV) : Nat → List DV
  | 0 => []
  | n + 1 => z ++ zeros z n
def moreD (P : Program) (tx e : TypeId) (k by_ : Nat) (x : DV) (h : PT AObj) : Option (List DV × Nat × List Nat) := match P.underlying tx, x with
  | some (.int _), .p (.s (.int _ n)) => if 0 ≤ n ∧ n ≤ 1048576 ∧ n.toNat * by_ ≤ 1099511627776 then (zeroT P e).map fun z => (zeros z n.toNat, n.toNat, []) else none
  | some (.slice _), x => src h k x
  | some .string, x => src h k x
  | _, _ => none
def app (P : Program) (arr : Bool) (ts : List TypeId) (a x : DV) (h : PT AObj) (id : Nat) : Option Eff := match ts with
  | t :: tx :: _ => match elT P t with
    | some e => match esT P e, byT P e with
      | some es, some by_ => if (zeroT P e).map List.length = some (esK es) ∧ 0 < by_ then
        match moreD P tx e (esK es) by_ x h with
        | none => none
        | some (cs, n, rd) => match a with
          | .nil => if n = 0 then some { dv := a, rd := rd } else if n * by_ ≤ 70368744177664 then some (fresh arr es n cs id rd) else none
          | .zc => if n = 0 then some { dv := a, rd := rd } else if n * by_ ≤ 70368744177664 then some (fresh arr es n cs id rd) else none
          | .ow i l => if n = 0 then some { dv := a, rd := rd } else match h.get i, plainL cs with
            | some (.tip k), some ps => if (l.length + n) * by_ ≤ 70368744177664 ∧ k = esK es then some { dv := .ow id (l ++ elems es n ps), rd := i :: rd, up := [(i, none), (id, some (.tip k))] } else none
            | _, _ => none
          | .ms i off len av es' => if es' = es then (match h.get i with
            | some (.cells c false) =>
              if len + n ≤ av then (if off + (len + n) * esK es ≤ c.length then some { dv := .ms i off (len + n) av es, rd := i :: rd, up := [(i, some (.cells (setAt c (off + len * esK es) cs) false))] } else none)
              else if (len + n) * by_ ≤ 70368744177664 ∧ off + len * esK es ≤ c.length then some { dv := .ms id 0 (len + n) (len + n) es, rd := i :: rd, up := [(i, none), (id, some (.cells ((c.drop off).take (len * esK es) ++ cs) false))] } else none
            | _ => none) else none
          | _ => none
        else none
      | _, _ => none
    | none => none
  | _ => none
def lenD (P : Program) (t : TypeId) (x : DV) (h : PT AObj) : Option (Nat × List Nat) := match P.underlying t, x with
  | some .string, .p (.s (.string s)) => some (s.size, [])
  | some (.slice _), .nil => some (0, [])
  | some (.slice _), .zc => some (0, [])
  | some (.slice _), .p (.lst l) => some (l.length, [])
  | some (.slice _), .ow _ l => some (l.length, [])
  | some (.slice _), .ms _ _ n _ _ => some (n, [])
  | some (.array n _), _ => some (n, [])
  | some (.map _ _), .mm i => match h.get i with
    | some (.map es) => some (es.length, [i])
    | _ => none
  | _, _ => none
def mxI (mx : Bool) (a b : DV) : Option DV := match a, b with
  | .p (.s (.int k x)), .p (.s (.int _ y)) => some (.p (.s (.int k (if mx then (if y > x then y else x) else (if y < x then y else x)))))
  | _, _ => none
def foldO {α β : Type} (f : β → α → Option β) : β → List α → Option β
  | b, [] => some b
  | b, x :: xs => match f b x with
    | some c => foldO f c xs
    | none => none
def clr (P : Program) (t : TypeId) (x : DV) (h : PT AObj) : Option Eff := match P.underlying t, x with
  | some (.slice _), .nil => unitE
  | some (.slice _), .zc => unitE
  | some (.slice _), .p (.lst []) => unitE
  | some (.slice _), .ms i off 0 _ _ => unitE
  | some (.slice e), .ms i off n _ es => match zeroT P e, h.get i with
    | some z, some (.cells c false) => if z.length = esK es ∧ 0 < esK es ∧ off + n * esK es ≤ c.length then some { dv := .p (.tup []), rd := [i], up := [(i, some (.cells (setAt c off (zeros z n)) false))] } else none
    | _, _ => none
  | _, _ => none
def bnd (d : Nat) : Option DV → Option Nat
  | none => some d
  | some x => match asI x with
    | some (_, n) => if 0 ≤ n then some n.toNat else none
    | none => none
def lenAv : DV → Option (Nat × Nat)
  | .nil => some (0, 0)
  | .zc => some (0, 0)
  | .p (.lst l) => some (l.length, l.length)
  | .ow _ l => some (l.length, l.length)
  | .ms _ _ n av _ => some (n, av)
  | _ => none
def cut (k l r : Nat) : DV → Option DV
  | .nil => some .nil
  | .zc => some .zc
  | .p (.lst xs) => if l = 0 ∨ szOk k xs = true then some (.p (.lst ((xs.drop l).take (r - l)))) else none
  | .ow i xs => if l = 0 ∧ r = xs.length then some (.ow i xs) else if l = 0 ∨ szOk k xs = true then some (.p (.lst ((xs.drop l).take (r - l)))) else none
  | .ms i off _ av es => if l = 0 then some (.ms i off r av es) else if l < av then (if k = esK es then some (.ms i (off + l * esK es) (r - l) (av - l) es) else none) else some (.p (.lst []))
  | _ => none
def slc (P : Program) (t : TypeId) (x : DV) (lo hi mx : Option DV) : Option DV := match P.underlying t, x with
  | some .string, .p (.s (.string s)) => if mx.isSome then none else match bnd 0 lo, bnd s.size hi with
    | some l, some r => if l ≤ r ∧ r ≤ s.size then some (.p (.s (.string (s.extract l r)))) else none
    | _, _ => none
  | some (.slice e), x => match szT P e with
    | none => none
    | some k => match lenAv x with
      | none => none
      | some (n, av) => match bnd 0 lo, bnd n hi, mx with
        | some l, some r, none => if l ≤ r ∧ r ≤ av then cut k l r x else none
        | some l, some r, some m => if hi.isSome = true ∧ l = 0 ∧ r = 0 ∧ (asI m).map (·.2) = some 0 then (match x with
            | .nil => some .nil
            | _ => some .zc) else none
        | _, _, _ => none
  | _, _ => none
def fadr (P : Program) (s : TypeId) (x : DV) (f : Nat) : Option DV := match fldT P s f with
  | some (off, ft) => match szT P ft with
    | some 0 => none
    | some _ => match x with
      | .p (.rp ds) => if off ≤ ds.length then some (.p (.rp (ds.drop off))) else none
      | .mp i o => some (.mp i (o + off))
      | _ => none
    | none => none
  | none => none
def iadr (P : Program) (t : TypeId) (x ix : DV) : Option DV := match asI ix with
  | some (_, i) => if i < 0 then none else match P.underlying t with
    | some (.slice e) => match x with
      | .p (.lst l) => (l[i.toNat]?).bind fun d => if szT P e = some d.cells.length then some (.p (.rp d.cells)) else none
      | .ow _ l => (l[i.toNat]?).bind fun d => if szT P e = some d.cells.length then some (.p (.rp d.cells)) else none
      | .ms id off n _ es => if i.toNat < n ∧ szT P e = some (esK es) then some (.mp id (off + i.toNat * esK es)) else none
      | _ => none
    | some (.array n e) => if i.toNat < n then (match szT P e, x with
      | some k, .p (.rp ds) => if i.toNat * k ≤ ds.length then some (.p (.rp (ds.drop (i.toNat * k)))) else none
      | some k, .mp id o => some (.mp id (o + i.toNat * k))
      | _, _ => none) else none
    | _ => none
  | none => none
def prt (P : Program) (t : TypeId) (cs : List DV) (off : Nat) : Option DV := match aggT P t, szT P t with
  | some true, some k => if off + k ≤ cs.length then some (mkAgg ((cs.drop off).take k)) else none
  | some false, some _ => cs[off]?
  | _, _ => none
def aggC : DV → Option (List DV)
  | .p (.agg l) => some (l.map .p)
  | .agg l => some l
  | _ => none
def fld (P : Program) (s : TypeId) (x : DV) (f : Nat) : Option DV := match fldT P s f, aggC x with
  | some (off, ft), some cs => prt P ft cs off
  | _, _ => none
def idx (P : Program) (t : TypeId) (x ix : DV) : Option DV := match asI ix with
  | some (_, i) => if i < 0 then none else match P.underlying t, x with
    | some .string, .p (.s (.string s)) => (s[i.toNat]?).map fun b => .p (.s (.int .u8 b.toNat))
    | some (.array n e), x => if i.toNat < n then (match szT P e, aggC x with
      | some k, some cs => prt P e cs (i.toNat * k)
      | _, _ => none) else none
    | _, _ => none
  | none => none
def eqK (ks : List Nat) (a b : PDV) : Option Bool := match a, b with
  | .agg x, .agg y => eqL ks x y
  | .s x, .s y => eqL ks [.s x] [.s y]
  | _, _ => none
def keyOk (P : Program) (t : TypeId) (k : PDV) : Bool := match aggT P t, k with
  | some true, .agg _ => true
  | some false, .s _ => true
  | _, _ => false
def findK (ks : List Nat) (k : PDV) : List (PDV × DV) → Nat → Option (Option (Nat × DV))
  | [], _ => some none
  | e :: es, i => match eqK ks k e.1, findK ks k es (i + 1) with
    | some false, r => r
    | some true, some none => some (some (i, e.2))
    | _, _ => none
def mapT (P : Program) (t : TypeId) : Option (TypeId × TypeId × List Nat) := match P.underlying t with
  | some (.map k e) => (kindsT P k).map fun ks => (k, e, ks)
  | _ => none
def zeroD (P : Program) (t : TypeId) : Option DV := match P.info? t with
  | some i => match i.zero with
    | some v => ofConst v
    | none => none
  | none => none
def lkp (P : Program) (t : TypeId) (x key : DV) (ok : Bool) (h : PT AObj) : Option Eff := match mapT P t, x, key with
  | some (kt, e, ks), .mm i, .p k => if keyOk P kt k = true ∧ (eqK ks k k).isSome = true then match h.get i with
    | some (.map es) => match findK ks k es 0 with
      | some (some (_, v)) => some { dv := if ok then mkTup [v, .p (.s (.bool true))] else v, rd := [i] }
      | some none => match zeroD P e with
        | some d => some { dv := if ok then mkTup [d, .p (.s (.bool false))] else d, rd := [i] }
        | none => none
      | none => none
    | _ => none
    else none
  | _, _, _ => none
def mup (P : Program) (t : TypeId) (x key v : DV) (h : PT AObj) : Option Eff := match mapT P t, x, key with
  | some (kt, e, ks), .mm i, .p k => if keyOk P kt k = true ∧ (eqK ks k k).isSome = true then match h.get i with
    | some (.map es) => match findK ks k es 0 with
      | some (some (j, _)) => some { dv := .p (.tup []), rd := [i], up := [(i, some (.map (es.set j (k, v))))] }
      | some none => some { dv := .p (.tup []), rd := [i], up := [(i, some (.map (es ++ [(k, v)])))] }
      | none => none
    | _ => none
    else none
  | _, _, _ => none
def xtr (x : DV) (i : Nat) : Option DV := match x with
  | .p (.tup l) => (l[i]?).map .p
  | .tup l => l[i]?
  | _ => none
def builtinD (P : Program) (arr : Bool) (b : Builtin) (ts : List TypeId) (zas : List DV) (h : PT AObj) (id : Nat) : Option Eff := match b with
  | .len => match ts, zas with
    | t :: _, x :: _ => (lenD P t x h).map fun r => { dv := .p (.s (.int .i64 r.1)), rd := r.2 }
    | _, _ => none
  | .cap => match ts, zas with
    | t :: _, x :: _ => match P.underlying t, x with
      | some (.slice _), .nil => okE (.p (.s (.int .i64 0)))
      | some (.slice _), .zc => okE (.p (.s (.int .i64 0)))
      | _, _ => none
    | _, _ => none
  | .append => match zas with
    | a :: x :: _ => app P arr ts a x h id
    | _ => none
  | .max => match zas with
    | x :: xs => (foldO (mxI true) x xs).bind okE
    | [] => none
  | .min => match zas with
    | x :: xs => (foldO (mxI false) x xs).bind okE
    | [] => none
  | .clear => match ts, zas with
    | t :: _, x :: _ => clr P t x h
    | _, _ => none
  | _ => none
def target (f : DV) (zas : List DV) : Option (FuncId × List DV) := match f with
  | .p (.s (.func (.func g) fi ca)) => if fi.size = 0 ∧ ca.size = 0 then some (g, zas) else none
  | .p (.clo (.func g) fi ca) => some (g, fi.map .p ++ zas ++ ca.map .p)
  | .clo (.func g) fi ca => some (g, fi ++ zas ++ ca)
  | _ => none
def callable (P : Program) (g : FuncId) : Bool := match P.funcs[g]? with
  | some fn => fn.name != "runtime.NumGoroutine" && fn.body.isSome
  | none => false
def freeze (h : PT AObj) : List Nat → List (Nat × Option AObj)
  | [] => []
  | i :: is => match h.get i with
    | some (.cells cs _) => (i, some (.cells cs true)) :: freeze h is
    | _ => freeze h is
def own (arr : Bool) (h1 : PT AObj) (r : DV) (id : Nat) (rd : List Nat) (fz : List (Nat × Option AObj)) : Option Eff := match r with
  | .nil => some { dv := .nil, rd := rd, up := fz }
  | .zc => some { dv := .zc, rd := rd, up := fz }
  | .ow i l => match h1.get i with
    | some (.tip k) => if arr then match l with
        | [] => none
        | d :: _ => if PDV.refL (l.flatMap PDV.cells) then none else match d with
          | .agg _ => some { dv := .ms id 0 l.length l.length (some k), rd := rd, up := fz ++ [(id, some (.cells (flatC l) false))] }
          | _ => if k = 1 then some { dv := .ms id 0 l.length l.length none, rd := rd, up := fz ++ [(id, some (.cells (flatC l) false))] } else none
      else some { dv := .ow id l, rd := rd, up := fz ++ [(id, some (.tip k))] }
    | _ => none
  | .ms i 0 n av es => match h1.get i with
    | some (.cells cs false) => match snaps h1 cs with
      | some (ps, rd1) => if rd1.contains i then none else some { dv := .ms id 0 n av es, rd := rd, up := fz ++ [(id, some (.cells (ps.map .p) false))] }
      | none => none
    | _ => none
  | _ => none
def callE (md : Mode) (cl : CallF) (g : FuncId) (zas : List DV) (h : PT AObj) (id : Nat) : Option Eff := match snaps h zas with
  | none => none
  | some (ps, rd) => match cl g (ps.map .p) .leaf 0 with
    | none => none
    | some (r, h1, _) => match md with
      | .pure => match snap h1 r with
        | some (q, _) => some { dv := .p q, rd := rd, up := if q.ref then freeze h rd else [] }
        | none => none
      | .ownT => own false h1 r id rd (freeze h rd)
      | .ownA => own true h1 r id rd (freeze h rd)
      | _ => none
def opE (P : Program) (G : Cfg) (fn : FuncId) (cl : CallF) (o : Op) (t : PT DV) (h : PT AObj) (id : Nat) : Option Eff := match o with
  | .move x => (ev t x).bind okE
  | .assign x => (ev t x).bind okE
  | .pick c a b => match (ev t c).bind asB, ev t a, ev t b with
    | some true, some x, some _ => okE x
    | some false, some _, some y => okE y
    | _, _, _ => none
  | .alloc e => (zeroT P e).bind fun z => some { dv := .mp id 0, up := [(id, some (.cells z false))] }
  | .box e x => (ev t x).bind fun v => if v.tupB then none else some { dv := .mp id 0, up := [(id, some (.cells v.cells false))] }
  | .build ty ps => ((evp t ps.toList).bind (bld P ty)).bind okE
  | .buildSlice ty n ps => (evp t ps.toList).bind fun l => bldS P (G.arr fn) ty n l id
  | .load ty a => (ev t a).bind fun x => ld P ty x h
  | .store ty a x => match ev t a, ev t x with
    | some p, some v => sto P ty p v h
    | _, _ => none
  | .nilCheck x => match ev t x with
    | some (.mp i o) => okE (.mp i o)
    | some (.p (.rp l)) => okE (.p (.rp l))
    | _ => none
  | .binOp op ty x y _ => match ev t x, ev t y with
    | some a, some b => (bin P op ty a b).bind okE
    | _, _ => none
  | .unOp op _ x => ((ev t x).bind (un op)).bind okE
  | .convert s d x => ((ev t x).bind (conv P s d)).bind okE
  | .makeFunc f fi ca => match evs t fi.toList, evs t ca.toList with
    | some a, some b => okE (mkClo f a b)
    | _, _ => none
  | .makeMap _ none => some { dv := .mm id, up := [(id, some (.map []))] }
  | .makeSlice ty l c => match (ev t l).bind asI, (ev t c).bind asI, elT P ty with
    | some (_, n), some (_, m), some e => match esT P e, zeroT P e, byT P e with
      | some es, some z, some by_ => if 0 ≤ n ∧ n ≤ m ∧ m ≤ 1048576 ∧ m.toNat * by_ ≤ 1099511627776 ∧ z.length = esK es then some { dv := .ms id 0 n.toNat m.toNat es, up := [(id, some (.cells (zeros z m.toNat) false))] } else none
      | _, _, _ => none
    | _, _, _ => none
  | .slice ty x lo hi mx => match ev t x, optL (ev t) lo.toList, optL (ev t) hi.toList, optL (ev t) mx.toList with
    | some a, some l, some r, some m => (slc P ty a l.head? r.head? m.head?).bind okE
    | _, _, _, _ => none
  | .fieldAddr s x f => ((ev t x).bind fun a => fadr P s a f).bind okE
  | .field s x f => ((ev t x).bind fun a => fld P s a f).bind okE
  | .indexAddr ty x i => match ev t x, ev t i with
    | some a, some b => (iadr P ty a b).bind okE
    | _, _ => none
  | .index ty x i => match ev t x, ev t i with
    | some a, some b => (idx P ty a b).bind okE
    | _, _ => none
  | .lookup ty x k ok => match ev t x, ev t k with
    | some a, some b => lkp P ty a b ok h
    | _, _ => none
  | .mapUpdate ty m k x => match ev t m, ev t k, ev t x with
    | some a, some b, some c => mup P ty a b c h
    | _, _, _ => none
  | .insert ty m k x => match ev t m, ev t k, ev t x with
    | some a, some b, some c => mup P ty a b c h
    | _, _, _ => none
  | .extract x i => ((ev t x).bind fun a => xtr a i).bind okE
  | .call c => match c.callee with
    | .builtin b => (evs t c.args.toList).bind fun zas => builtinD P (G.arr fn) b c.argTypes.toList zas h id
    | .value f => match ev t f, evs t c.args.toList with
      | some fv, some zas => match target fv zas with
        | some (g, xs) => if callable P g then (match G.mode fn g with
          | .ext => match G.ext g with
            | some F => F xs h id
            | none => none
          | .ref => none
          | md => callE md cl g xs h id) else none
        | none => none
      | _, _ => none
    | .invoke _ _ => none
  | _ => none
structure St where
  t : PT DV
  h : PT AObj
  nx : Nat
structure Log where
  ran : Bool := false
  big : Bool := false
  rd : List Nat := []
  wr : List Nat := []
def applyUp (h : PT AObj) : List (Nat × Option AObj) → PT AObj
  | [] => h
  | u :: us => applyUp (h.set u.1 u.2) us
def putD (t : PT DV) (d : Option Tmp) (v : DV) : PT DV := match d with
  | some i => t.set i (some v)
  | none => t
def wantD (ops : Array Oper) (t : PT DV) (o : Oper) : Option Bool := match o.guard with
  | none => some true
  | some (j, w) => match (ops[j]?).bind (·.dst) with
    | none => some false
    | some d => match t.get d with
      | some (.p (.s (.bool b))) => some (b == w)
      | some (.p (.tup [])) => some false
      | _ => none
def refCall (P : Program) (G : Cfg) (fn : FuncId) (o : Op) (t : PT DV) : Option (FuncId × List DV) := match o with
  | .call c => match c.callee with
    | .value f => match ev t f, evs t c.args.toList with
      | some fv, some zas => match target fv zas with
        | some (g, xs) => if G.mode fn g = .ref ∧ callable P g then some (g, xs) else none
        | none => none
      | _, _ => none
    | _ => none
  | _ => none
def stepD (P : Program) (G : Cfg) (fn : FuncId) (cl : CallF) (o : Oper) (id : Nat) (s : St) : Option (St × Log) :=
  match refCall P G fn o.op s.t with
  | some (g, xs) => match cl g xs s.h s.nx with
    | some (r, h', n') => some (⟨putD s.t o.dst r, h', n'⟩, { ran := true, big := true })
    | none => none
  | none => match opE P G fn cl o.op s.t s.h id with
    | some e => some (⟨putD s.t o.dst e.dv, applyUp s.h e.up, s.nx⟩, { ran := true, rd := e.rd, wr := e.up.map (·.1) })
    | none => none
def runOps (P : Program) (G : Cfg) (fn : FuncId) (cl : CallF) (ops : Array Oper) : Nat → List Oper → St → Option (St × List Log)
  | _, [], s => some (s, [])
  | id, o :: os, s => match wantD ops s.t o with
    | some true => match stepD P G fn cl o id s with
      | some (s', lg) => match runOps P G fn cl ops (id + 1) os s' with
        | some (s2, ls) => some (s2, lg :: ls)
        | none => none
      | none => none
    | some false => match runOps P G fn cl ops (id + 1) os { s with t := putD s.t o.dst (.p (.tup [])) } with
      | some (s2, ls) => some (s2, {} :: ls)
      | none => none
    | none => none
def meets (a b : List Nat) : Bool := a.any fun x => b.contains x
def clash (a b : Log) : Bool := a.ran && b.ran && (a.big || b.big || meets a.wr b.rd || meets a.wr b.wr || meets a.rd b.wr)
def indepAux (before : Array Nat) (la : Log) (i : Nat) : Nat → List Log → Bool
  | _, [] => true
  | j, lb :: ls => ((before.getD j 0).testBit i || !clash la lb) && indepAux before la i (j + 1) ls
def indep (before : Array Nat) : Nat → List Log → Bool
  | _, [] => true
  | i, l :: ls => indepAux before l i (i + 1) ls && indep before (i + 1) ls
inductive DX where
  | normal
  | exit (id : Nat)
  | ret
  deriving DecidableEq, Inhabited
def iter (f : St → Option (DX × St)) : Nat → St → Option (DX × St)
  | 0, _ => none
  | n + 1, s => match f s with
    | some (.normal, s') => iter f n s'
    | r => r
def exec (P : Program) (G : Cfg) (fn : FuncId) (cl : CallF) (k : Nat) : Code → St → Option (DX × St)
  | .skip, s => some (.normal, s)
  | .region _ ops draw, s => match runOps P G fn cl ops s.nx ops.toList { s with nx := s.nx + ops.size } with
    | some (s', ls) => if draw && !indep (Region.before ops) 0 ls then none else some (.normal, s')
    | none => none
  | .seq a b, s => match exec P G fn cl k a s with
    | some (.normal, s') => exec P G fn cl k b s'
    | r => r
  | .cond c a b, s => match (ev s.t c).bind asB with
    | some true => exec P G fn cl k a s
    | some false => exec P G fn cl k b s
    | none => none
  | .block id c, s => match exec P G fn cl k c s with
    | some (.exit j, s') => if j = id then some (.normal, s') else some (.exit j, s')
    | r => r
  | .loop c, s => iter (exec P G fn cl k c) k s
  | .exit id, s => some (.exit id, s)
  | .ret, s => some (.ret, s)
  | _, _ => none
def argsT : Nat → List DV → PT DV → PT DV
  | _, [], t => t
  | i, d :: ds, t => argsT (i + 1) ds (t.set i (some d))
def resD (P : Program) (r : ResultVar) (s : St) : Option DV := match r with
  | .tmp i => some ((s.t.get i).getD (.p (.tup [])))
  | .cell a ty => match s.t.get a with
    | some x => (ld P ty x s.h).map (·.dv)
    | none => none
def results (P : Program) (rs : List ResultVar) (s : St) : Option DV := match rs with
  | [r] => resD P r s
  | rs => (optL (fun r => resD P r s) rs).map mkTup
def call (P : Program) (G : Cfg) : Nat → CallF
  | 0 => fun _ _ _ _ => none
  | k + 1 => fun f zas h nx => match P.funcs[f]? with
    | none => none
    | some fn => match fn.body with
      | none => none
      | some c => if zas.length ≤ fn.ntmps then (match exec P G f (call P G k) k c ⟨argsT 0 zas .leaf, h, nx⟩ with
        | some (.normal, s) => (results P fn.results.toList s).map fun r => (r, s.h, s.nx)
        | some (.ret, s) => (results P fn.results.toList s).map fun r => (r, s.h, s.nx)
        | _ => none) else none
def callP (P : Program) (G : Cfg) (k : Nat) (f : FuncId) (zas : List PDV) : Option PDV := match call P G k f (zas.map .p) .leaf 0 with
  | some (r, h, _) => (snap h r).map (·.1)
  | none => none
end Go.Proofs.YtddmnddocbmjnaaGreat.Dv
namespace Go.Proofs.YtddmnddocbmjnaaGreat.Dv
open Go.RowKit
def notTup : Value → Bool
  | .tuple _ => false
  | _ => true
mutual
def PRep (F : Addr → Value → Prop) : PDV → Value → Prop
  | .s v, x => x = v ∧ scal v = true
  | .agg l, x => ∃ xs : List Value, x = .agg xs.toArray ∧ PRepL F l xs
  | .tup l, x => ∃ xs : List Value, x = .tuple xs.toArray ∧ PRepT F l xs
  | .lst l, x => ∃ (a : Option Addr) (c sz : Nat), x = .slice a l.length c ∧ l.length ≤ c ∧ (a = none → c = 0) ∧ PRepE F sz a 0 l
  | .rp l, x => ∃ (a : Addr) (xs : List Value), x = .pointer (some a) ∧ PRepL F l xs ∧ ∀ j v, xs[j]? = some v → F (a.add j) v
  | .clo fn fi ca, x => ∃ f c : List Value, x = .func fn f.toArray c.toArray ∧ PRepT F fi f ∧ PRepT F ca c
def PRepL (F : Addr → Value → Prop) : List PDV → List Value → Prop
  | [], xs => xs = []
  | d :: ds, xs => ∃ y ys, xs = y :: ys ∧ scal y = true ∧ PRep F d y ∧ PRepL F ds ys
def PRepT (F : Addr → Value → Prop) : List PDV → List Value → Prop
  | [], xs => xs = []
  | d :: ds, xs => ∃ y ys, xs = y :: ys ∧ PRep F d y ∧ PRepT F ds ys
def PRepE (F : Addr → Value → Prop) (sz : Nat) (a : Option Addr) : Nat → List PDV → Prop
  | _, [] => True
  | o, d :: ds => (∃ ad y, a = some ad ∧ PRep F d y ∧ notTup y = true ∧ y.cells.size = sz ∧ ∀ j v, y.cells[j]? = some v → F (ad.add (o + j)) v) ∧ PRepE F sz a (o + sz) ds
end
section
variable {F G : Addr → Value → Prop} (hm : ∀ a v, F a v → G a v)
include hm
mutual
theorem PRep.mono : ∀ (d : PDV) (x : Value), PRep F d x → PRep G d x
  | .s v, x, h => by simpa [PRep] using h
  | .agg l, x, h => by
    simp only [PRep] at h ⊢
    obtain ⟨xs, e, h⟩ := h
    exact ⟨xs, e, PRepL.mono l xs h⟩
  | .tup l, x, h => by
    simp only [PRep] at h ⊢
    obtain ⟨xs, e, h⟩ := h
    exact ⟨xs, e, PRepT.mono l xs h⟩
  | .lst l, x, h => by
    simp only [PRep] at h ⊢
    obtain ⟨a, c, sz, e, hc, hn, h⟩ := h
    exact ⟨a, c, sz, e, hc, hn, PRepE.mono sz a 0 l h⟩
  | .rp l, x, h => by
    simp only [PRep] at h ⊢
    obtain ⟨a, xs, e, h, hf⟩ := h
    exact ⟨a, xs, e, PRepL.mono l xs h, fun j v hj => hm _ _ (hf j v hj)⟩
  | .clo fn fi ca, x, h => by
    simp only [PRep] at h ⊢
    obtain ⟨f, c, e, h1, h2⟩ := h
    exact ⟨f, c, e, PRepT.mono fi f h1, PRepT.mono ca c h2⟩
theorem PRepL.mono : ∀ (l : List PDV) (xs : List Value), PRepL F l xs → PRepL G l xs
  | [], xs, h => by simpa [PRepL] using h
  | d :: ds, xs, h => by
    simp only [PRepL] at h ⊢
    obtain ⟨y, ys, e, hs, h1, h2⟩ := h
    exact ⟨y, ys, e, hs, PRep.mono d y h1, PRepL.mono ds ys h2⟩
theorem PRepT.mono : ∀ (l : List PDV) (xs : List Value), PRepT F l xs → PRepT G l xs
  | [], xs, h => by simpa [PRepT] using h
  | d :: ds, xs, h => by
    simp only [PRepT] at h ⊢
    obtain ⟨y, ys, e, h1, h2⟩ := h
    exact ⟨y, ys, e, PRep.mono d y h1, PRepT.mono ds ys h2⟩
theorem PRepE.mono (sz : Nat) (a : Option Addr) : ∀ (o : Nat) (l : List PDV), PRepE F sz a o l → PRepE G sz a o l
  | o, [], h => by simp [PRepE]
  | o, d :: ds, h => by
    simp only [PRepE] at h ⊢
    obtain ⟨⟨ad, y, e, h1, hn, hs, hf⟩, h2⟩ := h
    exact ⟨⟨ad, y, e, PRep.mono d y h1, hn, hs, fun j v hj => hm _ _ (hf j v hj)⟩, PRepE.mono sz a (o + sz) ds h2⟩
end
end
structure Rho where
  blk : Nat → Nat
  st : Nat → Nat
  cap : Nat → Nat
  ext : Nat → Nat
  al : Nat → Prop
  frn : Nat → Nat → Prop
mutual
def DRep (F : Addr → Value → Prop) (ρ : Rho) (T : Nat → Nat → Prop) : DV → Value → Prop
  | .p d, x => PRep F d x
  | .agg l, x => ∃ xs : List Value, x = .agg xs.toArray ∧ DRepL F ρ T l xs
  | .tup l, x => ∃ xs : List Value, x = .tuple xs.toArray ∧ DRepT F ρ T l xs
  | .ow id l, x => ρ.al id ∧ PRep F (.lst l) x ∧ ∀ k, T id k → ∃ c, x = .slice (some ⟨ρ.blk id, ρ.st id, none⟩) l.length c ∧ l.length ≤ c ∧ PRepE F k (some ⟨ρ.blk id, ρ.st id, none⟩) 0 l ∧ l.length * k = ρ.ext id ∧ c * k ≤ ρ.cap id
  | .nil, x => x = .slice none 0 0
  | .zc, x => ∃ a, x = .slice a 0 0
  | .mp id off, x => ρ.al id ∧ x = .pointer (some ⟨ρ.blk id, ρ.st id + off, none⟩)
  | .ms id off len av es, x => ρ.al id ∧ ∃ c, x = .slice (some ⟨ρ.blk id, ρ.st id + off, none⟩) len c ∧ len ≤ av ∧ av ≤ c ∧ off + c * es.getD 1 ≤ ρ.cap id
  | .mm id, x => ρ.al id ∧ x = .map (some (ρ.blk id))
  | .clo fn fi ca, x => ∃ f c : List Value, x = .func fn f.toArray c.toArray ∧ DRepT F ρ T fi f ∧ DRepT F ρ T ca c
  | .any, x => scal x = true
def DRepL (F : Addr → Value → Prop) (ρ : Rho) (T : Nat → Nat → Prop) : List DV → List Value → Prop
  | [], xs => xs = []
  | d :: ds, xs => ∃ y ys, xs = y :: ys ∧ scal y = true ∧ DRep F ρ T d y ∧ DRepL F ρ T ds ys
def DRepT (F : Addr → Value → Prop) (ρ : Rho) (T : Nat → Nat → Prop) : List DV → List Value → Prop
  | [], xs => xs = []
  | d :: ds, xs => ∃ y ys, xs = y :: ys ∧ DRep F ρ T d y ∧ DRepT F ρ T ds ys
end
section
variable {F G : Addr → Value → Prop} {ρ ρ' : Rho} {T T' : Nat → Nat → Prop} (hm : ∀ a v, F a v → G a v) (hal : ∀ i, ρ.al i → ρ'.al i) (hag : ∀ i, ρ.al i → ρ'.blk i = ρ.blk i ∧ ρ'.st i = ρ.st i ∧ ρ'.cap i = ρ.cap i)
  (ht : ∀ i k, ρ.al i → T' i k → T i k ∧ ρ'.ext i = ρ.ext i)
include hm hal hag ht
mutual
theorem DRep.mono : ∀ (d : DV) (x : Value), DRep F ρ T d x → DRep G ρ' T' d x
  | .p d, x, h => by simp only [DRep] at h ⊢; exact PRep.mono hm d x h
  | .agg l, x, h => by
    simp only [DRep] at h ⊢
    obtain ⟨xs, e, h⟩ := h
    exact ⟨xs, e, DRepL.mono l xs h⟩
  | .tup l, x, h => by
    simp only [DRep] at h ⊢
    obtain ⟨xs, e, h⟩ := h
    exact ⟨xs, e, DRepT.mono l xs h⟩
  | .ow id l, x, h => by
    simp only [DRep] at h ⊢
    obtain ⟨ha, hp, hl⟩ := h
    obtain ⟨e1, e2, e3⟩ := hag id ha
    refine ⟨hal id ha, PRep.mono hm _ x hp, fun k hk => ?_⟩
    obtain ⟨hT, e4⟩ := ht id k ha hk
    obtain ⟨c, h1, h2, h3, h4, h5⟩ := hl k hT
    rw [e1, e2, e3, e4]
    exact ⟨c, h1, h2, PRepE.mono hm k _ 0 l h3, h4, h5⟩
  | .nil, x, h => by simpa [DRep] using h
  | .zc, x, h => by simpa [DRep] using h
  | .mp id off, x, h => by
    simp only [DRep] at h ⊢
    obtain ⟨ha, h⟩ := h
    obtain ⟨e1, e2, e3⟩ := hag id ha
    rw [e1, e2]
    exact ⟨hal id ha, h⟩
  | .ms id off len av es, x, h => by
    simp only [DRep] at h ⊢
    obtain ⟨ha, h⟩ := h
    obtain ⟨e1, e2, e3⟩ := hag id ha
    rw [e1, e2, e3]
    exact ⟨hal id ha, h⟩
  | .mm id, x, h => by
    simp only [DRep] at h ⊢
    obtain ⟨ha, h⟩ := h
    obtain ⟨e1, e2, e3⟩ := hag id ha
    rw [e1]
    exact ⟨hal id ha, h⟩
  | .clo fn fi ca, x, h => by
    simp only [DRep] at h ⊢
    obtain ⟨f, c, e, h1, h2⟩ := h
    exact ⟨f, c, e, DRepT.mono fi f h1, DRepT.mono ca c h2⟩
  | .any, x, h => by simpa [DRep] using h
theorem DRepL.mono : ∀ (l : List DV) (xs : List Value), DRepL F ρ T l xs → DRepL G ρ' T' l xs
  | [], xs, h => by simpa [DRepL] using h
  | d :: ds, xs, h => by
    simp only [DRepL] at h ⊢
    obtain ⟨y, ys, e, hs, h1, h2⟩ := h
    exact ⟨y, ys, e, hs, DRep.mono d y h1, DRepL.mono ds ys h2⟩
theorem DRepT.mono : ∀ (l : List DV) (xs : List Value), DRepT F ρ T l xs → DRepT G ρ' T' l xs
  | [], xs, h => by simpa [DRepT] using h
  | d :: ds, xs, h => by
    simp only [DRepT] at h ⊢
    obtain ⟨y, ys, e, h1, h2⟩ := h
    exact ⟨y, ys, e, DRep.mono d y h1, DRepT.mono ds ys h2⟩
end
end
def Wr (h : PT AObj) (ρ : Rho) (b o : Nat) : Prop := ∃ id ob, h.get id = some ob ∧ ρ.blk id = b ∧ match ob with
  | .cells _ fz => fz = false ∧ ρ.st id ≤ o
  | .tip _ => ρ.st id + ρ.ext id ≤ o
  | .map _ => True
def Wf (h : PT AObj) (ρ : Rho) (b o : Nat) : Prop := ρ.frn b o ∨ Wr h ρ b o
def Fx (w : World) (W : Nat → Nat → Prop) (a : Addr) (v : Value) : Prop := a.block < w.heap.size ∧ w.cell? a = some v ∧ ¬ W a.block a.off
def Tp (h : PT AObj) (i k : Nat) : Prop := h.get i = some (.tip k)
abbrev DR (w : World) (h : PT AObj) (ρ : Rho) : DV → Value → Prop := DRep (Fx w (Wf h ρ)) ρ (Tp h)
abbrev DRL (w : World) (h : PT AObj) (ρ : Rho) : List DV → List Value → Prop := DRepL (Fx w (Wf h ρ)) ρ (Tp h)
abbrev DRT (w : World) (h : PT AObj) (ρ : Rho) : List DV → List Value → Prop := DRepT (Fx w (Wf h ρ)) ρ (Tp h)
inductive MapR (w : World) (h : PT AObj) (ρ : Rho) : List (PDV × DV) → List MapEntry → Prop where
  | nil : MapR w h ρ [] []
  | cons {e : PDV × DV} {m : MapEntry} {es : List (PDV × DV)} {ms : List MapEntry} : DR w h ρ (.p e.1) m.key → DR w h ρ e.2 m.val → MapR w h ρ es ms → MapR w h ρ (e :: es) (m :: ms)
def Kept (en : Array MapEntry) (ck : Nat) (ms : List MapEntry) : Prop := en.toList.Perm ms ∧ (∀ x ∈ en.toList, x.born < ck) ∧ (en.toList.map (·.born)).Nodup
def OR (w : World) (h : PT AObj) (ρ : Rho) (id : Nat) : AObj → Prop
  | .cells cs _ => ∃ arr T vs, w.heap[ρ.blk id]? = some (.cells arr T (0, 0)) ∧ arr.size = ρ.st id + ρ.cap id ∧ DRL w h ρ cs vs ∧ ∀ j v, vs[j]? = some v → arr[ρ.st id + j]? = some v
  | .tip _ => ∃ arr T, w.heap[ρ.blk id]? = some (.cells arr T (0, 0)) ∧ arr.size = ρ.st id + ρ.cap id
  | .map es => ∃ entries clock ms, w.heap[ρ.blk id]? = some (.map entries clock) ∧ Kept entries clock ms ∧ MapR w h ρ es ms
structure Inv (ρ : Rho) (w : World) (h : PT AObj) : Prop where
  obj : ∀ id ob, h.get id = some ob → ρ.al id ∧ ρ.blk id < w.heap.size ∧ OR w h ρ id ob
  inj : ∀ i j x y, h.get i = some x → h.get j = some y → ρ.blk i = ρ.blk j → i = j
  fb : ∀ b o, ρ.frn b o → b < w.heap.size
  fd : ∀ id ob o, h.get id = some ob → ¬ ρ.frn (ρ.blk id) o
structure Stp (ρ : Rho) (w : World) (h : PT AObj) (ρ' : Rho) (w' : World) (h' : PT AObj) : Prop where
  os : w'.os = w.os
  tape : w'.tape = w.tape
  output : w'.output = w.output
  size : w.heap.size ≤ w'.heap.size
  blocks : ∀ b, b < w.heap.size → (∀ o, ¬ Wr h ρ b o) → w'.heap[b]? = w.heap[b]?
  cells : ∀ a : Addr, a.block < w.heap.size → ¬ Wr h ρ a.block a.off → w'.cell? a = w.cell? a
  wr : ∀ b o, b < w.heap.size → Wr h' ρ' b o → Wr h ρ b o
  al : ∀ i, ρ.al i → ρ'.al i
  ag : ∀ i, ρ.al i → ρ'.blk i = ρ.blk i ∧ ρ'.st i = ρ.st i ∧ ρ'.cap i = ρ.cap i
  tp : ∀ i k, ρ.al i → Tp h' i k → Tp h i k ∧ ρ'.ext i = ρ.ext i
  frn : ρ'.frn = ρ.frn
  dn : w.drawn ≤ w'.drawn
theorem Stp.refl (ρ : Rho) (w : World) (h : PT AObj) : Stp ρ w h ρ w h :=
  ⟨rfl, rfl, rfl, Nat.le_refl _, fun _ _ _ => rfl, fun _ _ _ => rfl, fun _ _ _ h => h, fun _ h => h, fun _ _ => ⟨rfl, rfl, rfl⟩, fun _ _ _ h => ⟨h, rfl⟩, rfl, Nat.le_refl _⟩
theorem Stp.trans {ρ ρ1 ρ2 : Rho} {w w1 w2 : World} {h h1 h2 : PT AObj} (s : Stp ρ w h ρ1 w1 h1) (t : Stp ρ1 w1 h1 ρ2 w2 h2) : Stp ρ w h ρ2 w2 h2 where
  os := t.os.trans s.os
  tape := t.tape.trans s.tape
  output := t.output.trans s.output
  size := Nat.le_trans s.size t.size
  blocks := fun b hb hw => (t.blocks b (Nat.lt_of_lt_of_le hb s.size) (fun o h => hw o (s.wr b o hb h))).trans (s.blocks b hb hw)
  cells := fun a hb hw => (t.cells a (Nat.lt_of_lt_of_le hb s.size) (fun h => hw (s.wr _ _ hb h))).trans (s.cells a hb hw)
  wr := fun b o hb h => s.wr b o hb (t.wr b o (Nat.lt_of_lt_of_le hb s.size) h)
  al := fun i h => t.al i (s.al i h)
  ag := fun i h => by
    obtain ⟨a, b, c⟩ := s.ag i h
    obtain ⟨a', b', c'⟩ := t.ag i (s.al i h)
    exact ⟨a'.trans a, b'.trans b, c'.trans c⟩
  tp := fun i k h ht => by
    obtain ⟨a, b⟩ := t.tp i k (s.al i h) ht
    obtain ⟨c, d⟩ := s.tp i k h a
    exact ⟨c, b.trans d⟩
  frn := t.frn.trans s.frn
  dn := Nat.le_trans s.dn t.dn
theorem Stp.fx {ρ ρ' : Rho} {w w' : World} {h h' : PT AObj} (s : Stp ρ w h ρ' w' h') (a : Addr) (v : Value) (hf : Fx w (Wf h ρ) a v) : Fx w' (Wf h' ρ') a v :=
  ⟨Nat.lt_of_lt_of_le hf.1 s.size, (s.cells a hf.1 fun h => hf.2.2 (.inr h)).trans hf.2.1, fun hw => hf.2.2 (hw.imp (fun h => s.frn ▸ h) (s.wr _ _ hf.1))⟩
theorem Stp.dr {ρ ρ' : Rho} {w w' : World} {h h' : PT AObj} (s : Stp ρ w h ρ' w' h') {d : DV} {x : Value} (hd : DR w h ρ d x) : DR w' h' ρ' d x :=
  DRep.mono s.fx s.al s.ag s.tp d x hd
theorem Stp.drl {ρ ρ' : Rho} {w w' : World} {h h' : PT AObj} (s : Stp ρ w h ρ' w' h') {d : List DV} {x : List Value} (hd : DRL w h ρ d x) : DRL w' h' ρ' d x :=
  DRepL.mono s.fx s.al s.ag s.tp d x hd
theorem Stp.mapr {ρ ρ' : Rho} {w w' : World} {h h' : PT AObj} (s : Stp ρ w h ρ' w' h') {es : List (PDV × DV)} {ms : List MapEntry} (hd : MapR w h ρ es ms) : MapR w' h' ρ' es ms := by
  induction hd with
  | nil => exact .nil
  | cons a b _ ih => exact .cons (s.dr a) (s.dr b) ih
theorem Stp.or {ρ ρ' : Rho} {w w' : World} {h h' : PT AObj} (s : Stp ρ w h ρ' w' h') {id : Nat} {ob : AObj} (ha : ρ.al id) (hb : w'.heap[ρ.blk id]? = w.heap[ρ.blk id]?) (ho : OR w h ρ id ob) : OR w' h' ρ' id ob := by
  obtain ⟨e1, e2, e3⟩ := s.ag id ha
  cases ob with
  | cells cs fz =>
    obtain ⟨arr, T, vs, h1, h2, h3, h4⟩ := ho
    simp only [OR, e1, e2, e3]
    exact ⟨arr, T, vs, hb.trans h1, h2, s.drl h3, h4⟩
  | tip k =>
    obtain ⟨arr, T, h1, h2⟩ := ho
    simp only [OR, e1, e2, e3]
    exact ⟨arr, T, hb.trans h1, h2⟩
  | map es =>
    obtain ⟨en, ck, ms, h1, hp, h2⟩ := ho
    simp only [OR, e1]
    exact ⟨en, ck, ms, hb.trans h1, hp, s.mapr h2⟩
section
variable {F : Addr → Value → Prop} {ρ : Rho} {T : Nat → Nat → Prop}
theorem PRepL.len : ∀ {l : List PDV} {xs : List Value}, PRepL F l xs → xs.length = l.length
  | [], xs, h => by simp only [PRepL] at h; subst h; rfl
  | d :: ds, xs, h => by
    simp only [PRepL] at h
    obtain ⟨y, ys, rfl, _, _, h⟩ := h
    simp [PRepL.len h]
theorem PRepT.len : ∀ {l : List PDV} {xs : List Value}, PRepT F l xs → xs.length = l.length
  | [], xs, h => by simp only [PRepT] at h; subst h; rfl
  | d :: ds, xs, h => by
    simp only [PRepT] at h
    obtain ⟨y, ys, rfl, _, h⟩ := h
    simp [PRepT.len h]
theorem DRepL.len : ∀ {l : List DV} {xs : List Value}, DRepL F ρ T l xs → xs.length = l.length
  | [], xs, h => by simp only [DRepL] at h; subst h; rfl
  | d :: ds, xs, h => by
    simp only [DRepL] at h
    obtain ⟨y, ys, rfl, _, _, h⟩ := h
    simp [DRepL.len h]
theorem DRepT.len : ∀ {l : List DV} {xs : List Value}, DRepT F ρ T l xs → xs.length = l.length
  | [], xs, h => by simp only [DRepT] at h; subst h; rfl
  | d :: ds, xs, h => by
    simp only [DRepT] at h
    obtain ⟨y, ys, rfl, _, h⟩ := h
    simp [DRepT.len h]
theorem DRepL.get : ∀ {l : List DV} {xs : List Value} (_ : DRepL F ρ T l xs) (i : Nat) (d : DV), l[i]? = some d → ∃ v, xs[i]? = some v ∧ scal v = true ∧ DRep F ρ T d v
  | [], xs, h, i, d, hi => by simp at hi
  | a :: ds, xs, h, i, d, hi => by
    simp only [DRepL] at h
    obtain ⟨y, ys, rfl, hs, h1, h⟩ := h
    cases i with
    | zero => simp at hi; subst hi; exact ⟨y, rfl, hs, h1⟩
    | succ i => simp at hi; simpa using DRepL.get h i d hi
theorem PRepL.get : ∀ {l : List PDV} {xs : List Value} (_ : PRepL F l xs) (i : Nat) (d : PDV), l[i]? = some d → ∃ v, xs[i]? = some v ∧ scal v = true ∧ PRep F d v
  | [], xs, h, i, d, hi => by simp at hi
  | a :: ds, xs, h, i, d, hi => by
    simp only [PRepL] at h
    obtain ⟨y, ys, rfl, hs, h1, h⟩ := h
    cases i with
    | zero => simp at hi; subst hi; exact ⟨y, rfl, hs, h1⟩
    | succ i => simp at hi; simpa using PRepL.get h i d hi
theorem DRepT.get : ∀ {l : List DV} {xs : List Value} (_ : DRepT F ρ T l xs) (i : Nat) (d : DV), l[i]? = some d → ∃ v, xs[i]? = some v ∧ DRep F ρ T d v
  | [], xs, h, i, d, hi => by simp at hi
  | a :: ds, xs, h, i, d, hi => by
    simp only [DRepT] at h
    obtain ⟨y, ys, rfl, h1, h⟩ := h
    cases i with
    | zero => simp at hi; subst hi; exact ⟨y, rfl, h1⟩
    | succ i => simp at hi; simpa using DRepT.get h i d hi
theorem PRepT.get : ∀ {l : List PDV} {xs : List Value} (_ : PRepT F l xs) (i : Nat) (d : PDV), l[i]? = some d → ∃ v, xs[i]? = some v ∧ PRep F d v
  | [], xs, h, i, d, hi => by simp at hi
  | a :: ds, xs, h, i, d, hi => by
    simp only [PRepT] at h
    obtain ⟨y, ys, rfl, h1, h⟩ := h
    cases i with
    | zero => simp at hi; subst hi; exact ⟨y, rfl, h1⟩
    | succ i => simp at hi; simpa using PRepT.get h i d hi
theorem DRepL.take (n : Nat) : ∀ {l : List DV} {xs : List Value}, DRepL F ρ T l xs → DRepL F ρ T (l.take n) (xs.take n) := by
  induction n with
  | zero => intro l xs _; simp [DRepL]
  | succ n ih =>
    intro l xs h
    cases l with
    | nil => simp only [DRepL] at h; subst h; simp [DRepL]
    | cons d ds =>
      simp only [DRepL] at h
      obtain ⟨y, ys, rfl, hs, h1, h⟩ := h
      simp only [List.take_succ_cons, DRepL]
      exact ⟨y, ys.take n, rfl, hs, h1, ih h⟩
theorem DRepL.drop (n : Nat) : ∀ {l : List DV} {xs : List Value}, DRepL F ρ T l xs → DRepL F ρ T (l.drop n) (xs.drop n) := by
  induction n with
  | zero => intro l xs h; simpa using h
  | succ n ih =>
    intro l xs h
    cases l with
    | nil => simp only [DRepL] at h; subst h; simp [DRepL]
    | cons d ds =>
      simp only [DRepL] at h
      obtain ⟨y, ys, rfl, hs, h1, h⟩ := h
      simpa using ih h
theorem PRepL.take (n : Nat) : ∀ {l : List PDV} {xs : List Value}, PRepL F l xs → PRepL F (l.take n) (xs.take n) := by
  induction n with
  | zero => intro l xs _; simp [PRepL]
  | succ n ih =>
    intro l xs h
    cases l with
    | nil => simp only [PRepL] at h; subst h; simp [PRepL]
    | cons d ds =>
      simp only [PRepL] at h
      obtain ⟨y, ys, rfl, hs, h1, h⟩ := h
      simp only [List.take_succ_cons, PRepL]
      exact ⟨y, ys.take n, rfl, hs, h1, ih h⟩
theorem PRepL.drop (n : Nat) : ∀ {l : List PDV} {xs : List Value}, PRepL F l xs → PRepL F (l.drop n) (xs.drop n) := by
  induction n with
  | zero => intro l xs h; simpa using h
  | succ n ih =>
    intro l xs h
    cases l with
    | nil => simp only [PRepL] at h; subst h; simp [PRepL]
    | cons d ds =>
      simp only [PRepL] at h
      obtain ⟨y, ys, rfl, hs, h1, h⟩ := h
      simpa using ih h
theorem DRepL.append : ∀ {l : List DV} {xs : List Value} {m : List DV} {ys : List Value}, DRepL F ρ T l xs → DRepL F ρ T m ys → DRepL F ρ T (l ++ m) (xs ++ ys)
  | [], xs, m, ys, h, k => by simp only [DRepL] at h; subst h; simpa using k
  | d :: ds, xs, m, ys, h, k => by
    simp only [DRepL] at h
    obtain ⟨y, zs, rfl, hs, h1, h⟩ := h
    simp only [List.cons_append, DRepL]
    exact ⟨y, zs ++ ys, rfl, hs, h1, DRepL.append h k⟩
theorem DRepT.append : ∀ {l : List DV} {xs : List Value} {m : List DV} {ys : List Value}, DRepT F ρ T l xs → DRepT F ρ T m ys → DRepT F ρ T (l ++ m) (xs ++ ys)
  | [], xs, m, ys, h, k => by simp only [DRepT] at h; subst h; simpa using k
  | d :: ds, xs, m, ys, h, k => by
    simp only [DRepT] at h
    obtain ⟨y, zs, rfl, h1, h⟩ := h
    simp only [List.cons_append, DRepT]
    exact ⟨y, zs ++ ys, rfl, h1, DRepT.append h k⟩
theorem DRepL.of_plain : ∀ {l : List PDV} {xs : List Value}, PRepL F l xs → DRepL F ρ T (l.map .p) xs
  | [], xs, h => by simp only [PRepL] at h; subst h; simp [DRepL]
  | d :: ds, xs, h => by
    simp only [PRepL] at h
    obtain ⟨y, ys, rfl, hs, h1, h⟩ := h
    simp only [List.map_cons, DRepL, DRep]
    exact ⟨y, ys, rfl, hs, h1, DRepL.of_plain h⟩
theorem DRepT.of_plain : ∀ {l : List PDV} {xs : List Value}, PRepT F l xs → DRepT F ρ T (l.map .p) xs
  | [], xs, h => by simp only [PRepT] at h; subst h; simp [DRepT]
  | d :: ds, xs, h => by
    simp only [PRepT] at h
    obtain ⟨y, ys, rfl, h1, h⟩ := h
    simp only [List.map_cons, DRepT, DRep]
    exact ⟨y, ys, rfl, h1, DRepT.of_plain h⟩
theorem plainL_some : ∀ {l : List DV} {ps : List PDV}, plainL l = some ps → l = ps.map .p
  | [], ps, h => by simp [plainL] at h; subst h; rfl
  | d :: ds, ps, h => by
    cases d with
    | p x =>
      simp only [plainL] at h
      cases hp : plainL ds with
      | none => rw [hp] at h; simp at h
      | some qs =>
        rw [hp] at h
        simp at h
        subst h
        rw [plainL_some hp]
        rfl
    | _ => simp [plainL] at h
theorem PRepL.of_p : ∀ {ps : List PDV} {xs : List Value}, DRepL F ρ T (ps.map .p) xs → PRepL F ps xs
  | [], xs, h => by simp only [List.map_nil, DRepL] at h; subst h; simp [PRepL]
  | d :: ds, xs, h => by
    simp only [List.map_cons, DRepL, DRep] at h
    obtain ⟨y, ys, rfl, hs, h1, h⟩ := h
    simp only [PRepL]
    exact ⟨y, ys, rfl, hs, h1, PRepL.of_p h⟩
theorem PRepT.of_p : ∀ {ps : List PDV} {xs : List Value}, DRepT F ρ T (ps.map .p) xs → PRepT F ps xs
  | [], xs, h => by simp only [List.map_nil, DRepT] at h; subst h; simp [PRepT]
  | d :: ds, xs, h => by
    simp only [List.map_cons, DRepT, DRep] at h
    obtain ⟨y, ys, rfl, h1, h⟩ := h
    simp only [PRepT]
    exact ⟨y, ys, rfl, h1, PRepT.of_p h⟩
theorem DRep.mkAgg {l : List DV} {xs : List Value} (h : DRepL F ρ T l xs) : DRep F ρ T (mkAgg l) (.agg xs.toArray) := by
  unfold Dv.mkAgg
  split
  · rename_i ps hp
    have := plainL_some hp
    subst this
    simp only [DRep, PRep]
    exact ⟨xs, rfl, PRepL.of_p h⟩
  · simp only [DRep]
    exact ⟨xs, rfl, h⟩
theorem DRep.mkTup {l : List DV} {xs : List Value} (h : DRepT F ρ T l xs) : DRep F ρ T (mkTup l) (.tuple xs.toArray) := by
  unfold Dv.mkTup
  split
  · rename_i ps hp
    have := plainL_some hp
    subst this
    simp only [DRep, PRep]
    exact ⟨xs, rfl, PRepT.of_p h⟩
  · simp only [DRep]
    exact ⟨xs, rfl, h⟩
theorem DRep.mkClo {fn : Fn} {a b : List DV} {xs ys : List Value} (h : DRepT F ρ T a xs) (k : DRepT F ρ T b ys) : DRep F ρ T (mkClo fn a b) (.func fn xs.toArray ys.toArray) := by
  unfold Dv.mkClo
  split
  · rename_i ps qs hp hq
    have e1 := plainL_some hp
    have e2 := plainL_some hq
    subst e1; subst e2
    simp only [DRep, PRep]
    exact ⟨xs, ys, rfl, PRepT.of_p h, PRepT.of_p k⟩
  · simp only [DRep]
    exact ⟨xs, ys, rfl, h, k⟩
theorem DRep.cells {d : DV} {x : Value} (h : DRep F ρ T d x) (hn : notTup x = true) : DRepL F ρ T d.cells x.cells.toList := by
  have one : ∀ (d : DV) (x : Value), DRep F ρ T d x → scal x = true → x.cells = #[x] ∧ DRepL F ρ T [d] [x] := by
    intro d x h hs
    refine ⟨?_, ?_⟩
    · cases x <;> simp_all [Value.cells, scal]
    · simp only [DRepL]
      exact ⟨x, [], rfl, hs, h, rfl⟩
  cases d with
  | p d =>
    cases d with
    | agg l =>
      simp only [DRep, PRep] at h
      obtain ⟨xs, rfl, h⟩ := h
      simpa [DV.cells, Value.cells] using DRepL.of_plain h
    | tup l =>
      simp only [DRep, PRep] at h
      obtain ⟨xs, rfl, h⟩ := h
      simp [notTup] at hn
    | s v =>
      have h' := h
      simp only [DRep, PRep] at h'
      obtain ⟨e, hs⟩ := h'
      subst e
      obtain ⟨e, k⟩ := one _ _ h hs
      rw [e]; exact k
    | lst l =>
      have h' := h
      simp only [DRep, PRep] at h'
      obtain ⟨a, c, sz, e, _⟩ := h'
      subst e
      obtain ⟨e, k⟩ := one _ _ h rfl
      rw [e]; exact k
    | rp l =>
      have h' := h
      simp only [DRep, PRep] at h'
      obtain ⟨a, xs, e, _⟩ := h'
      subst e
      obtain ⟨e, k⟩ := one _ _ h rfl
      rw [e]; exact k
    | clo fn fi ca =>
      have h' := h
      simp only [DRep, PRep] at h'
      obtain ⟨f, c, e, _⟩ := h'
      subst e
      obtain ⟨e, k⟩ := one _ _ h rfl
      rw [e]; exact k
  | agg l =>
    simp only [DRep] at h
    obtain ⟨xs, rfl, h⟩ := h
    simpa [DV.cells, Value.cells] using h
  | tup l =>
    simp only [DRep] at h
    obtain ⟨xs, rfl, h⟩ := h
    simp [notTup] at hn
  | ow id l =>
    have h' := h
    simp only [DRep, PRep] at h'
    obtain ⟨_, ⟨a, c, sz, e, _⟩, _⟩ := h'
    subst e
    obtain ⟨e, k⟩ := one _ _ h rfl
    rw [e]; exact k
  | nil =>
    have h' := h
    simp only [DRep] at h'
    subst h'
    obtain ⟨e, k⟩ := one _ _ h rfl
    rw [e]; exact k
  | zc =>
    have h' := h
    simp only [DRep] at h'
    obtain ⟨a, e⟩ := h'
    subst e
    obtain ⟨e, k⟩ := one _ _ h rfl
    rw [e]; exact k
  | mp id off =>
    have h' := h
    simp only [DRep] at h'
    obtain ⟨_, e⟩ := h'
    subst e
    obtain ⟨e, k⟩ := one _ _ h rfl
    rw [e]; exact k
  | ms id off len av es =>
    have h' := h
    simp only [DRep] at h'
    obtain ⟨_, c, e, _⟩ := h'
    subst e
    obtain ⟨e, k⟩ := one _ _ h rfl
    rw [e]; exact k
  | mm id =>
    have h' := h
    simp only [DRep] at h'
    obtain ⟨_, e⟩ := h'
    subst e
    obtain ⟨e, k⟩ := one _ _ h rfl
    rw [e]; exact k
  | clo fn fi ca =>
    have h' := h
    simp only [DRep] at h'
    obtain ⟨f, c, e, _⟩ := h'
    subst e
    obtain ⟨e, k⟩ := one _ _ h rfl
    rw [e]; exact k
  | any =>
    have h' := h
    simp only [DRep] at h'
    obtain ⟨e, k⟩ := one _ _ h h'
    rw [e]; exact k
end
end Go.Proofs.YtddmnddocbmjnaaGreat.Dv
