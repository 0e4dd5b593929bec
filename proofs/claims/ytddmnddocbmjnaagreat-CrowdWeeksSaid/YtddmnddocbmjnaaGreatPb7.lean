/- Part 7 of the proof: CrowdWeeks: whatever plain data comes in, the call returns true and leaves its arguments as they were. No condition. -/
import Derived.Test.YtddmnddocbmjnaaGreatPb6
set_option linter.all false
set_option linter.unusedVariables false
set_option linter.unusedSectionVars false
set_option linter.unusedSimpArgs false
namespace Go.Proofs.YtddmnddocbmjnaaGreat.Dv
inductive XA where
  | t (i : Nat)
  | d (v : DV)
  deriving Inhabited
inductive NK where
  | sl | pt | fn
inductive XO where
  | mov (x : XA)
  | pick (c a b : XA)
  | alloc (z : List DV)
  | box (x : XA)
  | bld (z : List DV) (ps : List (Nat × Nat × XA))
  | bldS (arr : Bool) (es : Option Nat) (n : Nat) (ps : List XA)
  | load (g : Bool) (k : Nat) (a : XA)
  | store (k : Nat) (a x : XA)
  | nchk (x : XA)
  | iop (op : BinOp) (x y : XA)
  | sop (op : BinOp) (x y : XA)
  | bop (neg : Bool) (x y : XA)
  | aop (ks : List Nat) (neg : Bool) (x y : XA)
  | nop (k : NK) (neg : Bool) (x y : XA)
  | un (op : UnOp) (x : XA)
  | cvI (k : IntKind) (x : XA)
  | cvS (x : XA)
  | mkf (f : Fn) (fi ca : List XA)
  | mkm
  | mks (es : Option Nat) (z : List DV) (by_ : Nat) (l c : XA)
  | sstr (x : XA) (lo hi : Option XA)
  | ssl (k : Nat) (x : XA) (lo hi mx : Option XA)
  | fadr (off : Nat) (x : XA)
  | fld (g : Bool) (off k : Nat) (x : XA)
  | iadrS (k : Nat) (x i : XA)
  | iadrA (n k : Nat) (x i : XA)
  | idxS (x i : XA)
  | idxA (n : Nat) (g : Bool) (k : Nat) (x i : XA)
  | lkp (g : Bool) (ks : List Nat) (z : DV) (ok : Bool) (x k : XA)
  | mup (g : Bool) (ks : List Nat) (m k x : XA)
  | xtr (i : Nat) (x : XA)
  | lenS (x : XA)
  | lenL (x : XA)
  | lenA (n : Nat) (x : XA)
  | lenM (x : XA)
  | cap (x : XA)
  | app (arr : Bool) (es : Option Nat) (by_ : Nat) (a x : XA)
  | appz (arr : Bool) (es : Option Nat) (by_ : Nat) (z : List DV) (a x : XA)
  | mx (max : Bool) (x : XA) (xs : List XA)
  | clr (z : Option (List DV)) (x : XA)
  | call (g : FuncId) (zas : List XA)
  | callv (f : XA) (zas : List XA)
  | stop
structure MO where
  dst : Option Nat
  g : Option (Option Nat × Bool)
  op : XO
inductive M where
  | skip
  | reg (dr : Option (Array Nat)) (ops : List MO)
  | seq (a b : M)
  | cond (c : XA) (a b : M)
  | block (id : Nat) (c : M)
  | loop (c : M)
  | exit (id : Nat)
  | ret
inductive RV where
  | tmp (i : Nat)
  | cell (i : Nat) (g : Bool) (k : Nat)
structure MF where
  n : Nat
  body : M
  res : List RV
def cA : Operand → Option XA
  | .tmp i => some (.t i)
  | .const v => (ofConst v).map .d
  | .func f => some (.d (.p (.s (.func (.func f) #[] #[]))))
  | .global _ => none
def cAs (l : List Operand) : Option (List XA) := optL cA l
def cO : Option Operand → Option (Option XA)
  | none => some none
  | some x => (cA x).map some
def eqNeg : BinOp → Option Bool
  | .eql => some false
  | .neq => some true
  | _ => none
def cBin (P : Program) (op : BinOp) (ty : TypeId) (a b : XA) : Option XO := match P.underlying ty with
  | some (.int _) => some (.iop op a b)
  | some .string => some (.sop op a b)
  | some .bool => (eqNeg op).map fun n => .bop n a b
  | some (.slice _) => (eqNeg op).map fun n => .nop .sl n a b
  | some (.pointer _) => (eqNeg op).map fun n => .nop .pt n a b
  | some (.func _ _ _) => (eqNeg op).map fun n => .nop .fn n a b
  | _ => match kindsT P ty, aggT P ty, eqNeg op with
    | some ks, some true, some n => some (.aop ks n a b)
    | _, _, _ => none
def cBuiltin (P : Program) (arr : Bool) (b : Builtin) (ts : List TypeId) (zas : List XA) : Option XO := match b with
  | .len => match ts, zas with
    | t :: _, x :: _ => match P.underlying t with
      | some .string => some (.lenS x)
      | some (.slice _) => some (.lenL x)
      | some (.array n _) => some (.lenA n x)
      | some (.map _ _) => some (.lenM x)
      | _ => none
    | _, _ => none
  | .cap => match ts, zas with
    | t :: _, x :: _ => match P.underlying t with
      | some (.slice _) => some (.cap x)
      | _ => none
    | _, _ => none
  | .append => match ts, zas with
    | t :: tx :: _, a :: x :: _ => match elT P t with
      | some e => match esT P e, byT P e, P.underlying tx with
        | some es, some by_, some (.slice _) => if (zeroT P e).map List.length = some (esK es) ∧ 0 < by_ then some (.app arr es by_ a x) else none
        | some es, some by_, some .string => if (zeroT P e).map List.length = some (esK es) ∧ 0 < by_ then some (.app arr es by_ a x) else none
        | some es, some by_, some (.int _) => match zeroT P e with
          | some z => if z.length = esK es ∧ 0 < by_ then some (.appz arr es by_ z a x) else none
          | none => none
        | _, _, _ => none
      | none => none
    | _, _ => none
  | .max => match zas with
    | x :: xs => some (.mx true x xs)
    | [] => none
  | .min => match zas with
    | x :: xs => some (.mx false x xs)
    | [] => none
  | .clear => match ts, zas with
    | t :: _, x :: _ => match P.underlying t with
      | some (.slice e) => some (.clr (zeroT P e) x)
      | _ => none
    | _, _ => none
  | _ => none
def cOp (P : Program) (G : Cfg) (fn : FuncId) (o : Op) : Option XO := match o with
  | .move x => (cA x).map .mov
  | .assign x => (cA x).map .mov
  | .pick c a b => match cA c, cA a, cA b with
    | some c, some a, some b => some (.pick c a b)
    | _, _, _ => none
  | .alloc e => (zeroT P e).map .alloc
  | .box e x => (cA x).map .box
  | .build ty ps => match zeroT P ty, P.underlying ty with
    | some z, some (.struct _) => match plT P ty with
      | some pl => (optL (fun p => match pl[p.1]?, cA p.2 with
        | some q, some a => some (q.1, q.2, a)
        | _, _ => none) ps.toList).map (.bld z)
      | none => none
    | some z, some (.array _ e) => match szT P e with
      | some k => (optL (fun p => (cA p.2).map fun a => (p.1 * k, k, a)) ps.toList).map (.bld z)
      | none => none
    | _, _ => none
  | .buildSlice ty n ps => match elT P ty with
    | some e => match esT P e with
      | some es => if ps.toList.map (·.1) = List.range n ∧ n * esK es ≤ 16777216 ∧ (zeroT P e).isSome = true then (optL (fun p => cA p.2) ps.toList).map (.bldS (G.arr fn) es n) else none
      | none => none
    | none => none
  | .load ty a => match aggT P ty, szT P ty, cA a with
    | some g, some k, some a => some (.load g k a)
    | _, _, _ => none
  | .store ty a x => match szT P ty, cA a, cA x with
    | some k, some a, some x => some (.store k a x)
    | _, _, _ => none
  | .nilCheck x => (cA x).map .nchk
  | .binOp op ty x y _ => match cA x, cA y with
    | some a, some b => cBin P op ty a b
    | _, _ => none
  | .unOp op _ x => (cA x).map (.un op)
  | .convert s d x => match P.underlying s, P.underlying d, cA x with
    | some _, some (.int k), some a => some (.cvI k a)
    | some _, some .string, some a => some (.cvS a)
    | _, _, _ => none
  | .makeFunc f fi ca => match cAs fi.toList, cAs ca.toList with
    | some a, some b => some (.mkf f a b)
    | _, _ => none
  | .makeMap _ none => some .mkm
  | .makeSlice ty l c => match cA l, cA c, elT P ty with
    | some l, some c, some e => match esT P e, zeroT P e, byT P e with
      | some es, some z, some by_ => some (.mks es z by_ l c)
      | _, _, _ => none
    | _, _, _ => none
  | .slice ty x lo hi mx => match cA x, cO lo, cO hi, cO mx with
    | some a, some l, some r, some m => match P.underlying ty with
      | some .string => if m.isSome then none else some (.sstr a l r)
      | some (.slice e) => (szT P e).map fun k => .ssl k a l r m
      | _ => none
    | _, _, _, _ => none
  | .fieldAddr s x f => match fldT P s f, cA x with
    | some (off, ft), some a => match szT P ft with
      | some 0 => none
      | some _ => some (.fadr off a)
      | none => none
    | _, _ => none
  | .field s x f => match fldT P s f, cA x with
    | some (off, ft), some a => match aggT P ft, szT P ft with
      | some g, some k => some (.fld g off k a)
      | _, _ => none
    | _, _ => none
  | .indexAddr ty x i => match cA x, cA i, P.underlying ty with
    | some a, some b, some (.slice e) => (szT P e).map fun k => .iadrS k a b
    | some a, some b, some (.array n e) => (szT P e).map fun k => .iadrA n k a b
    | _, _, _ => none
  | .index ty x i => match cA x, cA i, P.underlying ty with
    | some a, some b, some .string => some (.idxS a b)
    | some a, some b, some (.array n e) => match aggT P e, szT P e with
      | some g, some k => some (.idxA n g k a b)
      | _, _ => none
    | _, _, _ => none
  | .lookup ty x k ok => match cA x, cA k, mapT P ty with
    | some a, some b, some (kt, e, ks) => match aggT P kt, zeroD P e with
      | some g, some z => some (.lkp g ks z ok a b)
      | _, _ => none
    | _, _, _ => none
  | .mapUpdate ty m k x => match cA m, cA k, cA x, mapT P ty with
    | some a, some b, some c, some (kt, e, ks) => (aggT P kt).map fun g => .mup g ks a b c
    | _, _, _, _ => none
  | .insert ty m k x => match cA m, cA k, cA x, mapT P ty with
    | some a, some b, some c, some (kt, e, ks) => (aggT P kt).map fun g => .mup g ks a b c
    | _, _, _, _ => none
  | .extract x i => (cA x).map (.xtr i)
  | .call c => match c.callee with
    | .builtin b => (cAs c.args.toList).bind fun zas => cBuiltin P (G.arr fn) b c.argTypes.toList zas
    | .value (.func g) => if callable P g then (cAs c.args.toList).map (.call g) else none
    | .value f => match cA f, cAs c.args.toList with
      | some f, some zas => some (.callv f zas)
      | _, _ => none
    | .invoke _ _ => none
  | _ => none
def cOper (P : Program) (G : Cfg) (fn : FuncId) (ops : Array Oper) (o : Oper) : Option MO := some ⟨o.dst, o.guard.map fun g => ((ops[g.1]?).bind (·.dst), g.2), (cOp P G fn o.op).getD .stop⟩
def cCode (P : Program) (G : Cfg) (fn : FuncId) : Code → Option M
  | .skip => some .skip
  | .region _ ops draw => (optL (cOper P G fn ops) ops.toList).map (.reg (if draw && decide (1 < ops.size) then some (Region.before ops) else none))
  | .seq a b => match cCode P G fn a, cCode P G fn b with
    | some a, some b => some (.seq a b)
    | _, _ => none
  | .cond c a b => match cA c, cCode P G fn a, cCode P G fn b with
    | some c, some a, some b => some (.cond c a b)
    | _, _, _ => none
  | .block id c => (cCode P G fn c).map (.block id)
  | .loop c => (cCode P G fn c).map .loop
  | .exit id => some (.exit id)
  | .ret => some .ret
  | _ => none
def cRes (P : Program) : ResultVar → Option RV
  | .tmp i => some (.tmp i)
  | .cell i t => match aggT P t, szT P t with
    | some g, some k => some (.cell i g k)
    | _, _ => none
def comp (P : Program) (G : Cfg) (f : FuncId) : Option MF := match P.funcs[f]? with
  | some fn => match fn.body with
    | some c => match cCode P G f c, optL (cRes P) fn.results.toList with
      | some m, some rs => some ⟨fn.ntmps, m, rs⟩
      | _, _ => none
    | none => none
  | none => none
def evX (t : PT DV) : XA → DV
  | .t i => (t.get i).getD (.p (.tup []))
  | .d v => v
def layR (cs : List DV) : List (Nat × Nat × DV) → Option (List DV)
  | [] => some cs
  | (off, k, v) :: r => if v.tupB = false ∧ v.cells.length = k ∧ off + k ≤ cs.length then layR (setAt cs off v.cells) r else none
def ldX (g : Bool) (k : Nat) (a : DV) (h : PT AObj) : Option Eff := match a with
  | .p (.rp ds) => if g then (if k ≤ ds.length then some { dv := .p (.agg (ds.take k)) } else none) else match ds with
    | d :: _ => some { dv := .p d }
    | [] => none
  | .mp i off => match h.get i with
    | some (.cells cs _) => if g then (if off + k ≤ cs.length then some { dv := mkAgg ((cs.drop off).take k), rd := [i] } else none) else match cs[off]? with
      | some d => some { dv := d, rd := [i] }
      | none => none
    | _ => none
  | _ => none
def stoX (k : Nat) (a x : DV) (h : PT AObj) : Option Eff := match a with
  | .mp i off => match h.get i with
    | some (.cells cs false) => if x.tupB = false ∧ x.cells.length = k ∧ off + k ≤ cs.length then some { dv := .p (.tup []), rd := [i], up := [(i, some (.cells (setAt cs off x.cells) false))] } else none
    | _ => none
  | _ => none
def iopX (op : BinOp) (a b : DV) : Option DV := match a, b with
  | .p (.s (.int k x)), .p (.s (.int k' y)) => (if op = .shl ∨ op = .shr then shI op k x y else if k = k' then binI op k x y else none).map fun v => .p (.s v)
  | _, _ => none
def sopX (op : BinOp) (a b : DV) : Option DV := match a, b with
  | .p (.s (.string x)), .p (.s (.string y)) => (if op = .add then (if x.size + y.size ≤ 140737488355328 then some (.string (x ++ y)) else none) else (strCmp op x y).map .bool).map fun v => .p (.s v)
  | _, _ => none
def bl (n b : Bool) : DV := .p (.s (.bool (if n then !b else b)))
def bopX (n : Bool) (a b : DV) : Option DV := match a, b with
  | .p (.s (.bool x)), .p (.s (.bool y)) => some (bl n (x == y))
  | _, _ => none
def aopX (ks : List Nat) (n : Bool) (a b : DV) : Option DV := match a, b with
  | .p (.agg x), .p (.agg y) => (eqL ks x y).map (bl n)
  | _, _ => none
def nopX (k : NK) (n : Bool) (a b : DV) : Option DV := match k with
  | .sl => match b, a with
    | .nil, .nil => some (bl n true)
    | .nil, .ow _ (_ :: _) => some (bl n false)
    | .nil, .p (.lst (_ :: _)) => some (bl n false)
    | .nil, .ms _ _ _ _ _ => some (bl n false)
    | _, _ => none
  | .pt => match b, a with
    | .p (.s (.pointer none)), .p (.s (.pointer none)) => some (bl n true)
    | .p (.s (.pointer none)), .mp _ _ => some (bl n false)
    | .p (.s (.pointer none)), .p (.rp _) => some (bl n false)
    | _, _ => none
  | .fn => match b, a with
    | .p (.s .nilFunc), .p (.s .nilFunc) => some (bl n true)
    | .p (.s .nilFunc), .p (.s (.func _ _ _)) => some (bl n false)
    | .p (.s .nilFunc), .p (.clo _ _ _) => some (bl n false)
    | .p (.s .nilFunc), .clo _ _ _ => some (bl n false)
    | _, _ => none
def prtX (g : Bool) (k : Nat) (cs : List DV) (off : Nat) : Option DV := if g then (if off + k ≤ cs.length then some (mkAgg ((cs.drop off).take k)) else none) else cs[off]?
def fldX (g : Bool) (off k : Nat) (x : DV) : Option DV := (aggC x).bind fun cs => prtX g k cs off
def iadrSX (k : Nat) (x ix : DV) : Option DV := match asI ix with
  | some (_, i) => if i < 0 then none else match x with
    | .p (.lst l) => (l[i.toNat]?).bind fun d => if k = d.cells.length then some (.p (.rp d.cells)) else none
    | .ow _ l => (l[i.toNat]?).bind fun d => if k = d.cells.length then some (.p (.rp d.cells)) else none
    | .ms id off n _ es => if i.toNat < n ∧ k = esK es then some (.mp id (off + i.toNat * esK es)) else none
    | _ => none
  | none => none
def iadrAX (n k : Nat) (x ix : DV) : Option DV := match asI ix with
  | some (_, i) => if i < 0 then none else if i.toNat < n then (match x with
      | .p (.rp ds) => if i.toNat * k ≤ ds.length then some (.p (.rp (ds.drop (i.toNat * k)))) else none
      | .mp id o => some (.mp id (o + i.toNat * k))
      | _ => none) else none
  | none => none
def idxSX (x ix : DV) : Option DV := match asI ix, x with
  | some (_, i), .p (.s (.string s)) => if i < 0 then none else (s[i.toNat]?).map fun b => .p (.s (.int .u8 b.toNat))
  | _, _ => none
def idxAX (n : Nat) (g : Bool) (k : Nat) (x ix : DV) : Option DV := match asI ix, aggC x with
  | some (_, i), some cs => if i < 0 then none else if i.toNat < n then prtX g k cs (i.toNat * k) else none
  | _, _ => none
def keyX (g : Bool) (k : PDV) : Bool := match g, k with
  | true, .agg _ => true
  | false, .s _ => true
  | _, _ => false
def lkpX (g : Bool) (ks : List Nat) (z : DV) (ok : Bool) (x key : DV) (h : PT AObj) : Option Eff := match x, key with
  | .mm i, .p k => if keyX g k = true ∧ (eqK ks k k).isSome = true then match h.get i with
    | some (.map es) => match findK ks k es 0 with
      | some (some (_, v)) => some { dv := if ok then mkTup [v, .p (.s (.bool true))] else v, rd := [i] }
      | some none => some { dv := if ok then mkTup [z, .p (.s (.bool false))] else z, rd := [i] }
      | none => none
    | _ => none
    else none
  | _, _ => none
def mupX (g : Bool) (ks : List Nat) (x key v : DV) (h : PT AObj) : Option Eff := match x, key with
  | .mm i, .p k => if keyX g k = true ∧ (eqK ks k k).isSome = true then match h.get i with
    | some (.map es) => match findK ks k es 0 with
      | some (some (j, _)) => some { dv := .p (.tup []), rd := [i], up := [(i, some (.map (es.set j (k, v))))] }
      | some none => some { dv := .p (.tup []), rd := [i], up := [(i, some (.map (es ++ [(k, v)])))] }
      | none => none
    | _ => none
    else none
  | _, _ => none
def iE (n : Nat) : DV := .p (.s (.int .i64 n))
def lenSX : DV → Option DV
  | .p (.s (.string s)) => some (iE s.size)
  | _ => none
def lenLX : DV → Option DV
  | .nil => some (iE 0)
  | .zc => some (iE 0)
  | .p (.lst l) => some (iE l.length)
  | .ow _ l => some (iE l.length)
  | .ms _ _ n _ _ => some (iE n)
  | _ => none
def lenMX (x : DV) (h : PT AObj) : Option Eff := match x with
  | .mm i => match h.get i with
    | some (.map es) => some { dv := iE es.length, rd := [i] }
    | _ => none
  | _ => none
def capX : DV → Option DV
  | .nil => some (iE 0)
  | .zc => some (iE 0)
  | _ => none
def appX (arr : Bool) (es : Option Nat) (by_ : Nat) (a x : DV) (h : PT AObj) (id : Nat) : Option Eff := match src h (esK es) x with
  | none => none
  | some (cs, n, rd) => match a with
    | .nil => if n = 0 then some { dv := a, rd := rd } else if n * by_ ≤ 70368744177664 then some (fresh arr es n cs id rd) else none
    | .zc => if n = 0 then some { dv := a, rd := rd } else if n * by_ ≤ 70368744177664 then some (fresh arr es n cs id rd) else none
    | .ow i l => if n = 0 then some { dv := a, rd := rd } else match h.get i, plainL cs with
      | some (.tip k), some ps => if (l.length + n) * by_ ≤ 70368744177664 ∧ k = esK es then some { dv := .ow id (l ++ elems es n ps), rd := i :: rd, up := [(i, none), (id, some (.tip k))] } else none
      | _, _ => none
    | .ms i off len av es' => if es' = es then (match h.get i with
      | some (.cells c false) =>
        if len + n ≤ av then (if off + (len + n) * esK es ≤ c.length then some { dv := .ms i off (len + n) av es, rd := i :: rd, up := [(i, some (.cells (setAt c (off + len * esK es) cs) false))] } else none)
        else if (len + n) * by_ ≤ 70368744177664 ∧ off + len * esK es ≤ c.length then some { dv := .ms id 0 (len + n) (len + n) es, rd := i :: rd, up := [(i, none), (id, some (.cells ((c.drop off).take (len * esK es) ++ cs) false))] } else none
      | _ => none) else none
    | _ => none
def zsrc (by_ : Nat) (z : List DV) : DV → Option (List DV × Nat × List Nat)
  | .p (.s (.int _ n)) => if 0 ≤ n ∧ n ≤ 1048576 ∧ n.toNat * by_ ≤ 1099511627776 then some (zeros z n.toNat, n.toNat, []) else none
  | _ => none
def appzX (arr : Bool) (es : Option Nat) (by_ : Nat) (z : List DV) (a x : DV) (h : PT AObj) (id : Nat) : Option Eff := match zsrc by_ z x with
  | none => none
  | some (cs, n, rd) => match a with
    | .nil => if n = 0 then some { dv := a, rd := rd } else if n * by_ ≤ 70368744177664 then some (fresh arr es n cs id rd) else none
    | .zc => if n = 0 then some { dv := a, rd := rd } else if n * by_ ≤ 70368744177664 then some (fresh arr es n cs id rd) else none
    | .ow i l => if n = 0 then some { dv := a, rd := rd } else match h.get i, plainL cs with
      | some (.tip k), some ps => if (l.length + n) * by_ ≤ 70368744177664 ∧ k = esK es then some { dv := .ow id (l ++ elems es n ps), rd := i :: rd, up := [(i, none), (id, some (.tip k))] } else none
      | _, _ => none
    | .ms i off len av es' => if es' = es then (match h.get i with
      | some (.cells c false) =>
        if len + n ≤ av then (if off + (len + n) * esK es ≤ c.length then some { dv := .ms i off (len + n) av es, rd := i :: rd, up := [(i, some (.cells (setAt c (off + len * esK es) cs) false))] } else none)
        else if (len + n) * by_ ≤ 70368744177664 ∧ off + len * esK es ≤ c.length then some { dv := .ms id 0 (len + n) (len + n) es, rd := i :: rd, up := [(i, none), (id, some (.cells ((c.drop off).take (len * esK es) ++ cs) false))] } else none
      | _ => none) else none
    | _ => none
def clrX (z : Option (List DV)) (x : DV) (h : PT AObj) : Option Eff := match x with
  | .nil => unitE
  | .zc => unitE
  | .p (.lst []) => unitE
  | .ms i off 0 _ _ => unitE
  | .ms i off n _ es => match z, h.get i with
    | some z, some (.cells c false) => if z.length = esK es ∧ 0 < esK es ∧ off + n * esK es ≤ c.length then some { dv := .p (.tup []), rd := [i], up := [(i, some (.cells (setAt c off (zeros z n)) false))] } else none
    | _, _ => none
  | _ => none
def sstrX (x : DV) (lo hi : Option DV) : Option DV := match x with
  | .p (.s (.string s)) => match bnd 0 lo, bnd s.size hi with
    | some l, some r => if l ≤ r ∧ r ≤ s.size then some (.p (.s (.string (s.extract l r)))) else none
    | _, _ => none
  | _ => none
def sslX (k : Nat) (x : DV) (lo hi mx : Option DV) : Option DV := match lenAv x with
  | none => none
  | some (n, av) => match bnd 0 lo, bnd n hi, mx with
    | some l, some r, none => if l ≤ r ∧ r ≤ av then cut k l r x else none
    | some l, some r, some m => if hi.isSome = true ∧ l = 0 ∧ r = 0 ∧ (asI m).map (·.2) = some 0 then (match x with
        | .nil => some .nil
        | _ => some .zc) else none
    | _, _, _ => none
def fadrX (off : Nat) (x : DV) : Option DV := match x with
  | .p (.rp ds) => if off ≤ ds.length then some (.p (.rp (ds.drop off))) else none
  | .mp i o => some (.mp i (o + off))
  | _ => none
def cvIX (k : IntKind) (x : DV) : Option DV := match x with
  | .p (.s (.int _ n)) => some (.p (.s (.int k (k.wrap n))))
  | _ => none
def cvSX (x : DV) : Option DV := match x with
  | .p (.s (.string s)) => some (.p (.s (.string s)))
  | _ => none
def mksX (es : Option Nat) (z : List DV) (by_ : Nat) (l c : DV) (id : Nat) : Option Eff := match asI l, asI c with
  | some (_, n), some (_, m) => if 0 ≤ n ∧ n ≤ m ∧ m ≤ 1048576 ∧ m.toNat * by_ ≤ 1099511627776 ∧ z.length = esK es then some { dv := .ms id 0 n.toNat m.toNat es, up := [(id, some (.cells (zeros z m.toNat) false))] } else none
  | _, _ => none
def nchkX (x : DV) : Option DV := match x with
  | .mp i o => some (.mp i o)
  | .p (.rp l) => some (.p (.rp l))
  | _ => none
def bldSX (arr : Bool) (es : Option Nat) (n : Nat) (l : List DV) (id : Nat) : Option Eff := if l.all (fun x => x.cells.length == esK es && !x.tupB) then some (fresh arr es n (l.flatMap fun x => x.cells) id []) else none
def stX (o : XO) (t : PT DV) (h : PT AObj) (id : Nat) : Option Eff := match o with
  | .mov x => okE (evX t x)
  | .pick c a b => match asB (evX t c) with
    | some true => okE (evX t a)
    | some false => okE (evX t b)
    | none => none
  | .alloc z => some { dv := .mp id 0, up := [(id, some (.cells z false))] }
  | .box x => if (evX t x).tupB then none else some { dv := .mp id 0, up := [(id, some (.cells (evX t x).cells false))] }
  | .bld z ps => ((layR z (ps.map fun p => (p.1, p.2.1, evX t p.2.2))).map mkAgg).bind okE
  | .bldS arr es n ps => bldSX arr es n (ps.map (evX t)) id
  | .load g k a => ldX g k (evX t a) h
  | .store k a x => stoX k (evX t a) (evX t x) h
  | .nchk x => (nchkX (evX t x)).bind okE
  | .iop op x y => (iopX op (evX t x) (evX t y)).bind okE
  | .sop op x y => (sopX op (evX t x) (evX t y)).bind okE
  | .bop n x y => (bopX n (evX t x) (evX t y)).bind okE
  | .aop ks n x y => (aopX ks n (evX t x) (evX t y)).bind okE
  | .nop k n x y => (nopX k n (evX t x) (evX t y)).bind okE
  | .un op x => (Dv.un op (evX t x)).bind okE
  | .cvI k x => (cvIX k (evX t x)).bind okE
  | .cvS x => (cvSX (evX t x)).bind okE
  | .mkf f fi ca => okE (mkClo f (fi.map (evX t)) (ca.map (evX t)))
  | .mkm => some { dv := .mm id, up := [(id, some (.map []))] }
  | .mks es z by_ l c => mksX es z by_ (evX t l) (evX t c) id
  | .sstr x lo hi => (sstrX (evX t x) (lo.map (evX t)) (hi.map (evX t))).bind okE
  | .ssl k x lo hi mx => (sslX k (evX t x) (lo.map (evX t)) (hi.map (evX t)) (mx.map (evX t))).bind okE
  | .fadr off x => (fadrX off (evX t x)).bind okE
  | .fld g off k x => (fldX g off k (evX t x)).bind okE
  | .iadrS k x i => (iadrSX k (evX t x) (evX t i)).bind okE
  | .iadrA n k x i => (iadrAX n k (evX t x) (evX t i)).bind okE
  | .idxS x i => (idxSX (evX t x) (evX t i)).bind okE
  | .idxA n g k x i => (idxAX n g k (evX t x) (evX t i)).bind okE
  | .lkp g ks z ok x k => lkpX g ks z ok (evX t x) (evX t k) h
  | .mup g ks m k x => mupX g ks (evX t m) (evX t k) (evX t x) h
  | .xtr i x => (Dv.xtr (evX t x) i).bind okE
  | .lenS x => (lenSX (evX t x)).bind okE
  | .lenL x => (lenLX (evX t x)).bind okE
  | .lenA n x => okE (iE n)
  | .lenM x => lenMX (evX t x) h
  | .cap x => (capX (evX t x)).bind okE
  | .app arr es by_ a x => appX arr es by_ (evX t a) (evX t x) h id
  | .appz arr es by_ z a x => appzX arr es by_ z (evX t a) (evX t x) h id
  | .mx m x xs => (foldO (mxI m) (evX t x) (xs.map (evX t))).bind okE
  | .clr z x => clrX z (evX t x) h
  | .call _ _ => none
  | .callv _ _ => none
  | .stop => none
end Go.Proofs.YtddmnddocbmjnaaGreat.Dv
namespace Go.Proofs.YtddmnddocbmjnaaGreat.Dv
def effS (dst : Option Nat) (s : St) : Option Eff → Option (St × Log)
  | some e => some (⟨putD s.t dst e.dv, applyUp s.h e.up, s.nx⟩, { ran := true, rd := e.rd, wr := e.up.map (·.1) })
  | none => none
def mCall (G : Cfg) (fn : FuncId) (cl : CallF) (g : FuncId) (xs : List DV) (dst : Option Nat) (id : Nat) (s : St) : Option (St × Log) := match G.mode fn g with
  | .ref => match cl g xs s.h s.nx with
    | some (r, h', n') => some (⟨putD s.t dst r, h', n'⟩, { ran := true, big := true })
    | none => none
  | .ext => match G.ext g with
    | some F => effS dst s (F xs s.h id)
    | none => none
  | md => effS dst s (callE md cl g xs s.h id)
def callvX (P : Program) (G : Cfg) (fn : FuncId) (cl : CallF) (f : DV) (zas : List DV) (dst : Option Nat) (id : Nat) (s : St) : Option (St × Log) := match target f zas with
  | some (g, xs) => if callable P g then mCall G fn cl g xs dst id s else none
  | none => none
def mstep (P : Program) (G : Cfg) (fn : FuncId) (cl : CallF) (o : MO) (id : Nat) (s : St) : Option (St × Log) := match o.op with
  | .call g zas => mCall G fn cl g (zas.map (evX s.t)) o.dst id s
  | .callv f zas => callvX P G fn cl (evX s.t f) (zas.map (evX s.t)) o.dst id s
  | op => effS o.dst s (stX op s.t s.h id)
def wM (g : Option (Option Nat × Bool)) (t : PT DV) : Option Bool := match g with
  | none => some true
  | some (none, _) => some false
  | some (some d, w) => match t.get d with
    | some (.p (.s (.bool b))) => some (b == w)
    | some (.p (.tup [])) => some false
    | _ => none
def mrun (P : Program) (G : Cfg) (fn : FuncId) (cl : CallF) : Nat → List MO → St → Option (St × List Log)
  | _, [], s => some (s, [])
  | id, o :: os, s => match wM o.g s.t with
    | some true => match mstep P G fn cl o id s with
      | some (s', lg) => match mrun P G fn cl (id + 1) os s' with
        | some (s2, ls) => some (s2, lg :: ls)
        | none => none
      | none => none
    | some false => match mrun P G fn cl (id + 1) os { s with t := putD s.t o.dst (.p (.tup [])) } with
      | some (s2, ls) => some (s2, {} :: ls)
      | none => none
    | none => none
def indepO : Option (Array Nat) → List Log → Bool
  | some b, ls => indep b 0 ls
  | none, _ => true
def mexec (P : Program) (G : Cfg) (fn : FuncId) (cl : CallF) (k : Nat) : M → St → Option (DX × St)
  | .skip, s => some (.normal, s)
  | .reg dr ops, s => match mrun P G fn cl s.nx ops { s with nx := s.nx + ops.length } with
    | some (s', ls) => if indepO dr ls then some (.normal, s') else none
    | none => none
  | .seq a b, s => match mexec P G fn cl k a s with
    | some (.normal, s') => mexec P G fn cl k b s'
    | r => r
  | .cond c a b, s => match asB (evX s.t c) with
    | some true => mexec P G fn cl k a s
    | some false => mexec P G fn cl k b s
    | none => none
  | .block id c, s => match mexec P G fn cl k c s with
    | some (.exit j, s') => if j = id then some (.normal, s') else some (.exit j, s')
    | r => r
  | .loop c, s => iter (mexec P G fn cl k c) k s
  | .exit id, s => some (.exit id, s)
  | .ret, s => some (.ret, s)
section
variable {P : Program} {G : Cfg} {fn : FuncId} {cl : CallF} {t : PT DV} {h : PT AObj} {id : Nat}
theorem cA_ev {x : Operand} {a : XA} (hc : cA x = some a) : ev t x = some (evX t a) := by
  cases x with
  | tmp i => simp only [cA] at hc; cases hc; rfl
  | const v =>
    simp only [cA] at hc
    cases h1 : ofConst v with
    | none => rw [h1] at hc; cases hc
    | some d => rw [h1] at hc; cases hc; simp [ev, h1, evX]
  | global g => simp [cA] at hc
  | func f => simp only [cA] at hc; cases hc; rfl
theorem cAs_ev : ∀ {l : List Operand} {zas : List XA}, cAs l = some zas → evs t l = some (zas.map (evX t))
  | [], zas, h => by simp only [cAs, optL] at h; cases h; rfl
  | x :: xs, zas, h => by
    simp only [cAs, optL] at h
    cases h1 : cA x with
    | none => rw [h1] at h; cases h
    | some a =>
      rw [h1] at h
      cases h2 : optL cA xs with
      | none => rw [h2] at h; cases h
      | some ys =>
        rw [h2] at h
        cases h
        have := cAs_ev (l := xs) (zas := ys) h2
        simp only [evs] at this
        simp only [evs, optL, cA_ev h1, this, List.map_cons]
theorem cO_ev {x : Option Operand} {a : Option XA} (hc : cO x = some a) : ∃ l, optL (ev t) x.toList = some l ∧ l.head? = a.map (evX t) := by
  cases x with
  | none => simp only [cO] at hc; cases hc; exact ⟨[], rfl, rfl⟩
  | some x =>
    simp only [cO] at hc
    cases h1 : cA x with
    | none => rw [h1] at hc; cases hc
    | some b => rw [h1] at hc; cases hc; exact ⟨[evX t b], by simp [optL, cA_ev h1], rfl⟩
theorem lay_struct {pl : List (Nat × Nat)} : ∀ {ps : List (Nat × Operand)} {qs : List (Nat × Nat × XA)}, optL (fun p => match pl[p.1]?, cA p.2 with
        | some q, some a => some (q.1, q.2, a)
        | _, _ => none) ps = some qs → ∃ l, evp t ps = some l ∧ ∀ cs, lay (fun i => pl[i]?) cs l = layR cs (qs.map fun p => (p.1, p.2.1, evX t p.2.2))
  | [], qs, h => by simp only [optL] at h; cases h; exact ⟨[], rfl, fun cs => rfl⟩
  | p :: ps, qs, h => by
    simp only [optL] at h
    cases h1 : pl[p.1]? with
    | none => rw [h1] at h; cases h
    | some q =>
      rw [h1] at h
      cases h2 : cA p.2 with
      | none => rw [h2] at h; cases h
      | some a =>
        rw [h2] at h
        simp only at h
        split at h
        · cases h
        · rename_i ys h3
          cases h
          obtain ⟨l, hl, hr⟩ := lay_struct h3
          refine ⟨(p.1, evX t a) :: l, ?_, fun cs => ?_⟩
          · unfold evp at hl ⊢
            simp only [optL, cA_ev h2, Option.map_some, hl]
          · simp only [List.map_cons, lay, layR, h1]
            split
            · exact hr _
            · rfl
theorem lay_array {k : Nat} : ∀ {ps : List (Nat × Operand)} {qs : List (Nat × Nat × XA)}, optL (fun p => (cA p.2).map fun a => (p.1 * k, k, a)) ps = some qs → ∃ l, evp t ps = some l ∧ ∀ cs, lay (fun i => some (i * k, k)) cs l = layR cs (qs.map fun p => (p.1, p.2.1, evX t p.2.2))
  | [], qs, h => by simp only [optL] at h; cases h; exact ⟨[], rfl, fun cs => rfl⟩
  | p :: ps, qs, h => by
    simp only [optL] at h
    cases h2 : cA p.2 with
    | none => rw [h2] at h; cases h
    | some a =>
      rw [h2] at h
      simp only [Option.map_some] at h
      split at h
      · cases h
      · rename_i ys h3
        cases h
        obtain ⟨l, hl, hr⟩ := lay_array h3
        refine ⟨(p.1, evX t a) :: l, ?_, fun cs => ?_⟩
        · unfold evp at hl ⊢
          simp only [optL, cA_ev h2, Option.map_some, hl]
        · simp only [List.map_cons, lay, layR]
          split
          · exact hr _
          · rfl
theorem evp_idx : ∀ {ps : List (Nat × Operand)} {qs : List XA}, optL (fun p => cA p.2) ps = some qs → ∃ l, evp t ps = some l ∧ l.map (·.1) = ps.map (·.1) ∧ l.map (·.2) = qs.map (evX t)
  | [], qs, h => by simp only [optL] at h; cases h; exact ⟨[], rfl, rfl, rfl⟩
  | p :: ps, qs, h => by
    simp only [optL] at h
    cases h2 : cA p.2 with
    | none => rw [h2] at h; cases h
    | some a =>
      rw [h2] at h
      simp only at h
      split at h
      · cases h
      · rename_i ys h3
        cases h
        obtain ⟨l, hl, h4, h5⟩ := evp_idx h3
        refine ⟨(p.1, evX t a) :: l, ?_, by simp [h4], by simp [h5]⟩
        unfold evp at hl ⊢
        simp only [optL, cA_ev h2, Option.map_some, hl]
theorem map_bind {α β : Type} {x : Option α} {f : α → β} {y : β} (h : x.map f = some y) : ∃ a, x = some a ∧ f a = y := Option.map_eq_some_iff.1 h
def noCall : Op → Bool
  | .call c => match c.callee with
    | .builtin _ => true
    | _ => false
  | _ => true
theorem binX_ok {op : BinOp} {ty : TypeId} {a b : XA} {o : XO} (hc : cBin P op ty a b = some o) {e : Eff} (hs : stX o t h id = some e) : (bin P op ty (evX t a) (evX t b)).bind okE = some e := by
  unfold cBin at hc
  have agg : ∀ (_ : (match kindsT P ty, aggT P ty, eqNeg op with
    | some ks, some true, some n => some (XO.aop ks n a b)
    | _, _, _ => none) = some o), (bin P op ty (evX t a) (evX t b)).bind okE = some e := by
    intro hc
    split at hc
    · rename_i ks n hk ha hn
      cases hc
      obtain ⟨d, h1, h2⟩ := bind2 hs
      unfold aopX at h1
      split at h1
      · rename_i x y hx hy
        rw [hx, hy]
        simp only [bin, hk, ha]
        cases op <;> simp [eqNeg] at hn
        · subst hn
          obtain ⟨r, h3, h4⟩ := map_bind h1
          simp only [if_true, h3, Option.map_some, Option.bind_some]
          rw [← h2, ← h4]; rfl
        · subst hn
          obtain ⟨r, h3, h4⟩ := map_bind h1
          simp only [reduceCtorEq, if_false, if_true, h3, Option.map_some, Option.bind_some]
          rw [← h2, ← h4]; rfl
      · cases h1
    · cases hc
  split at hc
  · rename_i k hu
    cases hc
    obtain ⟨d, h1, h2⟩ := bind2 hs
    unfold iopX at h1
    split at h1
    · rename_i k x k' y hx hy
      rw [hx, hy]
      simp only [bin, bin1]
      rw [h1]
      exact h2
    · cases h1
  · rename_i hu
    cases hc
    obtain ⟨d, h1, h2⟩ := bind2 hs
    unfold sopX at h1
    split at h1
    · rename_i x y hx hy
      rw [hx, hy]
      simp only [bin, bin1]
      rw [h1]
      exact h2
    · cases h1
  · rename_i hu
    obtain ⟨n, hn, rfl⟩ := map_bind hc
    obtain ⟨d, h1, h2⟩ := bind2 hs
    unfold bopX at h1
    split at h1
    · rename_i x y hx hy
      rw [hx, hy]
      cases h1
      rw [← h2]
      cases op <;> simp [eqNeg] at hn <;> subst hn <;> simp [bin, bin1, hu, bl]
    · cases h1
  · rename_i hu
    obtain ⟨n, hn, rfl⟩ := map_bind hc
    obtain ⟨d, h1, h2⟩ := bind2 hs
    simp only [nopX] at h1
    split at h1
    all_goals first
      | (rename_i hx hy
         rw [hx, hy]
         cases h1
         rw [← h2]
         cases op <;> simp [eqNeg] at hn <;> subst hn <;> simp [bin, bin1, hu, bl, isNil, nilOf])
      | cases h1
  · rename_i hu
    obtain ⟨n, hn, rfl⟩ := map_bind hc
    obtain ⟨d, h1, h2⟩ := bind2 hs
    simp only [nopX] at h1
    split at h1
    all_goals first
      | (rename_i hx hy
         rw [hx, hy]
         cases h1
         rw [← h2]
         cases op <;> simp [eqNeg] at hn <;> subst hn <;> simp [bin, bin1, hu, bl, isNil, nilOf])
      | cases h1
  · rename_i hu
    obtain ⟨n, hn, rfl⟩ := map_bind hc
    obtain ⟨d, h1, h2⟩ := bind2 hs
    simp only [nopX] at h1
    split at h1
    all_goals first
      | (rename_i hx hy
         rw [hx, hy]
         cases h1
         rw [← h2]
         cases op <;> simp [eqNeg] at hn <;> subst hn <;> simp [bin, bin1, hu, bl, isNil, nilOf])
      | cases h1
  · exact agg hc
theorem builtinX_ok {arr : Bool} {b : Builtin} {ts : List TypeId} {zas : List XA} {o : XO} (hc : cBuiltin P arr b ts zas = some o) {e : Eff} (hs : stX o t h id = some e) : builtinD P arr b ts (zas.map (evX t)) h id = some e := by
  unfold cBuiltin at hc
  split at hc
  · split at hc
    · rename_i ty tl x xl
      split at hc
      · rename_i hu
        cases hc
        obtain ⟨d, h1, h2⟩ := bind2 hs
        unfold lenSX at h1
        split at h1
        · rename_i s hx
          cases h1
          cases h2
          simp only [builtinD, List.map_cons, lenD, hu, hx, Option.map_some, iE]
        · cases h1
      · rename_i el hu
        cases hc
        obtain ⟨d, h1, h2⟩ := bind2 hs
        unfold lenLX at h1
        split at h1
        all_goals first
          | (rename_i hx
             cases h1
             cases h2
             simp only [builtinD, List.map_cons, lenD, hu, hx, Option.map_some, iE, Int.natCast_zero]
             done)
          | (rename_i hx
             cases h1
             cases h2
             simp [builtinD, lenD, hu, hx, iE]
             done)
          | cases h1
      · rename_i n el hu
        cases hc
        cases hs
        simp only [builtinD, List.map_cons, lenD, hu, Option.map_some, iE]
      · rename_i k el hu
        cases hc
        simp only [stX] at hs
        unfold lenMX at hs
        split at hs
        · rename_i i hx
          split at hs
          · rename_i es ho
            cases hs
            simp only [builtinD, List.map_cons, lenD, hu, hx, ho, Option.map_some, iE]
          · cases hs
        · cases hs
      · cases hc
    · cases hc
  · split at hc
    · rename_i ty tl x xl
      split at hc
      · rename_i el hu
        cases hc
        obtain ⟨d, h1, h2⟩ := bind2 hs
        unfold capX at h1
        split at h1
        · rename_i hx
          cases h1; cases h2
          simp [builtinD, hu, hx, okE, iE]
        · rename_i hx
          cases h1; cases h2
          simp [builtinD, hu, hx, okE, iE]
        · cases h1
      · cases hc
    · cases hc
  · split at hc
    · rename_i ty tx tl a x xl
      split at hc
      · rename_i el he
        have main : ∀ {es : Option Nat} {by_ : Nat} (_ : esT P el = some es) (_ : byT P el = some by_) (_ : (zeroT P el).map List.length = some (esK es) ∧ 0 < by_) (_ : moreD P tx el (esK es) by_ (evX t x) h = src h (esK es) (evX t x)), o = .app arr es by_ a x → builtinD P arr .append (ty :: tx :: tl) ((a :: x :: xl).map (evX t)) h id = some e := by
          intro es by_ h1 h2 h3 h4 ho
          subst ho
          simp only [stX, appX] at hs
          simp only [builtinD, List.map_cons, Dv.app, he, h1, h2, if_pos h3, h4]
          exact hs
        split at hc
        · rename_i es by_ el2 h1 h2 hu
          split at hc
          · rename_i h3
            cases hc
            exact main h1 h2 h3 (by simp only [moreD, hu]) rfl
          · cases hc
        · rename_i es by_ h1 h2 hu
          split at hc
          · rename_i h3
            cases hc
            exact main h1 h2 h3 (by simp only [moreD, hu]) rfl
          · cases hc
        · rename_i es by_ ik h1 h2 hu
          split at hc
          · rename_i z hz
            split at hc
            · rename_i h3
              cases hc
              have e4 : moreD P tx el (esK es) by_ (evX t x) h = zsrc by_ z (evX t x) := by
                simp only [moreD, hu, hz, zsrc]
                cases evX t x with
                | p d =>
                  cases d with
                  | s v => cases v <;> simp
                  | _ => simp
                | _ => simp
              simp only [stX, appzX] at hs
              simp only [builtinD, List.map_cons, Dv.app, he, h1, h2, hz, Option.map_some, if_pos (show some z.length = some (esK es) ∧ 0 < by_ from ⟨by rw [h3.1], h3.2⟩), e4]
              exact hs
            · cases hc
          · cases hc
        · cases hc
      · cases hc
    · cases hc
  · split at hc
    · rename_i x xs
      cases hc
      exact hs
    · cases hc
  · split at hc
    · rename_i x xs
      cases hc
      exact hs
    · cases hc
  · split at hc
    · rename_i ty tl x xl
      split at hc
      · rename_i el hu
        cases hc
        simp only [stX, clrX] at hs
        simp only [builtinD, List.map_cons, Dv.clr]
        split at hs
        · rename_i hx; simp only [hu, hx]; exact hs
        · rename_i hx; simp only [hu, hx]; exact hs
        · rename_i hx; simp only [hu, hx]; exact hs
        · rename_i hx; simp only [hu, hx]; exact hs
        · rename_i i off n av es hne hx
          cases n with
          | zero => exact absurd rfl hne
          | succ n =>
            rw [hx]
            simp only [hu]
            exact hs
        · cases hs
      · cases hc
    · cases hc
  · cases hc
theorem mup_eq {ty : TypeId} {kt el : TypeId} {ks : List Nat} {g : Bool} {a b c : XA} (h4 : mapT P ty = some (kt, el, ks)) (h5 : aggT P kt = some g) {e : Eff} (hs : stX (.mup g ks a b c) t h id = some e) : mup P ty (evX t a) (evX t b) (evX t c) h = some e := by
  simp only [stX, mupX] at hs
  simp only [mup, h4]
  split at hs
  · rename_i i k' hx hy
    simp only [hx, hy]
    split at hs
    · rename_i hk
      have hk' : keyOk P kt k' = true := by
        have := hk.1
        unfold keyX at this
        unfold keyOk
        rw [h5]
        cases g <;> cases k' <;> first | rfl | exact this
      rw [if_pos ⟨hk', hk.2⟩]
      exact hs
    · cases hs
  · cases hs
theorem op_ok {o : Op} {x : XO} (hc : cOp P G fn o = some x) {e : Eff} (hs : stX x t h id = some e) : opE P G fn cl o t h id = some e := by
  cases o
  case move y => obtain ⟨a, h1, rfl⟩ := map_bind hc; simp only [opE, cA_ev h1, Option.bind_some]; exact hs
  case assign y => obtain ⟨a, h1, rfl⟩ := map_bind hc; simp only [opE, cA_ev h1, Option.bind_some]; exact hs
  case pick c a b =>
    simp only [cOp] at hc
    split at hc
    · rename_i c' a' b' h1 h2 h3
      cases hc
      simp only [opE, cA_ev h1, cA_ev h2, cA_ev h3, Option.bind_some]
      simp only [stX] at hs
      split at hs
      · rename_i hb; simp only [hb]; exact hs
      · rename_i hb; simp only [hb]; exact hs
      · cases hs
    · cases hc
  case alloc el => obtain ⟨a, h1, rfl⟩ := map_bind hc; simp only [opE, h1, Option.bind_some]; exact hs
  case box el y => obtain ⟨a, h1, rfl⟩ := map_bind hc; simp only [opE, cA_ev h1, Option.bind_some]; exact hs
  case build ty ps =>
    simp only [cOp] at hc
    split at hc
    · rename_i z fs hz hu
      split at hc
      · rename_i pl hpl
        obtain ⟨qs, h1, rfl⟩ := map_bind hc
        obtain ⟨l, h2, h3⟩ := lay_struct (t := t) h1
        simp only [opE, h2, Option.bind_some, bld, hz, hu, hpl, h3]
        exact hs
      · cases hc
    · rename_i z n el hz hu
      split at hc
      · rename_i k hk
        obtain ⟨qs, h1, rfl⟩ := map_bind hc
        obtain ⟨l, h2, h3⟩ := lay_array (t := t) h1
        simp only [opE, h2, Option.bind_some, bld, hz, hu, hk, h3]
        exact hs
      · cases hc
    · cases hc
  case buildSlice ty n ps =>
    simp only [cOp] at hc
    split at hc
    · rename_i el he
      split at hc
      · rename_i es hes
        split at hc
        · rename_i hcond
          obtain ⟨qs, h1, rfl⟩ := map_bind hc
          obtain ⟨l, h2, h3, h4⟩ := evp_idx (t := t) h1
          simp only [stX, bldSX] at hs
          split at hs
          · rename_i hall
            simp only [opE, h2, Option.bind_some, bldS, he, hes]
            rw [← h4] at hall hs
            rw [if_pos ⟨by rw [h3]; exact hcond.1, by rw [List.all_map] at hall; exact hall, hcond.2.1, hcond.2.2⟩]
            rw [List.flatMap_map] at hs
            exact hs
          · cases hs
        · cases hc
      · cases hc
    · cases hc
  case load ty a =>
    simp only [cOp] at hc
    split at hc
    · rename_i g k a' h1 h2 h3
      cases hc
      simp only [stX, ldX] at hs
      simp only [opE, cA_ev h3, Option.bind_some, ld, h1, h2]
      split at hs
      · rename_i hx; rw [hx]; exact hs
      · rename_i hx; rw [hx]; exact hs
      · cases hs
    · cases hc
  case store ty a y =>
    simp only [cOp] at hc
    split at hc
    · rename_i k a' y' h1 h2 h3
      cases hc
      simp only [stX, stoX] at hs
      simp only [opE, cA_ev h2, cA_ev h3, sto, h1]
      split at hs
      · rename_i hx; rw [hx]; exact hs
      · cases hs
    · cases hc
  case nilCheck y =>
    obtain ⟨a, h1, rfl⟩ := map_bind hc
    obtain ⟨d, h2, h3⟩ := bind2 hs
    simp only [opE, cA_ev h1]
    unfold nchkX at h2
    split at h2
    · rename_i hx; rw [hx]; cases h2; exact h3
    · rename_i hx; rw [hx]; cases h2; exact h3
    · cases h2
  case binOp op ty a b yt =>
    simp only [cOp] at hc
    split at hc
    · rename_i a' b' h1 h2
      simp only [opE, cA_ev h1, cA_ev h2]
      exact binX_ok hc hs
    · cases hc
  case unOp op ty y => obtain ⟨a, h1, rfl⟩ := map_bind hc; simp only [opE, cA_ev h1, Option.bind_some]; exact hs
  case convert sr ds y =>
    simp only [cOp] at hc
    split at hc
    · rename_i u k a h1 h2 h3
      cases hc
      obtain ⟨d, h4, h5⟩ := bind2 hs
      simp only [opE, cA_ev h3, Option.bind_some, conv, h1, h2]
      unfold cvIX at h4
      split at h4
      · rename_i hx; rw [hx]; cases h4; exact h5
      · cases h4
    · rename_i u a h1 h2 h3
      cases hc
      obtain ⟨d, h4, h5⟩ := bind2 hs
      simp only [opE, cA_ev h3, Option.bind_some, conv, h1, h2]
      unfold cvSX at h4
      split at h4
      · rename_i hx; rw [hx]; cases h4; exact h5
      · cases h4
    · cases hc
  case makeFunc f fi ca =>
    simp only [cOp] at hc
    split at hc
    · rename_i a b h1 h2
      cases hc
      simp only [opE, cAs_ev h1, cAs_ev h2]
      exact hs
    · cases hc
  case makeMap ty r =>
    cases r with
    | none => simp only [cOp] at hc; cases hc; exact hs
    | some r => simp [cOp] at hc
  case makeSlice ty l c =>
    simp only [cOp] at hc
    split at hc
    · rename_i l' c' el h1 h2 h3
      split at hc
      · rename_i es z by_ h4 h5 h6
        cases hc
        simp only [stX, mksX] at hs
        simp only [opE, cA_ev h1, cA_ev h2, Option.bind_some, h3, h4, h5, h6]
        split at hs
        · rename_i hl hr
          simp only [hl, hr, h4, h5, h6]
          exact hs
        · cases hs
      · cases hc
    · cases hc
  case slice ty y lo hi mx =>
    simp only [cOp] at hc
    split at hc
    · rename_i a l r m h1 h2 h3 h4
      obtain ⟨lo', e1, e2⟩ := cO_ev (t := t) h2
      obtain ⟨hi', e3, e4⟩ := cO_ev (t := t) h3
      obtain ⟨mx', e5, e6⟩ := cO_ev (t := t) h4
      simp only [opE, cA_ev h1, e1, e3, e5]
      rw [e2, e4, e6]
      split at hc
      · rename_i hu
        split at hc
        · cases hc
        · rename_i hm
          cases hc
          obtain ⟨d, h5, h6⟩ := bind2 hs
          unfold sstrX at h5
          split at h5
          · rename_i s hx
            have hm : m = none := by cases m <;> simp_all
            subst hm
            have hh : slc P ty (evX t a) (l.map (evX t)) (r.map (evX t)) none = some d := by
              simp only [slc, hu, hx, Option.isSome_none, Bool.false_eq_true, if_false]
              exact h5
            rw [Option.map_none, hh]
            exact h6
          · cases h5
      · rename_i el hu
        obtain ⟨k, hk, rfl⟩ := map_bind hc
        obtain ⟨d, h5, h6⟩ := bind2 hs
        have hh : slc P ty (evX t a) (l.map (evX t)) (r.map (evX t)) (m.map (evX t)) = some d := by
          simp only [slc, hu, hk]
          exact h5
        rw [hh]
        exact h6
      · cases hc
    · cases hc
  case fieldAddr s y f =>
    simp only [cOp] at hc
    split at hc
    · rename_i off ft a h1 h2
      split at hc
      · cases hc
      · rename_i k hk0 hk
        cases hc
        obtain ⟨d, h5, h6⟩ := bind2 hs
        have hh : fadr P s (evX t a) f = some d := by
          unfold fadr
          cases k with
          | zero => exact absurd rfl hk0
          | succ k => simp only [h1, hk]; exact h5
        simp only [opE, cA_ev h2, Option.bind_some]
        rw [hh]
        exact h6
      · cases hc
    · cases hc
  case field s y f =>
    simp only [cOp] at hc
    split at hc
    · rename_i off ft a h1 h2
      split at hc
      · rename_i g k h3 h4
        cases hc
        obtain ⟨d, h5, h6⟩ := bind2 hs
        obtain ⟨cs, h7, h8⟩ := bind2 h5
        have hh : fld P s (evX t a) f = some d := by
          simp only [fld, h1, h7, prt, h3, h4]
          cases g <;> exact h8
        simp only [opE, cA_ev h2, Option.bind_some]
        rw [hh]
        exact h6
      · cases hc
    · cases hc
  case indexAddr ty y i =>
    simp only [cOp] at hc
    split at hc
    · rename_i a b el h1 h2 hu
      obtain ⟨k, hk, rfl⟩ := map_bind hc
      obtain ⟨d, h5, h6⟩ := bind2 hs
      have hh : iadr P ty (evX t a) (evX t b) = some d := by
        unfold iadrSX at h5
        unfold iadr
        split at h5
        · rename_i hi
          simp only [hi, hu, hk]
          split at h5
          · cases h5
          · rename_i hn
            rw [if_neg hn]
            split at h5
            · rename_i hx; simp only [hx, Option.some.injEq]; exact h5
            · rename_i hx; simp only [hx, Option.some.injEq]; exact h5
            · rename_i hx; simp only [hx, Option.some.injEq]; exact h5
            · cases h5
        · cases h5
      simp only [opE, cA_ev h1, cA_ev h2]
      rw [hh]
      exact h6
    · rename_i a b n el h1 h2 hu
      obtain ⟨k, hk, rfl⟩ := map_bind hc
      obtain ⟨d, h5, h6⟩ := bind2 hs
      have hh : iadr P ty (evX t a) (evX t b) = some d := by
        unfold iadrAX at h5
        unfold iadr
        split at h5
        · rename_i hi
          simp only [hi, hu, hk]
          split at h5
          · cases h5
          · rename_i hn
            rw [if_neg hn]
            split at h5
            · rename_i hlt
              rw [if_pos hlt]
              split at h5
              · rename_i hx; simp only [hx]; exact h5
              · rename_i hx; simp only [hx]; exact h5
              · cases h5
            · cases h5
        · cases h5
      simp only [opE, cA_ev h1, cA_ev h2]
      rw [hh]
      exact h6
    · cases hc
  case index ty y i =>
    simp only [cOp] at hc
    split at hc
    · rename_i a b h1 h2 hu
      cases hc
      obtain ⟨d, h5, h6⟩ := bind2 hs
      have hh : idx P ty (evX t a) (evX t b) = some d := by
        unfold idxSX at h5
        unfold idx
        split at h5
        · rename_i hi hx
          simp only [hi, hu, hx]
          exact h5
        · cases h5
      simp only [opE, cA_ev h1, cA_ev h2]
      rw [hh]
      exact h6
    · rename_i a b n el h1 h2 hu
      split at hc
      · rename_i g k h3 h4
        cases hc
        obtain ⟨d, h5, h6⟩ := bind2 hs
        have hh : idx P ty (evX t a) (evX t b) = some d := by
          unfold idxAX at h5
          unfold idx
          split at h5
          · rename_i hi hx
            simp only [hi, hu, hx, h4]
            split at h5
            · cases h5
            · rename_i hn
              rw [if_neg hn]
              split at h5
              · rename_i hlt
                rw [if_pos hlt]
                unfold prtX at h5
                simp only [prt, h3, h4]
                cases g <;> exact h5
              · cases h5
          · cases h5
        simp only [opE, cA_ev h1, cA_ev h2]
        rw [hh]
        exact h6
      · cases hc
    · cases hc
  case lookup ty y k ok =>
    simp only [cOp] at hc
    split at hc
    · rename_i a b kt el ks h1 h2 h3
      split at hc
      · rename_i g z h4 h5
        cases hc
        simp only [opE, cA_ev h1, cA_ev h2]
        simp only [stX, lkpX] at hs
        simp only [lkp, h3]
        split at hs
        · rename_i i k' hx hy
          simp only [hx, hy]
          split at hs
          · rename_i hk
            have hk' : keyOk P kt k' = true := by
              have := hk.1
              unfold keyX at this
              unfold keyOk
              rw [h4]
              cases g <;> cases k' <;> first | rfl | exact this
            rw [if_pos ⟨hk', hk.2⟩]
            split at hs
            · rename_i es ho
              simp only [ho]
              split at hs
              · rename_i hf; simp only [hf]; exact hs
              · rename_i hf; simp only [hf, h5]; exact hs
              · cases hs
            · cases hs
          · cases hs
        · cases hs
      · cases hc
    · cases hc
  case mapUpdate ty m k y =>
    simp only [cOp] at hc
    split at hc
    · rename_i a b c kt el ks h1 h2 h3 h4
      obtain ⟨g, h5, rfl⟩ := map_bind hc
      simp only [opE, cA_ev h1, cA_ev h2, cA_ev h3]
      exact mup_eq h4 h5 hs
    · cases hc
  case insert ty m k y =>
    simp only [cOp] at hc
    split at hc
    · rename_i a b c kt el ks h1 h2 h3 h4
      obtain ⟨g, h5, rfl⟩ := map_bind hc
      simp only [opE, cA_ev h1, cA_ev h2, cA_ev h3]
      exact mup_eq h4 h5 hs
    · cases hc
  case extract y i => obtain ⟨a, h1, rfl⟩ := map_bind hc; simp only [opE, cA_ev h1, Option.bind_some]; exact hs
  case call c =>
    simp only [cOp] at hc
    simp only [opE]
    split at hc
    · rename_i b hb
      obtain ⟨zas, h1, h2⟩ := bind2 hc
      simp only [hb, cAs_ev h1, Option.bind_some]
      exact builtinX_ok h2 hs
    · split at hc
      · obtain ⟨zas, h1, rfl⟩ := map_bind hc
        cases hs
      · cases hc
    · split at hc
      · cases hc; cases hs
      · cases hc
    · cases hc
  all_goals cases hc
theorem refCall_no {o : Op} (hn : noCall o = true) : refCall P G fn o t = none := by
  unfold refCall
  split
  · rename_i c
    simp only [noCall] at hn
    split
    · rename_i hv; rw [hv] at hn; cases hn
    · rfl
  · rfl
theorem cBin_call {op : BinOp} {ty : TypeId} {a b : XA} {o : XO} (hc : cBin P op ty a b = some o) : (∀ g zas, o ≠ .call g zas) ∧ ∀ f zas, o ≠ .callv f zas := by
  unfold cBin at hc
  repeat' split at hc
  all_goals first
    | (obtain ⟨n, _, rfl⟩ := map_bind hc; exact ⟨fun _ _ => nofun, fun _ _ => nofun⟩)
    | (cases hc; done)
    | (cases hc; exact ⟨fun _ _ => nofun, fun _ _ => nofun⟩)
theorem cOp_call {o : Op} {x : XO} (hn : ∀ c, o ≠ .call c) (hc : cOp P G fn o = some x) : (∀ g zas, x ≠ .call g zas) ∧ ∀ f zas, x ≠ .callv f zas := by
  cases o
  case call c => exact absurd rfl (hn c)
  case binOp op ty a b yt =>
    simp only [cOp] at hc
    split at hc
    · exact cBin_call hc
    · cases hc
  case makeMap ty r => cases r with
    | none => simp only [cOp] at hc; cases hc; exact ⟨fun _ _ => nofun, fun _ _ => nofun⟩
    | some r => simp [cOp] at hc
  all_goals
    simp only [cOp] at hc
    repeat' split at hc
    all_goals first
      | (obtain ⟨n, _, rfl⟩ := map_bind hc; exact ⟨fun _ _ => nofun, fun _ _ => nofun⟩)
      | (cases hc; done)
      | (cases hc; exact ⟨fun _ _ => nofun, fun _ _ => nofun⟩)
theorem mCall_ok {o : Op} {c : Call} {f : Operand} (ho : o = .call c) (hv : c.callee = .value f) {s : St} {dst : Option Tmp} {fv : DV} {zas xs : List DV} {g : FuncId} (h1 : ev s.t f = some fv) (h2 : evs s.t c.args.toList = some zas) (h3 : target fv zas = some (g, xs)) (h4 : callable P g = true) {x : Oper} (hop : x.op = o) (hd : x.dst = dst) {r : St × Log} (hs : mCall G fn cl g xs dst id s = some r) : stepD P G fn cl x id s = some r := by
  subst ho
  have hr : refCall P G fn x.op s.t = if G.mode fn g = .ref then some (g, xs) else none := by
    rw [hop]
    simp only [refCall, hv, h1, h2, h3, h4, and_true]
  have ho : opE P G fn cl x.op s.t s.h id = match G.mode fn g with
          | .ext => match G.ext g with
            | some F => F xs s.h id
            | none => none
          | .ref => none
          | md => callE md cl g xs s.h id := by
    rw [hop]
    simp only [opE, hv, h1, h2, h3, h4, if_true]
    cases G.mode fn g <;> rfl
  have effs : ∀ {q : Option Eff}, effS dst s q = some r → ∃ e, q = some e ∧ some (⟨putD s.t dst e.dv, applyUp s.h e.up, s.nx⟩, ({ ran := true, rd := e.rd, wr := e.up.map (·.1) } : Log)) = some r := by
    intro q hq
    unfold effS at hq
    split at hq
    · exact ⟨_, rfl, hq⟩
    · cases hq
  unfold stepD
  rw [hr, ho, hd]
  unfold mCall at hs
  cases hm : G.mode fn g with
  | ref =>
    simp only [hm] at hs
    simp only [if_true]
    exact hs
  | ext =>
    simp only [hm] at hs
    simp only [reduceCtorEq, if_false]
    split at hs
    · rename_i F hF
      obtain ⟨e, h5, h6⟩ := effs hs
      simp only [hF, h5]
      exact h6
    · cases hs
  | pure =>
    simp only [hm] at hs
    obtain ⟨e, h5, h6⟩ := effs hs
    simp only [reduceCtorEq, if_false, h5]
    exact h6
  | ownT =>
    simp only [hm] at hs
    obtain ⟨e, h5, h6⟩ := effs hs
    simp only [reduceCtorEq, if_false, h5]
    exact h6
  | ownA =>
    simp only [hm] at hs
    obtain ⟨e, h5, h6⟩ := effs hs
    simp only [reduceCtorEq, if_false, h5]
    exact h6
theorem mstep_ok {ops : Array Oper} {o : Oper} {m : MO} (hc : cOper P G fn ops o = some m) {s : St} {r : St × Log} (hs : mstep P G fn cl m id s = some r) : stepD P G fn cl o id s = some r := by
  obtain ⟨x, hx, rfl⟩ : ∃ x, cOp P G fn o.op = some x ∧ m = ⟨o.dst, o.guard.map fun g => ((ops[g.1]?).bind (·.dst), g.2), x⟩ := by
    unfold cOper at hc
    cases hx : cOp P G fn o.op with
    | some x => rw [hx] at hc; cases hc; exact ⟨x, rfl, rfl⟩
    | none => rw [hx] at hc; cases hc; cases hs
  have plain : ∀ (_ : noCall o.op = true), effS o.dst s (stX x s.t s.h id) = some r → stepD P G fn cl o id s = some r := by
    intro hn he
    unfold effS at he
    split at he
    · rename_i e h1
      unfold stepD
      rw [refCall_no hn]
      simp only [op_ok hx h1]
      exact he
    · cases he
  have hnc : noCall o.op = true ∨ (∃ g zas, x = .call g zas) ∨ ∃ f zas, x = .callv f zas := by
    cases ho : o.op with
    | call c =>
      rw [ho] at hx
      simp only [cOp] at hx
      split at hx
      · rename_i b hb; left; simp [noCall, hb]
      · split at hx
        · obtain ⟨zas, _, rfl⟩ := map_bind hx; exact .inr (.inl ⟨_, _, rfl⟩)
        · cases hx
      · split at hx
        · cases hx; exact .inr (.inr ⟨_, _, rfl⟩)
        · cases hx
      · cases hx
    | _ => exact .inl rfl
  unfold mstep at hs
  split at hs
  · rename_i g zas hxx
    simp only at hxx
    subst hxx
    cases ho : o.op with
    | call c =>
      rw [ho] at hx
      simp only [cOp] at hx
      split at hx
      · exfalso
        obtain ⟨as', _, h2⟩ := bind2 hx
        unfold cBuiltin at h2
        repeat' split at h2
        all_goals cases h2
      · rename_i g' hb
        split at hx
        · rename_i hcal
          obtain ⟨as', h1, h2⟩ := map_bind hx
          cases h2
          exact mCall_ok (fv := .p (.s (.func (.func g) #[] #[]))) rfl hb rfl (cAs_ev h1) (by simp [target]) hcal ho rfl hs
        · cases hx
      · split at hx
        · cases hx
        · cases hx
      · cases hx
    | _ =>
      exfalso
      rw [ho] at hx
      exact (cOp_call (by intro c h; cases h) hx).1 _ _ rfl
  · rename_i f zas hxx
    simp only at hxx
    subst hxx
    cases ho : o.op with
    | call c =>
      rw [ho] at hx
      simp only [cOp] at hx
      split at hx
      · exfalso
        obtain ⟨as', _, h2⟩ := bind2 hx
        unfold cBuiltin at h2
        repeat' split at h2
        all_goals cases h2
      · split at hx
        · obtain ⟨as', h1, h2⟩ := map_bind hx
          cases h2
        · cases hx
      · rename_i f' hnf hb
        split at hx
        · rename_i f2 as2 h1 h2
          cases hx
          unfold callvX at hs
          split at hs
          · rename_i g xs ht
            split at hs
            · rename_i hcal
              exact mCall_ok rfl hb (cA_ev h1) (cAs_ev h2) ht hcal ho rfl hs
            · cases hs
          · cases hs
        · cases hx
      · cases hx
    | _ =>
      exfalso
      rw [ho] at hx
      exact (cOp_call (by intro c h; cases h) hx).2 _ _ rfl
  · rename_i h1 h2
    rcases hnc with h | ⟨g, zas, h⟩ | ⟨f, zas, h⟩
    · exact plain h hs
    · exact absurd h (h1 g zas)
    · exact absurd h (h2 f zas)
theorem want_eq (ops : Array Oper) (o : Oper) (t : PT DV) : wantD ops t o = wM (o.guard.map fun g => ((ops[g.1]?).bind (·.dst), g.2)) t := by
  unfold wantD wM
  cases o.guard with
  | none => rfl
  | some g =>
    obtain ⟨j, w⟩ := g
    simp only [Option.map_some]
    cases (ops[j]?).bind (·.dst) <;> rfl
theorem mrun_ok {ops : Array Oper} : ∀ {os : List Oper} {ms : List MO} {id : Nat} {s : St} {r : St × List Log}, optL (cOper P G fn ops) os = some ms → mrun P G fn cl id ms s = some r → runOps P G fn cl ops id os s = some r
  | [], ms, id, s, r, hc, hs => by simp only [optL] at hc; cases hc; exact hs
  | o :: os, ms, id, s, r, hc, hs => by
    simp only [optL] at hc
    cases h1 : cOper P G fn ops o with
    | none => rw [h1] at hc; cases hc
    | some m =>
      rw [h1] at hc
      cases h2 : optL (cOper P G fn ops) os with
      | none => rw [h2] at hc; cases hc
      | some ys =>
        rw [h2] at hc
        cases hc
        have hg : wantD ops s.t o = wM m.g s.t := by
          unfold cOper at h1
          cases h1
          exact want_eq ops o s.t
        have hd : m.dst = o.dst := by
          unfold cOper at h1
          cases h1
          rfl
        simp only [mrun] at hs
        simp only [runOps, hg]
        split at hs
        · rename_i hw
          simp only [hw]
          split at hs
          · rename_i s' lg hst
            simp only [mstep_ok h1 hst]
            split at hs
            · rename_i hrec
              simp only [mrun_ok h2 hrec]
              exact hs
            · cases hs
          · cases hs
        · rename_i hw
          simp only [hw]
          split at hs
          · rename_i hrec
            rw [hd] at hrec
            simp only [mrun_ok h2 hrec]
            exact hs
          · cases hs
        · cases hs
theorem mrun_len : ∀ {ms : List MO} {id : Nat} {s : St} {r : St × List Log}, mrun P G fn cl id ms s = some r → r.2.length = ms.length
  | [], id, s, r, hs => by simp only [mrun] at hs; cases hs; rfl
  | m :: ms, id, s, r, hs => by
    simp only [mrun] at hs
    split at hs
    · split at hs
      · split at hs
        · rename_i hrec; cases hs; simpa using mrun_len hrec
        · cases hs
      · cases hs
    · split at hs
      · rename_i hrec; cases hs; simpa using mrun_len hrec
      · cases hs
    · cases hs
theorem mexec_ok {k : Nat} : ∀ (c : Code) {m : M} {s : St} {r : DX × St}, cCode P G fn c = some m → mexec P G fn cl k m s = some r → exec P G fn cl k c s = some r
  | .skip, m, s, r, hc, hs => by simp only [cCode] at hc; cases hc; exact hs
  | .region i ops draw, m, s, r, hc, hs => by
    obtain ⟨ms, h1, rfl⟩ := map_bind hc
    have hl := (optL_len h1).1
    simp only [mexec] at hs
    simp only [exec]
    rw [show ms.length = ops.size by simpa using hl] at hs
    split at hs
    · rename_i s' ls hr
      simp only [mrun_ok h1 hr]
      by_cases hi : indepO (if (draw && decide (1 < ops.size)) = true then some (Region.before ops) else none) ls = true
      · rw [if_pos hi] at hs
        have : (draw && !indep (Region.before ops) 0 ls) = false := by
          cases draw with
          | false => rfl
          | true =>
            by_cases hsz : 1 < ops.size
            · rw [show (true && decide (1 < ops.size)) = true by simp [hsz], if_pos rfl] at hi
              simp only [indepO] at hi
              simp [hi]
            · have hl2 : ls.length = ms.length := mrun_len hr
              have : ls.length ≤ 1 := by simp at hl; omega
              cases ls with
              | nil => rfl
              | cons l ls =>
                cases ls with
                | nil => rfl
                | cons l2 ls => simp at this
        rw [this]
        exact hs
      · rw [if_neg hi] at hs
        cases hs
    · cases hs
  | .seq a b, m, s, r, hc, hs => by
    simp only [cCode] at hc
    split at hc
    · rename_i a' b' h1 h2
      cases hc
      simp only [mexec] at hs
      simp only [exec]
      split at hs
      · rename_i s' hx
        simp only [mexec_ok a h1 hx]
        exact mexec_ok b h2 hs
      · rename_i hne
        rw [mexec_ok a h1 hs]
        obtain ⟨x, s'⟩ := r
        cases x with
        | normal => exact absurd hs (hne s')
        | exit id => rfl
        | ret => rfl
    · cases hc
  | .cond c a b, m, s, r, hc, hs => by
    simp only [cCode] at hc
    split at hc
    · rename_i c' a' b' h0 h1 h2
      cases hc
      simp only [mexec] at hs
      simp only [exec, cA_ev h0, Option.bind_some]
      split at hs
      · rename_i hb; simp only [hb]; exact mexec_ok a h1 hs
      · rename_i hb; simp only [hb]; exact mexec_ok b h2 hs
      · cases hs
    · cases hc
  | .block i c, m, s, r, hc, hs => by
    obtain ⟨m', h1, rfl⟩ := map_bind hc
    simp only [mexec] at hs
    simp only [exec]
    split at hs
    · rename_i j s' hx
      simp only [mexec_ok c h1 hx]
      exact hs
    · rename_i hne
      rw [mexec_ok c h1 hs]
      obtain ⟨x, s'⟩ := r
      cases x with
      | normal => rfl
      | exit id => exact absurd hs (hne id s')
      | ret => rfl
  | .loop c, m, s, r, hc, hs => by
    obtain ⟨m', h1, rfl⟩ := map_bind hc
    simp only [mexec] at hs
    simp only [exec]
    exact iter_mono (fun s r h => mexec_ok c h1 h) (Nat.le_refl _) hs
  | .exit i, m, s, r, hc, hs => by simp only [cCode] at hc; cases hc; exact hs
  | .ret, m, s, r, hc, hs => by simp only [cCode] at hc; cases hc; exact hs
  | .goto _, m, s, r, hc, hs => by simp [cCode] at hc
  | .label _, m, s, r, hc, hs => by simp [cCode] at hc
  | .scope _, m, s, r, hc, hs => by simp [cCode] at hc
  | .rangeFunc .., m, s, r, hc, hs => by simp [cCode] at hc
  | .refuse _, m, s, r, hc, hs => by simp [cCode] at hc
end
end Go.Proofs.YtddmnddocbmjnaaGreat.Dv
