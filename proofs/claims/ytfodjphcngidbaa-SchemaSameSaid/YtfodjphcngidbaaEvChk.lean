/- When an operation of the evaluator is the one that was loaded. -/
import Derived.Test.YtfodjphcngidbaaEvCore
set_option linter.unusedSimpArgs false
set_option linter.unusedVariables false
namespace Go.Ev

mutual
def constB : AV → Value → Bool
  | .bool b, v => match v with
    | .bool b' => b == b'
    | _ => false
  | .int k n, v => match v with
    | .int k' n' => k == k' && n == n'
    | _ => false
  | .str l, v => match v with
    | .string s => l == s.data.toList
    | _ => false
  | .nilptr, v => match v with
    | .pointer a => a.isNone
    | _ => false
  | .nilsl, v => match v with
    | .slice a n c => a.isNone && n == 0 && c == 0
    | _ => false
  | .nilfn, v => match v with
    | .nilFunc => true
    | _ => false
  | .agg cs, v => match v with
    | .agg arr => constL cs arr.toList
    | _ => false
  | .fn f xs ys, v => match v with
    | .func fn a b => xs.isEmpty && ys.isEmpty && fn == .func f && a.isEmpty && b.isEmpty
    | _ => false
  | .undef, _ => false
  | .ro _ _, _ => false
  | .rptr _, _ => false
  | .emp _, _ => false
  | .own _ _ _ _ _, _ => false
  | .ptr _ _ _, _ => false
  | .tup _, _ => false
def constL : List AV → List Value → Bool
  | [], vs => vs.isEmpty
  | c :: cs, vs => match vs with
    | v :: vs => constB c v && constL cs vs
    | [] => false
end

def chkX : MX → Operand → Bool
  | .s n, .tmp t => n == t
  | .c a, .const v => constB a v
  | .c (.fn f [] []), .func g => f == g
  | _, _ => false
def chkXs : List MX → List Operand → Bool
  | [], [] => true
  | x :: xs, y :: ys => chkX x y && chkXs xs ys
  | _, _ => false
def chkXO : Option MX → Option Operand → Bool
  | none, none => true
  | some x, some y => chkX x y
  | _, _ => false

section
variable (P : Program)
def szB (t : TypeId) (n : Nat) : Bool := match P.info? t with
  | some i => i.size == n
  | none => false
def aggB (t : TypeId) : Bool := match P.underlying t with
  | some (.struct _) | some (.array _ _) => true
  | _ => false
def oneB (t : TypeId) : Bool := match P.underlying t with
  | some (.struct _) | some (.array _ _) | none => false
  | some _ => true
def zeroB (t : TypeId) (zs : List AV) : Bool := match P.info? t with
  | some i => match i.zero with
    | some z => constL zs z.cells.toList && zs.all AV.atom
    | none => false
  | none => false
def loadB (n : Option Nat) (t : TypeId) : Bool := match n with
  | none => oneB P t
  | some n => aggB P t && szB P t n && decide (0 < n)
def sliceB (t e : TypeId) : Bool := match P.underlying t with
  | some (.slice e') => e == e'
  | _ => false
/-- Parts of a struct or an array: where they lie. -/
def partsS (fs : Array Field) : List (Nat × Nat × MX) → List (Nat × Operand) → Bool
  | [], [] => true
  | (off, n, x) :: r, (i, y) :: s => (match fs[i]? with
      | some f => f.offset == off && szB P f.type n
      | none => false) && chkX x y && partsS fs r s
  | _, _ => false
def partsA (sz : Nat) : List (Nat × Nat × MX) → List (Nat × Operand) → Bool
  | [], [] => true
  | (off, n, x) :: r, (i, y) :: s => off == i * sz && n == sz && chkX x y && partsA sz r s
  | _, _ => false
/-- The kinds of the cells of a struct's fields. -/
def fieldKinds (kk : TypeId → Option (List (Option IntKind))) : Nat → List Field → Option (List (Option IntKind))
  | _, [] => some []
  | off, f :: r => if f.name != "_" && f.offset == off then match kk f.type with
    | some ks => if szB P f.type ks.length && decide (0 < ks.length) then (fieldKinds kk (off + ks.length) r).map (ks ++ ·) else none
    | none => none
    else none
/-- The kinds of the cells of a type that holds whole numbers and bools alone. -/
def kindsOf : Nat → TypeId → Option (List (Option IntKind))
  | 0, _ => none
  | d + 1, t => match P.underlying t with
    | some (.int k) => if szB P t 1 then some [some k] else none
    | some .bool => if szB P t 1 then some [none] else none
    | some (.array n e) => match kindsOf d e with
      | some ks => if szB P e ks.length && decide (0 < ks.length) && szB P t (n * ks.length) then some (List.replicate n ks).flatten else none
      | none => none
    | some (.struct fs) => if P.stoodInHeld t then none else match fieldKinds P (kindsOf d) 0 fs.toList with
      | some ks => if szB P t ks.length then some ks else none
      | none => none
    | _ => none
def tcB (tc : TC) (t : TypeId) : Bool := match tc with
  | .int => true
  | .str => true
  | .bool => match P.underlying t with
    | some .bool => true
    | _ => false
  | .sl => match P.underlying t with
    | some (.slice _) => true
    | _ => false
  | .ptr => match P.underlying t with
    | some (.pointer _) => true
    | _ => false
  | .agg ks => aggB P t && kindsOf P 20 t == some ks && !P.eqGuardType P.depth t

def isSliceB (t : TypeId) : Bool := match P.underlying t with
  | some (.slice _) => true
  | _ => false
def u8SliceB (t : TypeId) : Bool := match P.underlying t with
  | some (.slice e) => (match P.underlying e with
    | some (.int .u8) => true
    | _ => false)
  | _ => false

def chkOp (m : MOp) (op : Op) : Bool :=
  match m with
  | .mv x => match op with
    | .move y => chkX x y
    | .assign y => chkX x y
    | _ => false
  | .frz _ x => match op with
    | .move y => chkX x y
    | .assign y => chkX x y
    | _ => false
  | .vnil _ _ => match op with
    | .move (.const (.slice none 0 0)) => true
    | .assign (.const (.slice none 0 0)) => true
    | _ => false
  | .pick c a b => match op with
    | .pick c' a' b' => chkX c c' && chkX a a' && chkX b b'
    | _ => false
  | .alloc _ zs => match op with
    | .alloc t => zeroB P t zs
    | _ => false
  | .box _ x => match op with
    | .box _ y => chkX x y
    | _ => false
  | .build zs ps => match op with
    | .build t qs => zeroB P t zs && (match P.underlying t with
      | some (.struct fs) => fs.all (fun f => (P.info? f.type).isSome) && partsS P fs ps qs.toList
      | some (.array _ e) => (match P.info? e with
        | some i => partsA i.size ps qs.toList
        | none => false)
      | _ => false)
    | _ => false
  | .lit _ _ len sz zs ps => match op with
    | .buildSlice t n qs => n == len && (match P.underlying t with
      | some (.slice e) => szB P e sz && zeroB P e zs && zs.length == sz && decide (0 < sz) && decide (len * sz ≤ 16777216) && partsA sz ps qs.toList
      | _ => false)
    | _ => false
  | .load n _ x => match op with
    | .load t y => loadB P n t && chkX x y
    | _ => false
  | .store n _ _ x v => match op with
    | .store t y u => szB P t n && decide (0 < n) && chkX x y && chkX v u
    | _ => false
  | .nilchk x => match op with
    | .nilCheck y => chkX x y
    | _ => false
  | .bin o tc x y => match op with
    | .binOp o' t x' y' _ => o == o' && tcB P tc t && chkX x x' && chkX y y'
    | _ => false
  | .un o x => match op with
    | .unOp o' _ y => o == o' && chkX x y
    | _ => false
  | .conv k x => match op with
    | .convert s d y => (P.underlying s).isSome && (match P.underlying d with
        | some (.int k') => k == k'
        | _ => false) && chkX x y
    | _ => false
  | .b2s _ x => match op with
    | .convert s d y => u8SliceB P s && (match P.underlying d with
        | some .string => true
        | _ => false) && chkX x y
    | _ => false
  | .faddr off x => match op with
    | .fieldAddr s y f => (match P.underlying s with
        | some (.struct fs) => (match fs[f]? with
          | some fd => fd.offset == off && (match P.info? fd.type with
            | some i => i.size != 0
            | none => false)
          | none => false)
        | _ => false) && chkX x y
    | _ => false
  | .iaddrA len sz x i => match op with
    | .indexAddr t y j => (match P.underlying t with
        | some (.array n e) => n == len && szB P e sz
        | _ => false) && chkX x y && chkX i j
    | _ => false
  | .iaddrS sz x i => match op with
    | .indexAddr t y j => (match P.underlying t with
        | some (.slice e) => szB P e sz && decide (0 < sz)
        | _ => false) && chkX x y && chkX i j
    | _ => false
  | .index len sz ag x i => match op with
    | .index t y j => (match P.underlying t with
        | some (.array n e) => n == len && szB P e sz && decide (0 < sz) && (if ag then aggB P e else oneB P e)
        | _ => false) && chkX x y && chkX i j
    | _ => false
  | .field off n x => match op with
    | .field t y f => (match P.underlying t with
        | some (.struct fs) => (match fs[f]? with
          | some fd => fd.offset == off && loadB P n fd.type
          | none => false)
        | _ => false) && chkX x y
    | _ => false
  | .len x => match op with
    | .call { callee := .builtin .len, args, argTypes } => args.size == 1 && chkXs [x] args.toList && (match argTypes[0]? with
        | some t => (match P.underlying t with
          | some (.slice _) => true
          | _ => false)
        | none => false)
    | _ => false
  | .lenK n => match op with
    | .call { callee := .builtin .len, args, argTypes } => args.size == 1 && (match argTypes[0]? with
        | some t => (match P.underlying t with
          | some (.array m _) => m == n
          | _ => false)
        | none => false)
    | _ => false
  | .minmax mx xs => match op with
    | .call { callee := .builtin b, args, .. } => (match b with
        | .max => mx
        | .min => !mx
        | _ => false) && chkXs xs args.toList
    | _ => false
  | .sliceS sz x lo hi => match op with
    | .slice t y lo' hi' none => (match P.underlying t with
        | some (.slice e) => szB P e sz
        | _ => false) && chkX x y && chkXO lo lo' && chkXO hi hi'
    | _ => false
  | .sliceA n sz _ x lo hi => match op with
    | .slice t y lo' hi' none => (match P.underlying t with
        | some (.array m e) => m == n && szB P e sz
        | _ => false) && chkX x y && chkXO lo lo' && chkXO hi hi'
    | _ => false
  | .append bytes sz _ _ x y => match op with
    | .call { callee := .builtin .append, args, argTypes } => chkXs [x, y] args.toList && argTypes.size == 2 && (match argTypes[0]?, argTypes[1]? with
        | some t, some u => isSliceB P u && (match P.underlying t with
          | some (.slice e) => (match P.info? e with
            | some i => i.size == sz && i.bytes == bytes && (match i.zero with
              | some z => z.cells.size == sz
              | none => false)
            | none => false)
          | _ => false)
        | _, _ => false)
    | _ => false
  | .call f args _ _ _ _ => match op with
    | .call { callee := .value g, args := as, .. } => chkX f g && chkXs args as.toList
    | _ => false
  | .extract x i => match op with
    | .extract y j => i == j && chkX x y
    | _ => false
  | .make _ bytes sz zs len cap => match op with
    | .makeSlice t l c => (match P.underlying t with
        | some (.slice e) => (match P.info? e with
          | some i => i.size == sz && i.bytes == bytes && zeroB P e zs && decide (0 < sz) && zs.all AV.tree
          | none => false)
        | _ => false) && chkX len l && chkX cap c
    | _ => false
  | .copy sz _ _ x y => match op with
    | .call { callee := .builtin .copy, args, argTypes } => chkXs [x, y] args.toList && (match argTypes[0]? with
        | some t => (match P.underlying t with
          | some (.slice e) => szB P e sz
          | _ => false)
        | none => false)
    | _ => false
  | .mkfn f xs ys => match op with
    | .makeFunc (.func g) as bs => f == g && chkXs xs as.toList && chkXs ys bs.toList
    | _ => false

def chkGuard (ops : Array Oper) : Option (Nat × Bool) → Option (Nat × Bool) → Bool
  | none, none => true
  | some (d, w), some (j, w') => w == w' && ((ops[j]?).bind (·.dst)) == some d
  | _, _ => false
def chkOper (ops : Array Oper) (m : MOper) (o : Oper) : Bool := m.dst == o.dst && chkGuard ops m.guard o.guard && chkOp P m.op o.op
def chkOpers (ops : Array Oper) : List MOper → List Oper → Bool
  | [], [] => true
  | m :: ms, o :: os => chkOper P ops m o && chkOpers ops ms os
  | _, _ => false
end

/-! ### Regions that draw their order -/
/-- The objects that an operation reads or lays; those that it lays. -/
def fpR : MOp → List Nat
  | .vnil t _ => [t]
  | .alloc t _ => [t]
  | .box t _ => [t]
  | .lit t fz _ _ _ _ => t.toList ++ fz
  | .frz fz _ => fz
  | .load _ o _ => o.toList
  | .store _ o fz _ _ => o :: fz
  | .b2s o _ => o.toList
  | .sliceA _ _ o _ _ _ => o.toList
  | .append _ _ t y _ _ => t :: y.toList
  | .call _ _ objs fzs ret _ => objs ++ fzs ++ ret.map (·.2)
  | .make t _ _ _ _ _ => [t]
  | .copy _ o y _ _ => o :: y.toList
  | _ => []
def fpW : MOp → List Nat
  | .vnil t _ => [t]
  | .alloc t _ => [t]
  | .box t _ => [t]
  | .lit t fz _ _ _ _ => t.toList ++ fz
  | .frz fz _ => fz
  | .store _ o fz _ _ => o :: fz
  | .append _ _ t _ _ _ => [t]
  | .call _ _ objs fzs ret frz => objs ++ (if frz then fzs else []) ++ ret.map (·.2)
  | .make t _ _ _ _ _ => [t]
  | .copy _ o _ _ _ => [o]
  | _ => []
def MX.slots : MX → List Nat
  | .s n => [n]
  | .c _ => []
def MOp.slots : MOp → List Nat
  | .mv x | .box _ x | .load _ _ x | .nilchk x | .un _ x | .conv _ x | .b2s _ x | .faddr _ x | .field _ _ x | .len x | .extract x _ | .frz _ x => x.slots
  | .vnil _ _ | .alloc _ _ | .lenK _ => []
  | .pick c a b => c.slots ++ a.slots ++ b.slots
  | .build _ ps | .lit _ _ _ _ _ ps => ps.flatMap fun p => p.2.2.slots
  | .store _ _ _ x y | .bin _ _ x y | .iaddrA _ _ x y | .iaddrS _ x y | .index _ _ _ x y | .append _ _ _ _ x y | .make _ _ _ _ x y | .copy _ _ _ x y => x.slots ++ y.slots
  | .minmax _ xs => xs.flatMap MX.slots
  | .sliceS _ x lo hi | .sliceA _ _ _ x lo hi => x.slots ++ (lo.toList ++ hi.toList).flatMap MX.slots
  | .call f xs _ _ _ _ => f.slots ++ xs.flatMap MX.slots
  | .mkfn _ xs ys => xs.flatMap MX.slots ++ ys.flatMap MX.slots
def MOper.looks (o : MOper) : List Nat := (match o.guard with
  | some (d, _) => [d]
  | none => []) ++ o.op.slots
def disj (a b : List Nat) : Bool := a.all fun x => !b.contains x
/-- Whichever of the two comes first makes no difference. -/
def apart (a b : MOper) : Bool :=
  disj a.dst.toList (b.looks ++ b.dst.toList) && disj b.dst.toList a.looks && disj (fpW a.op) (fpR b.op) && disj (fpW b.op) (fpR a.op)
/-- Operation i, which comes next in the text, is apart from all that may come ahead of it. -/
def depOn (ops : Array Oper) (i j : Nat) : Bool := (((Region.before ops).getD j 0).testBit i)
def lexFrom (ops : Array Oper) (ms : List MOper) : Nat → List MOper → Bool
  | _, [] => true
  | k, m :: r => ((List.range ms.length).all fun j => decide (j ≤ k) || depOn ops k j || (match ms[j]? with
      | some n => apart m n
      | none => true)) && lexFrom ops ms (k + 1) r

/-- Every operation waits for earlier ones of the text alone. -/
def afterB (ops : Array Oper) : Bool := (List.range ops.size).all fun k => match ops[k]? with
  | some o => o.after.all fun e => !Region.binds .any e || decide (e.on < k)
  | none => true

section
variable (P : Program)
def chkCode : MCode → Code → Bool
  | .skip, .skip => true
  | .region d ms, .region _ ops draw => d == draw && ms.length == ops.size && chkOpers P ops ms ops.toList && (!d || (P.follows .mixedOrders && afterB ops && lexFrom ops ms 0 ms))
  | .seq a b, .seq c d => chkCode a c && chkCode b d
  | .cond x a b, .cond y c d => chkX x y && chkCode a c && chkCode b d
  | .block i a, .block j c => i == j && chkCode a c
  | .loop _ _ a, .loop c => chkCode a c
  | .exit i, .exit j => i == j
  | .ret, .ret => true
  | _, _ => false
def chkRes : List MRes → List ResultVar → Bool
  | [], [] => true
  | .slot n :: r, .tmp t :: s => n == t && chkRes r s
  | .cell n _ k :: r, .cell t ty :: s => n == t && loadB P k ty && chkRes r s
  | _, _ => false
def chkFun (m : MFun) (fn : Func) : Bool :=
  (fn.name != "runtime.NumGoroutine") && m.nt == fn.ntmps && decide (m.np ≤ m.nt) && chkRes P m.res fn.results.toList && (match fn.body with
    | some c => chkCode P m.body c
    | none => false)
end

end Go.Ev
