/- A small evaluator for the loaded code: values by value, own rows by number; nothing is proved here. -/
import GoSem.Dispatch
import Derived.Calls
set_option linter.unusedSimpArgs false
set_option linter.unusedVariables false
namespace Go.Ev

/-- Values of the evaluator. `ro n cs`: a slice of n elements whose cells never change any more; `rptr cs`: a pointer to such cells;
`own i ver off len sz`, `ptr i ver off`: a slice, a pointer into object i as it is since its version ver. -/
inductive AV where
  | undef
  | bool (b : Bool)
  | int (k : IntKind) (n : Int)
  | str (l : List UInt8)
  | nilptr
  | nilsl
  | nilfn
  | emp (nl : Bool)
  | ro (n : Nat) (cs : List AV)
  | rptr (cs : List AV)
  | own (i ver off len sz : Nat)
  | ptr (i ver off : Nat)
  | agg (cs : List AV)
  | tup (cs : List AV)
  | fn (f : FuncId) (first caps : List AV)
  deriving Inhabited

inductive ABody where
  | none
  | var (cs : List AV)
  | row (mu : Bool) (sz : Nat) (cs : List AV)
  deriving Inhabited

structure AObj where
  ver : Nat
  body : ABody
  deriving Inhabited

/-- A value of one cell that holds no reference to an object. -/
def AV.tree : AV → Bool
  | .bool _ | .int _ _ | .str _ | .nilptr | .nilsl | .ro _ _ => true
  | _ => false
/-- A value of one cell. -/
def AV.atom : AV → Bool
  | .undef | .agg _ | .tup _ => false
  | _ => true
def AV.cells : AV → List AV
  | .agg cs => cs
  | a => [a]

inductive MX where
  | s (n : Nat)
  | c (a : AV)
  deriving Inhabited

/-- What a comparison compares. -/
inductive TC where
  | int | bool | str | sl | ptr
  | agg (ks : List (Option IntKind))
  deriving Inhabited

inductive MOp where
  | mv (x : MX)
  | vnil (tgt sz : Nat)
  | pick (c a b : MX)
  | alloc (tgt : Nat) (zs : List AV)
  | box (tgt : Nat) (x : MX)
  | build (zs : List AV) (parts : List (Nat × Nat × MX))
  | lit (tgt : Option Nat) (fz : List Nat) (len sz : Nat) (zs : List AV) (parts : List (Nat × Nat × MX))
  | load (n : Option Nat) (o : Option Nat) (x : MX)
  | store (n : Nat) (o : Nat) (fz : List Nat) (x v : MX)
  | nilchk (x : MX)
  | bin (op : BinOp) (tc : TC) (x y : MX)
  | un (op : UnOp) (x : MX)
  | conv (k : IntKind) (x : MX)
  | b2s (o : Option Nat) (x : MX)
  | faddr (off : Nat) (x : MX)
  | iaddrA (len sz : Nat) (x i : MX)
  | iaddrS (sz : Nat) (x i : MX)
  | index (len sz : Nat) (ag : Bool) (x i : MX)
  | field (off : Nat) (n : Option Nat) (x : MX)
  | len (x : MX)
  | lenK (n : Nat)
  | minmax (mx : Bool) (xs : List MX)
  | sliceS (sz : Nat) (x : MX) (lo hi : Option MX)
  | sliceA (n sz : Nat) (o : Option Nat) (x : MX) (lo hi : Option MX)
  | append (bytes sz tgt : Nat) (ysrc : Option Nat) (x y : MX)
  | call (f : MX) (args : List MX) (objs fzs : List Nat) (ret : List (Nat × Nat)) (frz : Bool)
  | extract (x : MX) (i : Nat)
  | make (tgt bytes sz : Nat) (zs : List AV) (len cap : MX)
  | copy (sz o : Nat) (ysrc : Option Nat) (x y : MX)
  | mkfn (f : FuncId) (first caps : List MX)
  | frz (fz : List Nat) (x : MX)
  deriving Inhabited

structure MOper where
  dst : Option Nat
  guard : Option (Nat × Bool)
  op : MOp
  deriving Inhabited

inductive MCode where
  | skip
  | region (draw : Bool) (ops : List MOper)
  | seq (a b : MCode)
  | cond (x : MX) (a b : MCode)
  | block (id : Nat) (c : MCode)
  | loop (lv ids : List Nat) (c : MCode)
  | exit (id : Nat)
  | ret
  deriving Inhabited

inductive MRes where
  | slot (n : Nat)
  | cell (slot o : Nat) (n : Option Nat)
  deriving Inhabited

structure MFun where
  nt : Nat
  np : Nat
  no : Nat
  res : List MRes
  body : MCode
  deriving Inhabited

def ev (sl : List AV) : MX → AV
  | .s n => sl.getD n .undef
  | .c a => a

/-! ### Integers -/
def binInt (op : BinOp) (k : IntKind) (x : Int) (k' : IntKind) (y : Int) : Option AV :=
  match op with
  | .shl => if y < 0 then none else some (.int k (k.wrap (x * 2 ^ (min y.toNat k.bits))))
  | .shr => if y < 0 then none else some (.int k (x.fdiv (2 ^ (min y.toNat k.bits))))
  | op => if k ≠ k' then none else match op with
    | .add => some (.int k (k.wrap (x + y)))
    | .sub => some (.int k (k.wrap (x - y)))
    | .mul => some (.int k (k.wrap (x * y)))
    | .quo => if y = 0 then none else some (.int k (k.wrap (x.tdiv y)))
    | .rem => if y = 0 then none else some (.int k (x.tmod y))
    | .and => some (.int k (k.wrap ((BitVec.ofInt k.bits x &&& BitVec.ofInt k.bits y).toNat : Int)))
    | .or => some (.int k (k.wrap ((BitVec.ofInt k.bits x ||| BitVec.ofInt k.bits y).toNat : Int)))
    | .xor => some (.int k (k.wrap ((BitVec.ofInt k.bits x ^^^ BitVec.ofInt k.bits y).toNat : Int)))
    | .andNot => some (.int k (k.wrap ((BitVec.ofInt k.bits x &&& ~~~ BitVec.ofInt k.bits y).toNat : Int)))
    | .eql => some (.bool (x == y))
    | .neq => some (.bool (x != y))
    | .lss => some (.bool (decide (x < y)))
    | .leq => some (.bool (decide (x ≤ y)))
    | .gtr => some (.bool (decide (x > y)))
    | .geq => some (.bool (decide (x ≥ y)))
    | _ => none
/-- Two rows of plain cells alike? ks: their kinds (none: a bool). -/
def eqCells : List (Option IntKind) → List AV → List AV → Option Bool
  | [], [], [] => some true
  | some k :: ks, .int k1 a :: xs, .int k2 b :: ys => if k1 = k ∧ k2 = k then (eqCells ks xs ys).map ((a == b) && ·) else none
  | none :: ks, .bool a :: xs, .bool b :: ys => (eqCells ks xs ys).map ((a == b) && ·)
  | _, _, _ => none
def isNilS : AV → Option Bool
  | .emp b => some b
  | .nilsl => some true
  | .ro n _ => if n = 0 then none else some false
  | .own _ _ _ len _ => if len = 0 then none else some false
  | _ => none
def isNilP : AV → Option Bool
  | .nilptr => some true
  | .ptr _ _ _ => some false
  | .rptr _ => some false
  | _ => none
def binV (op : BinOp) (tc : TC) (x y : AV) : Option AV :=
  match tc with
  | .int => match x, y with
    | .int k a, .int k' b => binInt op k a k' b
    | _, _ => none
  | .bool => match op, x, y with
    | .eql, .bool a, .bool b => some (.bool (a == b))
    | .neq, .bool a, .bool b => some (.bool (!(a == b)))
    | _, _, _ => none
  | .str => match op, x, y with
    | .eql, .str a, .str b => some (.bool (a == b))
    | .neq, .str a, .str b => some (.bool (!(a == b)))
    | .lss, .str a, .str b => some (.bool (Op.bytesLess a b))
    | .leq, .str a, .str b => some (.bool (Op.bytesLess a b || a == b))
    | .gtr, .str a, .str b => some (.bool (!(Op.bytesLess a b || a == b)))
    | .geq, .str a, .str b => some (.bool (!Op.bytesLess a b))
    | _, _, _ => none
  | .agg ks => match op, x, y with
    | .eql, .agg a, .agg b => (eqCells ks a b).map .bool
    | .neq, .agg a, .agg b => (eqCells ks a b).map fun r => .bool (!r)
    | _, _, _ => none
  | .sl => match op, y with
    | .eql, .nilsl => (isNilS x).map .bool
    | .neq, .nilsl => (isNilS x).map fun r => .bool (!r)
    | _, _ => none
  | .ptr => match op, y with
    | .eql, .nilptr => (isNilP x).map .bool
    | .neq, .nilptr => (isNilP x).map fun r => .bool (!r)
    | _, _ => none
def unV (op : UnOp) (x : AV) : Option AV :=
  match op, x with
  | .not, .bool b => some (.bool !b)
  | .neg, .int k n => some (.int k (k.wrap (0 - n)))
  | .xor, .int k n => binInt .xor k (if k.signed then -1 else k.max) k n
  | _, _ => none
def foldMM (mx : Bool) (k : IntKind) (n : Int) : List AV → Option AV
  | [] => some (.int k n)
  | .int k' m :: r => if k ≠ k' then none else foldMM mx k (if mx then (if m > n then m else n) else (if m < n then m else n)) r
  | _ :: _ => none
def mmV (mx : Bool) : List AV → Option AV
  | .int k n :: r => foldMM mx k n r
  | _ => none

/-! ### Cells -/
/-- The cells of object i, if ver is its version. -/
def bodyCells : ABody → Option (List AV)
  | .none => none
  | .var cs => some cs
  | .row _ _ cs => some cs
def objCells (H : List AObj) (i ver : Nat) : Option (List AV) :=
  match H[i]? with
  | some o => if o.ver = ver then bodyCells o.body else none
  | none => none
def loadCells (H : List AObj) (o : Option Nat) (a : AV) (n : Nat) : Option (List AV) :=
  match o, a with
  | none, .rptr cs => if n ≤ cs.length then some (cs.take n) else none
  | some i, .ptr j ver off => if i ≠ j then none else match objCells H j ver with
    | some cs => if off + n ≤ cs.length then some ((cs.drop off).take n) else none
    | none => none
  | _, _ => none
def load1 (H : List AObj) (o : Option Nat) (a : AV) : Option AV :=
  match o, a with
  | none, .rptr cs => cs[0]?
  | some i, .ptr j ver off => if i ≠ j then none else match objCells H j ver with
    | some cs => cs[off]?
    | none => none
  | _, _ => none
/-- A cell that may lie in a row: own rows (of those in fz) are told as they stand. -/
def treeCell (H : List AObj) (fz : List Nat) : AV → Option AV
  | .nilsl => some (.ro 0 [])
  | .own i ver off len sz => if fz.contains i then match H[i]? with
      | some ⟨v, .row _ _ cs⟩ => if v = ver ∧ off + len * sz ≤ cs.length then some (.ro len ((cs.drop off).take (len * sz))) else none
      | _ => none
    else none
  | a => if a.tree then some a else none
def mapO (f : AV → Option AV) : List AV → Option (List AV)
  | [] => some []
  | a :: r => match f a with
    | some b => (mapO f r).map (b :: ·)
    | none => none
def freezeBody : ABody → ABody
  | .row _ sz cs => .row false sz cs
  | b => b
/-- Own rows that are told as they stand do not change any more. -/
def freezeAll (H : List AObj) : List Nat → Option (List (Nat × AObj))
  | [] => some []
  | i :: r => match H[i]?, freezeAll H r with
    | some ⟨v, .row _ sz cs⟩, some l => some ((i, ⟨v, .row false sz cs⟩) :: l)
    | some ⟨_, .none⟩, some l => some l
    | _, _ => none
def setCells (cs : List AV) (off : Nat) (new : List AV) : List AV := cs.take off ++ new ++ cs.drop (off + new.length)
def fillV (cells : List AV) : List (Nat × Nat × AV) → Option (List AV)
  | [] => some cells
  | (off, n, v) :: r =>
    if v.cells.length ≠ n ∨ off + n > cells.length ∨ v.cells.all AV.atom = false then none else fillV (setCells cells off v.cells) r
def repeatL (n : Nat) (zs : List AV) : List AV := (List.replicate n zs).flatten
/-- The elements that a source of append or copy has. -/
def srcCells (H : List AObj) (ysrc : Option Nat) (sz : Nat) : AV → Option (Nat × List AV)
  | .ro n cs => if cs.length = n * sz then some (n, cs) else none
  | .nilsl => some (0, [])
  | .emp _ => some (0, [])
  | .own i ver off len sz' => if ysrc = some i ∧ sz' = sz then match objCells H i ver with
      | some cs => if off + len * sz ≤ cs.length then
          (if ((cs.drop off).take (len * sz)).all AV.tree then some (len, (cs.drop off).take (len * sz)) else none) else none
      | none => none
    else none
  | _ => none
def bytesOf : List AV → Option (List UInt8)
  | [] => some []
  | .int .u8 n :: r => (bytesOf r).map (UInt8.ofNat n.toNat :: ·)
  | _ :: _ => none

/-! ### What a call hands over, and back -/
/-- A value as a callee gets it: references to objects that go along are turned, own rows else are told as they stand. -/
def passCell (H : List AObj) (objs fzs : List Nat) : AV → Option AV
  | .own i ver off len sz => match objs.idxOf? i with
    | some k => match H[i]? with
      | some o => if o.ver = ver then some (.own k 0 off len sz) else none
      | none => none
    | none => if fzs.contains i then match objCells H i ver with
        | some cs => if off + len * sz ≤ cs.length then
            (if ((cs.drop off).take (len * sz)).all AV.tree then some (.ro len ((cs.drop off).take (len * sz))) else none) else none
        | none => none
      else none
  | .ptr i ver off => match objs.idxOf? i with
    | some k => match H[i]? with
      | some o => if o.ver = ver then some (.ptr k 0 off) else none
      | none => none
    | none => none
  | .nilsl => some (.ro 0 [])
  | .agg _ | .tup _ | .fn _ _ _ => none
  | a => some a
def passV (H : List AObj) (objs fzs : List Nat) : AV → Option AV
  | .agg cs => (mapO (passCell H objs fzs) cs).map .agg
  | .fn f first caps => match mapO (passCell H objs fzs) first, mapO (passCell H objs fzs) caps with
    | some a, some b => some (.fn f a b)
    | _, _ => none
  | a => passCell H objs fzs a
def passBody (H : List AObj) (objs fzs : List Nat) : ABody → Option ABody
  | .none => none
  | .var cs => (mapO (passCell H objs fzs) cs).map .var
  | .row m sz cs => some (.row m sz cs)
def passObjs (H : List AObj) (objs fzs : List Nat) : List Nat → Option (List AObj)
  | [] => some []
  | i :: r => match H[i]? with
    | some o => match passBody H objs fzs o.body, passObjs H objs fzs r with
      | some b, some l => some (⟨0, b⟩ :: l)
      | _, _ => none
    | none => none
/-- A value as it comes back: m objects went along. -/
def backCell (H H1 : List AObj) (objs : List Nat) (ret : List (Nat × Nat)) : AV → Option AV
  | .own k ver off len sz => match H1[k]? with
    | some o => if o.ver = ver then match objs[k]? with
        | some i => match H[i]? with
          | some oi => some (.own i (oi.ver + ver) off len sz)
          | none => none
        | none => match ret.lookup k with
          | some t => match H[t]? with
            | some ot => some (.own t (ot.ver + 1) off len sz)
            | none => none
          | none => match o.body with
            | .row _ _ cs => if off + len * sz ≤ cs.length then some (.ro len ((cs.drop off).take (len * sz))) else none
            | _ => none
      else none
    | none => none
  | .ptr k ver off => match H1[k]? with
    | some o => if o.ver = ver then match objs[k]? with
        | some i => match H[i]? with
          | some oi => some (.ptr i (oi.ver + ver) off)
          | none => none
        | none => none
      else none
    | none => none
  | .nilsl => some (.ro 0 [])
  | .agg _ | .tup _ | .fn _ _ _ => none
  | a => some a
def backV (H H1 : List AObj) (objs : List Nat) (ret : List (Nat × Nat)) : AV → Option AV
  | .agg cs => (mapO (backCell H H1 objs ret) cs).map .agg
  | a => backCell H H1 objs ret a
def backR (H H1 : List AObj) (objs : List Nat) (ret : List (Nat × Nat)) : AV → Option AV
  | .tup vs => (mapO (backV H H1 objs ret) vs).map .tup
  | a => backV H H1 objs ret a
def backBody (H H1 : List AObj) (objs : List Nat) (ret : List (Nat × Nat)) : ABody → Option ABody
  | .none => none
  | .var cs => (mapO (backCell H H1 objs ret) cs).map .var
  | .row m sz cs => some (.row m sz cs)
def backObjs (H H1 : List AObj) (objs : List Nat) (ret : List (Nat × Nat)) : List Nat → List AObj → Option (List (Nat × AObj))
  | [], _ => some []
  | i :: r, o :: l => match H[i]?, backBody H H1 objs ret o.body, backObjs H H1 objs ret r l with
    | some oi, some b, some u => some ((i, ⟨oi.ver + o.ver, b⟩) :: u)
    | _, _, _ => none
  | _ :: _, [] => none
def adopts (H H1 : List AObj) : List (Nat × Nat) → Option (List (Nat × AObj))
  | [] => some []
  | (k, t) :: r => match H1[k]?, H[t]?, adopts H H1 r with
    | some ⟨_, .row m sz cs⟩, some ot, some u => some ((t, ⟨ot.ver + 1, .row m sz cs⟩) :: u)
    | _, _, _ => none
/-- No slice of cells that never change, anywhere in it. -/
def AV.flat1 : AV → Bool
  | .ro _ cs => cs.isEmpty
  | .rptr _ | .agg _ | .tup _ | .fn _ _ _ | .own _ _ _ _ _ => false
  | _ => true
def AV.flat : AV → Bool
  | .agg cs => cs.all AV.flat1
  | .tup cs => cs.all fun a => match a with
    | .agg cs => cs.all AV.flat1
    | a => a.flat1
  | a => a.flat1
def bodyFlat : ABody → Bool
  | .none => true
  | .var cs => cs.all AV.flat1
  | .row m _ cs => m && cs.all AV.flat1

/-- What an operation comes to: its value, and the objects that it lays. -/
abbrev Eff := Option (AV × List (Nat × AObj))
def CallF := FuncId → List AV → List AObj → Option (AV × List AObj)

def hiB (n : Nat) : Option AV → Option Nat
  | none => some n
  | some (.int _ h) => if 0 ≤ h ∧ h ≤ n then some h.toNat else none
  | some _ => none
def loB (h : Nat) : Option AV → Option Nat
  | none => some 0
  | some (.int _ l) => if 0 ≤ l ∧ l ≤ h then some l.toNat else none
  | some _ => none
def sliceBounds (n : Nat) (lo hi : Option AV) : Option (Nat × Nat) :=
  match hiB n hi with
  | none => none
  | some h => match loB h lo with
    | none => none
    | some l => some (l, h)

def okIds (objs fzs : List Nat) (ret : List (Nat × Nat)) : Bool :=
  decide (objs.Nodup) && decide ((ret.map (·.1)).Nodup) && decide ((ret.map (·.2)).Nodup) && (ret.map (·.2)).all (fun t => !objs.contains t && !fzs.contains t) && fzs.all (fun i => !objs.contains i) &&
  ret.all (fun p => decide (objs.length ≤ p.1))
def callV (cf : CallF) (H : List AObj) (f : AV) (args : List AV) (objs fzs : List Nat) (ret : List (Nat × Nat)) (frz : Bool) : Eff :=
  match f with
  | .fn f first caps =>
    if okIds objs fzs ret then
    match mapO (passV H objs fzs) (first ++ args ++ caps), passObjs H objs fzs objs with
    | some as, some H0 =>
      match cf f as H0 with
      | some (r, H1) =>
        match backR H H1 objs ret r, backObjs H H1 objs ret objs H1, adopts H H1 ret with
        | some r', some ups, some ads =>
          if frz then (freezeAll H fzs).map fun fr => (r', fr ++ ups ++ ads)
          else if r.flat && (H1.take objs.length).all (fun o => bodyFlat o.body) && ret.isEmpty then some (r', ups) else none
        | _, _, _ => none
      | none => none
    | _, _ => none
    else none
  | _ => none

def opV (cf : CallF) (sl : List AV) (H : List AObj) : MOp → Eff
  | .mv x => some (ev sl x, [])
  | .vnil t sz => match H[t]? with
    | some o => some (.own t (o.ver + 1) 0 0 sz, [(t, ⟨o.ver + 1, .row true sz []⟩)])
    | none => none
  | .pick c a b => match ev sl c with
    | .bool true => some (ev sl a, [])
    | .bool false => some (ev sl b, [])
    | _ => none
  | .alloc t zs => match H[t]? with
    | some o => some (.ptr t (o.ver + 1) 0, [(t, ⟨o.ver + 1, .var zs⟩)])
    | none => none
  | .box t x => match H[t]? with
    | some o => if (ev sl x).cells.all AV.atom then some (.ptr t (o.ver + 1) 0, [(t, ⟨o.ver + 1, .var (ev sl x).cells⟩)]) else none
    | none => none
  | .build zs parts => (fillV zs (parts.map fun p => (p.1, p.2.1, ev sl p.2.2))).map fun cs => (.agg cs, [])
  | .lit t fz len sz zs parts =>
    match fillV (repeatL len zs) (parts.map fun p => (p.1, p.2.1, ev sl p.2.2)) with
    | some cs => match mapO (treeCell H fz) cs with
      | some cs => match freezeAll H fz with
        | some fr => match t with
          | none => some (.ro len cs, fr)
          | some t => match H[t]? with
            | some o => some (.own t (o.ver + 1) 0 len sz, fr ++ [(t, ⟨o.ver + 1, .row true sz cs⟩)])
            | none => none
        | none => none
      | none => none
    | none => none
  | .load none o x => (load1 H o (ev sl x)).map fun a => (a, [])
  | .load (some n) o x => (loadCells H o (ev sl x) n).map fun cs => (.agg cs, [])
  | .store n o fz x v => match ev sl x with
    | .ptr j ver off => if o ≠ j ∨ (ev sl v).cells.length ≠ n then none else match H[j]? with
      | some ob => if ob.ver ≠ ver then none else match ob.body with
        | .var cs => if off + n ≤ cs.length ∧ (ev sl v).cells.all AV.atom then some (.tup [], [(j, ⟨ver, .var (setCells cs off (ev sl v).cells)⟩)]) else none
        | .row true sz cs => if off + n ≤ cs.length then
            match mapO (treeCell H fz) (ev sl v).cells, freezeAll H fz with
            | some new, some fr => if fz.contains j then none else some (.tup [], fr ++ [(j, ⟨ver, .row true sz (setCells cs off new)⟩)])
            | _, _ => none
          else none
        | _ => none
      | none => none
    | _ => none
  | .nilchk x => match ev sl x with
    | .ptr i ver off => some (.ptr i ver off, [])
    | .rptr cs => some (.rptr cs, [])
    | .fn f a b => some (.fn f a b, [])
    | _ => none
  | .bin op tc x y => (binV op tc (ev sl x) (ev sl y)).map fun a => (a, [])
  | .un op x => (unV op (ev sl x)).map fun a => (a, [])
  | .conv k x => match ev sl x with
    | .int _ n => some (.int k (k.wrap n), [])
    | _ => none
  | .b2s o x => match srcCells H o 1 (ev sl x) with
    | some (_, cs) => (bytesOf cs).map fun l => (.str l, [])
    | none => none
  | .faddr off x => match ev sl x with
    | .ptr i ver o => some (.ptr i ver (o + off), [])
    | .rptr cs => some (.rptr (cs.drop off), [])
    | _ => none
  | .iaddrA len sz x i => match ev sl i with
    | .int _ n => if 0 ≤ n ∧ n < len then match ev sl x with
        | .ptr j ver o => some (.ptr j ver (o + n.toNat * sz), [])
        | .rptr cs => some (.rptr (cs.drop (n.toNat * sz)), [])
        | _ => none
      else none
    | _ => none
  | .iaddrS sz x i => match ev sl i with
    | .int _ n => match ev sl x with
      | .ro len cs => if 0 ≤ n ∧ n < len then some (.rptr (cs.drop (n.toNat * sz)), []) else none
      | .own j ver off len sz' => if sz' = sz ∧ 0 ≤ n ∧ n < len then some (.ptr j ver (off + n.toNat * sz), []) else none
      | _ => none
    | _ => none
  | .index len sz ag x i => match ev sl i with
    | .int _ n => match ev sl x with
      | .agg cs => if 0 ≤ n ∧ n < len then
          (if ag then (if n.toNat * sz + sz ≤ cs.length then some (.agg ((cs.drop (n.toNat * sz)).take sz), []) else none) else (cs[n.toNat * sz]?).map fun a => (a, []))
        else none
      | _ => none
    | _ => none
  | .field off n x => match ev sl x with
    | .agg cs => match n with
      | some n => if off + n ≤ cs.length then some (.agg ((cs.drop off).take n), []) else none
      | none => (cs[off]?).map fun a => (a, [])
    | _ => none
  | .len x => match ev sl x with
    | .ro n _ => some (.int .i64 n, [])
    | .nilsl => some (.int .i64 0, [])
    | .own _ _ _ len _ => some (.int .i64 len, [])
    | _ => none
  | .lenK n => some (.int .i64 n, [])
  | .minmax mx xs => (mmV mx (xs.map (ev sl))).map fun a => (a, [])
  | .sliceS sz x lo hi => match ev sl x with
    | .ro n cs => match sliceBounds n (lo.map (ev sl)) (hi.map (ev sl)) with
      | some (l, h) => some (.ro (h - l) ((cs.drop (l * sz)).take ((h - l) * sz)), [])
      | none => none
    | .nilsl => match sliceBounds 0 (lo.map (ev sl)) (hi.map (ev sl)) with
      | some _ => some (.nilsl, [])
      | none => none
    | .own i ver off n sz' => if sz' ≠ sz then none else match sliceBounds n (lo.map (ev sl)) (hi.map (ev sl)) with
      | some (l, h) => if l = h then some (.ro 0 [], []) else some (.own i ver (off + l * sz) (h - l) sz, [])
      | none => none
    | _ => none
  | .sliceA n sz ob x lo hi => match sliceBounds n (lo.map (ev sl)) (hi.map (ev sl)) with
    | some (l, h) => match ev sl x with
      | .ptr i ver off => if ob ≠ some i then none else match objCells H i ver with
        | some cs => if off + n * sz ≤ cs.length then (if l = h then some (.ro 0 [], []) else some (.own i ver (off + l * sz) (h - l) sz, [])) else none
        | none => none
      | .rptr cs => if n * sz ≤ cs.length then some (.ro (h - l) ((cs.drop (l * sz)).take ((h - l) * sz)), []) else none
      | _ => none
    | none => none
  | .append bytes sz t ysrc x y => match srcCells H ysrc sz (ev sl y) with
    | some (n, new) => match H[t]? with
      | some o => match ev sl x with
        | .own i ver off len sz' => if i = t ∧ ver = o.ver ∧ off = 0 ∧ sz' = sz then match o.body with
            | .row true sz'' cs => if sz'' = sz ∧ len * sz = cs.length ∧ (len + n) * bytes ≤ 140737488355328 ∧ len + n < 4611686018427387904 then
                some (.own t (ver + 1) 0 (len + n) sz, [(t, ⟨ver + 1, .row true sz (cs ++ new)⟩)]) else none
            | _ => none
          else none
        | .nilsl => if 0 < n ∧ n * bytes ≤ 140737488355328 ∧ n < 4611686018427387904 then
            some (.own t (o.ver + 1) 0 n sz, [(t, ⟨o.ver + 1, .row true sz new⟩)]) else none
        | _ => none
      | none => none
    | none => none
  | .call f args objs fzs ret frz => callV cf H (ev sl f) (args.map (ev sl)) objs fzs ret frz
  | .extract x i => match ev sl x with
    | .tup vs => (vs[i]?).map fun a => (a, [])
    | _ => none
  | .make t bytes sz zs len cap => match ev sl len, ev sl cap with
    | .int .i64 n, .int .i64 c => if n = c ∧ 0 ≤ n ∧ n * bytes ≤ 140737488355328 ∧ n < 4611686018427387904 ∧ zs.length = sz then match H[t]? with
        | some o => some (.own t (o.ver + 1) 0 n.toNat sz, [(t, ⟨o.ver + 1, .row true sz (repeatL n.toNat zs)⟩)])
        | none => none
      else none
    | _, _ => none
  | .copy sz o ysrc x y => match srcCells H ysrc sz (ev sl y) with
    | some (n, new) => match ev sl x with
      | .own i ver off len sz' => if o ≠ i ∨ sz' ≠ sz then none else match H[i]? with
        | some ob => if ob.ver ≠ ver then none else match ob.body with
          | .var cs => if off + len * sz ≤ cs.length then
              some (.int .i64 (min n len : Nat), [(i, ⟨ver, .var (setCells cs off (new.take (min n len * sz)))⟩)]) else none
          | .row true sz'' cs => if off + len * sz ≤ cs.length then
              some (.int .i64 (min n len : Nat), [(i, ⟨ver, .row true sz'' (setCells cs off (new.take (min n len * sz)))⟩)]) else none
          | _ => none
        | none => none
      | _ => none
    | none => none
  | .mkfn f first caps => some (.fn f (first.map (ev sl)) (caps.map (ev sl)), [])
  | .frz fz x => match treeCell H fz (ev sl x), freezeAll H fz with
    | some a, some fr => some (a, fr)
    | _, _ => none

structure St where
  sl : List AV
  H : List AObj
  deriving Inhabited

def layAll (H : List AObj) : List (Nat × AObj) → List AObj
  | [] => H
  | (i, o) :: r => layAll (H.set i o) r
def putV (sl : List AV) (dst : Option Nat) (a : AV) : List AV :=
  match dst with
  | some d => sl.set d a
  | none => sl
def wanted (sl : List AV) : Option (Nat × Bool) → Option Bool
  | none => some true
  | some (d, want) => match sl.getD d .undef with
    | .bool b => some (b == want)
    | .tup [] => some false
    | _ => none
def stepOp (cf : CallF) (o : MOper) (st : St) : Option St :=
  match wanted st.sl o.guard with
  | some true => match opV cf st.sl st.H o.op with
    | some (a, ups) => some ⟨putV st.sl o.dst a, layAll st.H ups⟩
    | none => none
  | some false => some ⟨putV st.sl o.dst (.tup []), st.H⟩
  | none => none
def runOps (cf : CallF) : List MOper → St → Option St
  | [], st => some st
  | o :: r, st => match stepOp cf o st with
    | some st => runOps cf r st
    | none => none

/-! ### Loops: at their head what is not looked at any more is let go, versions begin anew -/
def fixCell (m : Nat) (ids : List Nat) (H : List AObj) : AV → AV
  | .own i ver off len sz => if i < m then .own i ver off len sz else match H[i]? with
    | some o => if ids.contains i ∧ o.ver = ver then .own i 0 off len sz else .undef
    | none => .undef
  | .ptr i ver off => if i < m then .ptr i ver off else match H[i]? with
    | some o => if ids.contains i ∧ o.ver = ver then .ptr i 0 off else .undef
    | none => .undef
  | .agg _ | .tup _ | .fn _ _ _ => .undef
  | a => a
def fixV (m : Nat) (ids : List Nat) (H : List AObj) : AV → AV
  | .agg cs => .agg (cs.map (fixCell m ids H))
  | .fn f a b => .fn f (a.map (fixCell m ids H)) (b.map (fixCell m ids H))
  | a => fixCell m ids H a
def fixBody (m : Nat) (ids : List Nat) (H : List AObj) : ABody → Option ABody
  | .var cs => if (cs.map (fixCell m ids H)).all AV.atom then some (.var (cs.map (fixCell m ids H))) else none
  | b => some b
def fixSlots (m : Nat) (lv ids : List Nat) (H : List AObj) : Nat → List AV → List AV
  | _, [] => []
  | i, a :: r => (if lv.contains i then fixV m ids H a else .undef) :: fixSlots m lv ids H (i + 1) r
def fixObjs (m : Nat) (ids : List Nat) (H : List AObj) : Nat → List AObj → Option (List AObj)
  | _, [] => some []
  | i, o :: r => match (if i < m then (fixBody m ids H o.body).map (AObj.mk o.ver) else if ids.contains i then (fixBody m ids H o.body).map (AObj.mk 0) else some ⟨0, .none⟩), fixObjs m ids H (i + 1) r with
    | some o', some r' => some (o' :: r')
    | _, _ => none
def norm (m : Nat) (lv ids : List Nat) (st : St) : Option St :=
  match fixObjs m ids st.H 0 st.H with
  | some H' => some ⟨fixSlots m lv ids st.H 0 st.sl, H'⟩
  | none => none

inductive MExit where
  | normal
  | exit (id : Nat)
  | ret
  deriving Inhabited, DecidableEq

def iter (body : St → Option (MExit × St)) (nrm : St → Option St) : Nat → St → Option (MExit × St)
  | 0, _ => none
  | n + 1, st => match nrm st with
    | none => none
    | some st => match body st with
      | some (.normal, st) => iter body nrm n st
      | r => r

def evalCode (cf : CallF) (m fuel : Nat) : MCode → St → Option (MExit × St)
  | .skip, st => some (.normal, st)
  | .region _ ops, st => match runOps cf ops st with
    | some st => some (.normal, st)
    | none => none
  | .seq a b, st => match evalCode cf m fuel a st with
    | some (.normal, st) => evalCode cf m fuel b st
    | r => r
  | .cond x a b, st => match ev st.sl x with
    | .bool true => evalCode cf m fuel a st
    | .bool false => evalCode cf m fuel b st
    | _ => none
  | .block id c, st => match evalCode cf m fuel c st with
    | some (.exit id', st) => if id' = id then some (.normal, st) else some (.exit id', st)
    | r => r
  | .loop lv ids c, st => iter (evalCode cf m fuel c) (norm m lv ids) fuel st
  | .exit id, st => some (.exit id, st)
  | .ret, st => some (.ret, st)

def resV (st : St) : MRes → Option AV
  | .slot n => some (st.sl.getD n .undef)
  | .cell s o none => load1 st.H (some o) (st.sl.getD s .undef)
  | .cell s o (some n) => (loadCells st.H (some o) (st.sl.getD s .undef) n).map .agg
def resVs (st : St) : List MRes → Option (List AV)
  | [] => some []
  | r :: rs => match resV st r, resVs st rs with
    | some a, some l => some (a :: l)
    | _, _ => none
def results (st : St) (rs : List MRes) : Option AV :=
  match resVs st rs with
  | some [a] => some a
  | some l => some (.tup l)
  | none => none

structure Tab where
  fn : FuncId → Option MFun
  ext : CallF

def evalFun (M : Tab) : Nat → CallF
  | 0, _, _, _ => none
  | k + 1, f, args, H => match M.fn f with
    | none => M.ext f args H
    | some mf =>
      if args.length ≠ mf.np then none else
      match evalCode (evalFun M k) H.length k mf.body ⟨args ++ List.replicate (mf.nt - args.length) (.tup []), H ++ List.replicate mf.no ⟨0, .none⟩⟩ with
      | some (.normal, st) | some (.ret, st) => (results st mf.res).map fun r => (r, st.H)
      | _ => none

end Go.Ev
