/- The evaluator, its soundness (texts put together: EvCore EvRel EvLay EvChk EvOps1 EvEq EvOps2 EvOps3 EvOps4 EvOps5). -/
import GoSem.Dispatch
import Derived.Calls
import Derived.Deep.AppendSrc
import Derived.Deep.MidRow
import Derived.LoopN
import Derived.Orders
import Derived.Below
import Derived.Laws.Entries
import Derived.Laws.Slices
import Derived.Laws.Tables
import Derived.Laws.StructEq
import Derived.Laws.Strings
import Derived.ChangeKeysEq
set_option linter.unusedSimpArgs false
set_option linter.unusedVariables false
section
namespace Go.Ev

inductive AV where
  | undef
  | bool (b : Bool)
  | int (k : IntKind) (n : Int)
  | str (l : List UInt8)
  | nilptr
  | nilsl
  | nilfn
  | nilmp
  | emp (nl : Bool)
  | ro (n : Nat) (cs : List AV)
  | rptr (cs : List AV)
  | own (i ver off len sz : Nat)
  | ptr (i ver off : Nat)
  | mp (i ver : Nat)
  | agg (cs : List AV)
  | tup (cs : List AV)
  | fn (f : FuncId) (first caps : List AV)
  deriving Inhabited

inductive ABody where
  | none
  | var (cs : List AV)
  | row (mu : Bool) (sz : Nat) (cs : List AV)
  | map (clk : Nat) (es : List (List AV × Int × Nat))
  deriving Inhabited

structure AObj where
  ver : Nat
  body : ABody
  deriving Inhabited

def AV.tree : AV → Bool
  | .bool _ | .int _ _ | .str _ | .nilptr | .nilsl | .ro _ _ => true
  | _ => false
def AV.atom : AV → Bool
  | .undef | .agg _ | .tup _ => false
  | _ => true
def AV.cells : AV → List AV
  | .agg cs => cs
  | a => [a]

inductive MX where
  | s (n : Nat)
  | c (a : AV)
  deriving Inhabited

inductive TC where
  | int | bool | str | sl | ptr
  | agg (ks : List (Option IntKind))
  deriving Inhabited

inductive MOp where
  | mv (x : MX)
  | vnil (tgt sz : Nat)
  | pick (c a b : MX)
  | alloc (tgt : Nat) (zs : List AV)
  | box (tgt : Nat) (x : MX)
  | build (zs : List AV) (parts : List (Nat × Nat × MX))
  | lit (tgt : Option Nat) (fz : List Nat) (len sz : Nat) (zs : List AV) (parts : List (Nat × Nat × MX))
  | load (n : Option Nat) (o : Option Nat) (x : MX)
  | store (n : Nat) (o : Nat) (fz : List Nat) (x v : MX)
  | nilchk (x : MX)
  | bin (op : BinOp) (tc : TC) (x y : MX)
  | un (op : UnOp) (x : MX)
  | conv (k : IntKind) (x : MX)
  | b2s (o : Option Nat) (x : MX)
  | faddr (off : Nat) (x : MX)
  | iaddrA (len sz : Nat) (x i : MX)
  | iaddrS (sz : Nat) (x i : MX)
  | index (len sz : Nat) (ag : Bool) (x i : MX)
  | field (off : Nat) (n : Option Nat) (x : MX)
  | len (x : MX)
  | lenK (n : Nat)
  | minmax (mx : Bool) (xs : List MX)
  | sliceS (sz : Nat) (x : MX) (lo hi : Option MX)
  | sliceA (n sz : Nat) (o : Option Nat) (x : MX) (lo hi : Option MX)
  | append (bytes sz tgt : Nat) (ysrc : Option Nat) (x y : MX)
  | call (f : MX) (args : List MX) (objs fzs : List Nat) (ret : List (Nat × Nat)) (frz : Bool)
  | extract (x : MX) (i : Nat)
  | make (tgt bytes sz : Nat) (zs : List AV) (len cap : MX)
  | copy (sz o : Nat) (ysrc : Option Nat) (x y : MX)
  | mkfn (f : FuncId) (first caps : List MX)
  | frz (fz : List Nat) (x : MX)
  | mapmk (tgt : Nat)
  | maplk (o : Nat) (ks : List (Option IntKind)) (ok : Bool) (x k : MX)
  | mapen (o : Nat) (ks : List (Option IntKind)) (x k : MX)
  | mapst (o : Nat) (x s v : MX)
  | mapdl (o : Nat) (ks : List (Option IntKind)) (x k : MX)
  | rng (tgt : Nat) (x : MX)
  | nxt (x : MX)
  | ent (x : MX)
  | stop
  deriving Inhabited

structure MOper where
  dst : Option Nat
  guard : Option (Nat × Bool)
  op : MOp
  deriving Inhabited

inductive MCode where
  | skip
  | region (draw : Bool) (ops : List MOper)
  | seq (a b : MCode)
  | cond (x : MX) (a b : MCode)
  | block (id : Nat) (c : MCode)
  | loop (lv ids : List Nat) (c : MCode)
  | exit (id : Nat)
  | ret
  deriving Inhabited

inductive MRes where
  | slot (n : Nat)
  | cell (slot o : Nat) (n : Option Nat)
  deriving Inhabited

structure MFun where
  nt : Nat
  np : Nat
  no : Nat
  res : List MRes
  body : MCode
  deriving Inhabited

def ev (sl : List AV) : MX → AV
  | .s n => sl.getD n .undef
  | .c a => a

def binInt (op : BinOp) (k : IntKind) (x : Int) (k' : IntKind) (y : Int) : Option AV :=
  match op with
  | .shl => if y < 0 then none else some (.int k (k.wrap (x * 2 ^ (min y.toNat k.bits))))
  | .shr => if y < 0 then none else some (.int k (x.fdiv (2 ^ (min y.toNat k.bits))))
  | op => if k ≠ k' then none else match op with
    | .add => some (.int k (k.wrap (x + y)))
    | .sub => some (.int k (k.wrap (x - y)))
    | .mul => some (.int k (k.wrap (x * y)))
    | .quo => if y = 0 then none else some (.int k (k.wrap (x.tdiv y)))
    | .rem => if y = 0 then none else some (.int k (x.tmod y))
    | .and => some (.int k (k.wrap ((BitVec.ofInt k.bits x &&& BitVec.ofInt k.bits y).toNat : Int)))
    | .or => some (.int k (k.wrap ((BitVec.ofInt k.bits x ||| BitVec.ofInt k.bits y).toNat : Int)))
    | .xor => some (.int k (k.wrap ((BitVec.ofInt k.bits x ^^^ BitVec.ofInt k.bits y).toNat : Int)))
    | .andNot => some (.int k (k.wrap ((BitVec.ofInt k.bits x &&& ~~~ BitVec.ofInt k.bits y).toNat : Int)))
    | .eql => some (.bool (x == y))
    | .neq => some (.bool (x != y))
    | .lss => some (.bool (decide (x < y)))
    | .leq => some (.bool (decide (x ≤ y)))
    | .gtr => some (.bool (decide (x > y)))
    | .geq => some (.bool (decide (x ≥ y)))
    | _ => none
def eqCells : List (Option IntKind) → List AV → List AV → Option Bool
  | [], [], [] => some true
  | some k :: ks, .int k1 a :: xs, .int k2 b :: ys => if k1 = k ∧ k2 = k then (eqCells ks xs ys).map ((a == b) && ·) else none
  | none :: ks, .bool a :: xs, .bool b :: ys => (eqCells ks xs ys).map ((a == b) && ·)
  | _, _, _ => none
def isNilS : AV → Option Bool
  | .emp b => some b
  | .nilsl => some true
  | .ro n _ => if n = 0 then none else some false
  | .own _ _ _ len _ => if len = 0 then none else some false
  | _ => none
def isNilP : AV → Option Bool
  | .nilptr => some true
  | .ptr _ _ _ => some false
  | .rptr _ => some false
  | _ => none
def binV (op : BinOp) (tc : TC) (x y : AV) : Option AV :=
  match tc with
  | .int => match x, y with
    | .int k a, .int k' b => binInt op k a k' b
    | _, _ => none
  | .bool => match op, x, y with
    | .eql, .bool a, .bool b => some (.bool (a == b))
    | .neq, .bool a, .bool b => some (.bool (!(a == b)))
    | _, _, _ => none
  | .str => match op, x, y with
    | .eql, .str a, .str b => some (.bool (a == b))
    | .neq, .str a, .str b => some (.bool (!(a == b)))
    | .lss, .str a, .str b => some (.bool (Op.bytesLess a b))
    | .leq, .str a, .str b => some (.bool (Op.bytesLess a b || a == b))
    | .gtr, .str a, .str b => some (.bool (!(Op.bytesLess a b || a == b)))
    | .geq, .str a, .str b => some (.bool (!Op.bytesLess a b))
    | _, _, _ => none
  | .agg ks => match op, x, y with
    | .eql, .agg a, .agg b => (eqCells ks a b).map .bool
    | .neq, .agg a, .agg b => (eqCells ks a b).map fun r => .bool (!r)
    | _, _, _ => none
  | .sl => match op, y with
    | .eql, .nilsl => (isNilS x).map .bool
    | .neq, .nilsl => (isNilS x).map fun r => .bool (!r)
    | _, _ => none
  | .ptr => match op, y with
    | .eql, .nilptr => (isNilP x).map .bool
    | .neq, .nilptr => (isNilP x).map fun r => .bool (!r)
    | _, _ => none
def unV (op : UnOp) (x : AV) : Option AV :=
  match op, x with
  | .not, .bool b => some (.bool !b)
  | .neg, .int k n => some (.int k (k.wrap (0 - n)))
  | .xor, .int k n => binInt .xor k (if k.signed then -1 else k.max) k n
  | _, _ => none
def foldMM (mx : Bool) (k : IntKind) (n : Int) : List AV → Option AV
  | [] => some (.int k n)
  | .int k' m :: r => if k ≠ k' then none else foldMM mx k (if mx then (if m > n then m else n) else (if m < n then m else n)) r
  | _ :: _ => none
def mmV (mx : Bool) : List AV → Option AV
  | .int k n :: r => foldMM mx k n r
  | _ => none

def bodyCells : ABody → Option (List AV)
  | .none => none
  | .var cs => some cs
  | .row _ _ cs => some cs
  | .map _ _ => none
def objCells (H : List AObj) (i ver : Nat) : Option (List AV) :=
  match H[i]? with
  | some o => if o.ver = ver then bodyCells o.body else none
  | none => none
def loadCells (H : List AObj) (o : Option Nat) (a : AV) (n : Nat) : Option (List AV) :=
  match o, a with
  | none, .rptr cs => if n ≤ cs.length then some (cs.take n) else none
  | some i, .ptr j ver off => if i ≠ j then none else match objCells H j ver with
    | some cs => if off + n ≤ cs.length then some ((cs.drop off).take n) else none
    | none => none
  | _, _ => none
def load1 (H : List AObj) (o : Option Nat) (a : AV) : Option AV :=
  match o, a with
  | none, .rptr cs => cs[0]?
  | some i, .ptr j ver off => if i ≠ j then none else match objCells H j ver with
    | some cs => cs[off]?
    | none => none
  | _, _ => none
def treeCell (H : List AObj) (fz : List Nat) : AV → Option AV
  | .nilsl => some (.ro 0 [])
  | .own i ver off len sz => if fz.contains i then match H[i]? with
      | some ⟨v, .row _ _ cs⟩ => if v = ver ∧ off + len * sz ≤ cs.length then some (.ro len ((cs.drop off).take (len * sz))) else none
      | _ => none
    else none
  | a => if a.tree then some a else none
def mapO (f : AV → Option AV) : List AV → Option (List AV)
  | [] => some []
  | a :: r => match f a with
    | some b => (mapO f r).map (b :: ·)
    | none => none
def freezeAll (H : List AObj) : List Nat → Option (List (Nat × AObj))
  | [] => some []
  | i :: r => match H[i]?, freezeAll H r with
    | some ⟨v, .row _ sz cs⟩, some l => some ((i, ⟨v, .row false sz cs⟩) :: l)
    | some ⟨_, .none⟩, some l => some l
    | _, _ => none
def setCells (cs : List AV) (off : Nat) (new : List AV) : List AV := cs.take off ++ new ++ cs.drop (off + new.length)
def fillV (cells : List AV) : List (Nat × Nat × AV) → Option (List AV)
  | [] => some cells
  | (off, n, v) :: r =>
    if v.cells.length ≠ n ∨ off + n > cells.length ∨ v.cells.all AV.atom = false then none else fillV (setCells cells off v.cells) r
def repeatL (n : Nat) (zs : List AV) : List AV := (List.replicate n zs).flatten
def srcCells (H : List AObj) (ysrc : Option Nat) (sz : Nat) : AV → Option (Nat × List AV)
  | .ro n cs => if cs.length = n * sz then some (n, cs) else none
  | .nilsl => some (0, [])
  | .emp _ => some (0, [])
  | .own i ver off len sz' => if ysrc = some i ∧ sz' = sz then match objCells H i ver with
      | some cs => if off + len * sz ≤ cs.length then
          (if ((cs.drop off).take (len * sz)).all AV.tree then some (len, (cs.drop off).take (len * sz)) else none) else none
      | none => none
    else none
  | _ => none
def bytesOf : List AV → Option (List UInt8)
  | [] => some []
  | .int .u8 n :: r => (bytesOf r).map (UInt8.ofNat n.toNat :: ·)
  | _ :: _ => none

def passCell (H : List AObj) (objs fzs : List Nat) : AV → Option AV
  | .own i ver off len sz => match objs.idxOf? i with
    | some k => match H[i]? with
      | some o => if o.ver = ver then some (.own k 0 off len sz) else none
      | none => none
    | none => if fzs.contains i then match objCells H i ver with
        | some cs => if off + len * sz ≤ cs.length then
            (if ((cs.drop off).take (len * sz)).all AV.tree then some (.ro len ((cs.drop off).take (len * sz))) else none) else none
        | none => none
      else none
  | .ptr i ver off => match objs.idxOf? i with
    | some k => match H[i]? with
      | some o => if o.ver = ver then some (.ptr k 0 off) else none
      | none => none
    | none => none
  | .mp i ver => match objs.idxOf? i with
    | some k => match H[i]? with
      | some o => if o.ver = ver then some (.mp k 0) else none
      | none => none
    | none => none
  | .nilsl => some (.ro 0 [])
  | .agg _ | .tup _ | .fn _ _ _ => none
  | a => some a
def passV (H : List AObj) (objs fzs : List Nat) : AV → Option AV
  | .agg cs => (mapO (passCell H objs fzs) cs).map .agg
  | .fn f first caps => match mapO (passCell H objs fzs) first, mapO (passCell H objs fzs) caps with
    | some a, some b => some (.fn f a b)
    | _, _ => none
  | a => passCell H objs fzs a
def passN (H : List AObj) (objs fzs : List Nat) (ret : List (Nat × Nat)) (a : AV) : Option AV :=
  match ret, a with
  | _ :: _, .nilsl => some .nilsl
  | _, a => passV H objs fzs a
theorem passN_nil (H : List AObj) (objs fzs : List Nat) : passN H objs fzs [] = passV H objs fzs := rfl
def passBody (H : List AObj) (objs fzs : List Nat) : ABody → Option ABody
  | .none => some .none
  | .map c es => some (.map c es)
  | .var cs => (mapO (passCell H objs fzs) cs).map .var
  | .row m sz cs => some (.row m sz cs)
def passObjs (H : List AObj) (objs fzs : List Nat) : List Nat → Option (List AObj)
  | [] => some []
  | i :: r => match H[i]? with
    | some o => match passBody H objs fzs o.body, passObjs H objs fzs r with
      | some b, some l => some (⟨0, b⟩ :: l)
      | _, _ => none
    | none => none
def backCell (H H1 : List AObj) (objs : List Nat) (ret : List (Nat × Nat)) : AV → Option AV
  | .own k ver off len sz => match H1[k]? with
    | some o => if o.ver = ver then match objs[k]? with
        | some i => match H[i]? with
          | some oi => some (.own i (oi.ver + ver) off len sz)
          | none => none
        | none => match ret.lookup k with
          | some t => match H[t]? with
            | some ot => some (.own t (ot.ver + 1) off len sz)
            | none => none
          | none => match o.body with
            | .row _ _ cs => if off + len * sz ≤ cs.length then some (.ro len ((cs.drop off).take (len * sz))) else none
            | _ => none
      else none
    | none => none
  | .ptr k ver off => match H1[k]? with
    | some o => if o.ver = ver then match objs[k]? with
        | some i => match H[i]? with
          | some oi => some (.ptr i (oi.ver + ver) off)
          | none => none
        | none => match ret.lookup k with
          | some t => match H[t]? with
            | some ot => some (.ptr t (ot.ver + 1) off)
            | none => none
          | none => none
      else none
    | none => none
  | .mp k ver => match H1[k]? with
    | some o => if o.ver = ver then match objs[k]? with
        | some i => match H[i]? with
          | some oi => some (.mp i (oi.ver + ver))
          | none => none
        | none => match ret.lookup k with
          | some t => match H[t]? with
            | some ot => some (.mp t (ot.ver + 1))
            | none => none
          | none => none
      else none
    | none => none
  | .nilsl => some (.ro 0 [])
  | .agg _ | .tup _ | .fn _ _ _ => none
  | a => some a
def backV (H H1 : List AObj) (objs : List Nat) (ret : List (Nat × Nat)) : AV → Option AV
  | .agg cs => (mapO (backCell H H1 objs ret) cs).map .agg
  | a => backCell H H1 objs ret a
def backR (H H1 : List AObj) (objs : List Nat) (ret : List (Nat × Nat)) : AV → Option AV
  | .tup vs => (mapO (backV H H1 objs ret) vs).map .tup
  | a => backV H H1 objs ret a
def backBody (H H1 : List AObj) (objs : List Nat) (ret : List (Nat × Nat)) : ABody → Option ABody
  | .none => some .none
  | .map c es => some (.map c es)
  | .var cs => (mapO (backCell H H1 objs ret) cs).map .var
  | .row m sz cs => some (.row m sz cs)
def backObjs (H H1 : List AObj) (objs : List Nat) (ret : List (Nat × Nat)) : List Nat → List AObj → Option (List (Nat × AObj))
  | [], _ => some []
  | i :: r, o :: l => match H[i]?, backBody H H1 objs ret o.body, backObjs H H1 objs ret r l with
    | some oi, some b, some u => some ((i, ⟨oi.ver + o.ver, b⟩) :: u)
    | _, _, _ => none
  | _ :: _, [] => none
def adopts (H H1 : List AObj) (objs : List Nat) (ret : List (Nat × Nat)) : List (Nat × Nat) → Option (List (Nat × AObj))
  | [] => some []
  | (k, t) :: r => match H1[k]?, H[t]?, adopts H H1 objs ret r with
    | some o, some ot, some u => match backBody H H1 objs ret o.body with
      | some b => some ((t, ⟨ot.ver + 1, b⟩) :: u)
      | none => none
    | _, _, _ => none
def AV.flat1 : AV → Bool
  | .ro _ cs => cs.isEmpty
  | .rptr _ | .agg _ | .tup _ | .fn _ _ _ | .own _ _ _ _ _ => false
  | _ => true
def AV.flat : AV → Bool
  | .agg cs => cs.all AV.flat1
  | .tup cs => cs.all fun a => match a with
    | .agg cs => cs.all AV.flat1
    | a => a.flat1
  | a => a.flat1
def bodyFlat : ABody → Bool
  | .none => true
  | .var cs => cs.all AV.flat1
  | .row m _ cs => m && cs.all AV.flat1
  | .map _ _ => true

abbrev Eff := Option (AV × List (Nat × AObj))
def CallF := FuncId → List AV → List AObj → Option (AV × List AObj)

def hiB (n : Nat) : Option AV → Option Nat
  | none => some n
  | some (.int _ h) => if 0 ≤ h ∧ h ≤ n then some h.toNat else none
  | some _ => none
def loB (h : Nat) : Option AV → Option Nat
  | none => some 0
  | some (.int _ l) => if 0 ≤ l ∧ l ≤ h then some l.toNat else none
  | some _ => none
def sliceBounds (n : Nat) (lo hi : Option AV) : Option (Nat × Nat) :=
  match hiB n hi with
  | none => none
  | some h => match loB h lo with
    | none => none
    | some l => some (l, h)

def okIds (objs fzs : List Nat) (ret : List (Nat × Nat)) : Bool :=
  decide (objs.Nodup) && decide ((ret.map (·.1)).Nodup) && decide ((ret.map (·.2)).Nodup) && (ret.map (·.2)).all (fun t => !objs.contains t && !fzs.contains t) && fzs.all (fun i => !objs.contains i) &&
  ret.all (fun p => decide (objs.length ≤ p.1))
def callV (cf : CallF) (H : List AObj) (f : AV) (args : List AV) (objs fzs : List Nat) (ret : List (Nat × Nat)) (frz : Bool) : Eff :=
  match f with
  | .fn f first caps =>
    if okIds objs fzs ret then
    match mapO (passN H objs fzs ret) (first ++ args ++ caps), passObjs H objs fzs objs with
    | some as, some H0 =>
      match cf f as H0 with
      | some (r, H1) =>
        match backR H H1 objs ret r, backObjs H H1 objs ret objs H1, adopts H H1 objs ret ret with
        | some r', some ups, some ads =>
          if frz then (freezeAll H fzs).map fun fr => (r', fr ++ ups ++ ads)
          else if r.flat && (H1.take objs.length).all (fun o => bodyFlat o.body) && ret.isEmpty then some (r', ups) else none
        | _, _, _ => none
      | none => none
    | _, _ => none
    else none
  | _ => none

def mfind (ks : List (Option IntKind)) (k : List AV) : List (List AV × Int × Nat) → Nat → Option (Option (Nat × List AV × Int × Nat))
  | [], _ => some none
  | e :: es, i => match eqCells ks k e.1 with
    | some true => some (some (i, e))
    | some false => mfind ks k es (i + 1)
    | none => none
def bornIdx (es : List (List AV × Int × Nat)) (s : Int) : Option Nat := es.findIdx? fun e => (e.2.2 : Int) == s
def modE (es : List (List AV × Int × Nat)) (i : Nat) (v : Int) : List (List AV × Int × Nat) := es.modify i fun e => (e.1, v, e.2.2)
def mapGet (H : List AObj) (o : Nat) : AV → Option (Nat × Nat × List (List AV × Int × Nat))
  | .mp j ver => if o ≠ j then none else match H[j]? with
    | some ⟨v, .map clk es⟩ => if v = ver then some (ver, clk, es) else none
    | _ => none
  | _ => none
def keyGet (ks : List (Option IntKind)) : AV → Option (List AV)
  | .agg kc => if eqCells ks kc kc = some true then some kc else none
  | _ => none
def mapLook (ks : List (Option IntKind)) (H : List AObj) (o : Nat) (x k : AV) : Option (Nat × Nat × List (List AV × Int × Nat) × List AV × Option (Nat × List AV × Int × Nat)) :=
  match mapGet H o x, keyGet ks k with
  | some (ver, clk, es), some kc => match mfind ks kc es 0 with
    | some r => some (ver, clk, es, kc, r)
    | none => none
  | _, _ => none

def opV (cf : CallF) (sl : List AV) (H : List AObj) : MOp → Eff
  | .mv x => some (ev sl x, [])
  | .vnil t sz => match H[t]? with
    | some o => some (.own t (o.ver + 1) 0 0 sz, [(t, ⟨o.ver + 1, .row true sz []⟩)])
    | none => none
  | .pick c a b => match ev sl c with
    | .bool true => some (ev sl a, [])
    | .bool false => some (ev sl b, [])
    | _ => none
  | .alloc t zs => match H[t]? with
    | some o => some (.ptr t (o.ver + 1) 0, [(t, ⟨o.ver + 1, .var zs⟩)])
    | none => none
  | .box t x => match H[t]? with
    | some o => if (ev sl x).cells.all AV.atom then some (.ptr t (o.ver + 1) 0, [(t, ⟨o.ver + 1, .var (ev sl x).cells⟩)]) else none
    | none => none
  | .build zs parts => (fillV zs (parts.map fun p => (p.1, p.2.1, ev sl p.2.2))).map fun cs => (.agg cs, [])
  | .lit t fz len sz zs parts =>
    match fillV (repeatL len zs) (parts.map fun p => (p.1, p.2.1, ev sl p.2.2)) with
    | some cs => match mapO (treeCell H fz) cs with
      | some cs => match freezeAll H fz with
        | some fr => match t with
          | none => some (.ro len cs, fr)
          | some t => match H[t]? with
            | some o => some (.own t (o.ver + 1) 0 len sz, fr ++ [(t, ⟨o.ver + 1, .row true sz cs⟩)])
            | none => none
        | none => none
      | none => none
    | none => none
  | .load none o x => (load1 H o (ev sl x)).map fun a => (a, [])
  | .load (some n) o x => (loadCells H o (ev sl x) n).map fun cs => (.agg cs, [])
  | .store n o fz x v => match ev sl x with
    | .ptr j ver off => if o ≠ j ∨ (ev sl v).cells.length ≠ n then none else match H[j]? with
      | some ob => if ob.ver ≠ ver then none else match ob.body with
        | .var cs => if off + n ≤ cs.length ∧ (ev sl v).cells.all AV.atom then some (.tup [], [(j, ⟨ver, .var (setCells cs off (ev sl v).cells)⟩)]) else none
        | .row true sz cs => if off + n ≤ cs.length then
            match mapO (treeCell H fz) (ev sl v).cells, freezeAll H fz with
            | some new, some fr => if fz.contains j then none else some (.tup [], fr ++ [(j, ⟨ver, .row true sz (setCells cs off new)⟩)])
            | _, _ => none
          else none
        | _ => none
      | none => none
    | _ => none
  | .nilchk x => match ev sl x with
    | .ptr i ver off => some (.ptr i ver off, [])
    | .rptr cs => some (.rptr cs, [])
    | .fn f a b => some (.fn f a b, [])
    | _ => none
  | .bin op tc x y => (binV op tc (ev sl x) (ev sl y)).map fun a => (a, [])
  | .un op x => (unV op (ev sl x)).map fun a => (a, [])
  | .conv k x => match ev sl x with
    | .int _ n => some (.int k (k.wrap n), [])
    | _ => none
  | .b2s o x => match srcCells H o 1 (ev sl x) with
    | some (_, cs) => (bytesOf cs).map fun l => (.str l, [])
    | none => none
  | .faddr off x => match ev sl x with
    | .ptr i ver o => some (.ptr i ver (o + off), [])
    | .rptr cs => some (.rptr (cs.drop off), [])
    | _ => none
  | .iaddrA len sz x i => match ev sl i with
    | .int _ n => if 0 ≤ n ∧ n < len then match ev sl x with
        | .ptr j ver o => some (.ptr j ver (o + n.toNat * sz), [])
        | .rptr cs => some (.rptr (cs.drop (n.toNat * sz)), [])
        | _ => none
      else none
    | _ => none
  | .iaddrS sz x i => match ev sl i with
    | .int _ n => match ev sl x with
      | .ro len cs => if 0 ≤ n ∧ n < len then some (.rptr (cs.drop (n.toNat * sz)), []) else none
      | .own j ver off len sz' => if sz' = sz ∧ 0 ≤ n ∧ n < len then some (.ptr j ver (off + n.toNat * sz), []) else none
      | _ => none
    | _ => none
  | .index len sz ag x i => match ev sl i with
    | .int _ n => match ev sl x with
      | .agg cs => if 0 ≤ n ∧ n < len then
          (if ag then (if n.toNat * sz + sz ≤ cs.length then some (.agg ((cs.drop (n.toNat * sz)).take sz), []) else none) else (cs[n.toNat * sz]?).map fun a => (a, []))
        else none
      | _ => none
    | _ => none
  | .field off n x => match ev sl x with
    | .agg cs => match n with
      | some n => if off + n ≤ cs.length then some (.agg ((cs.drop off).take n), []) else none
      | none => (cs[off]?).map fun a => (a, [])
    | _ => none
  | .len x => match ev sl x with
    | .ro n _ => some (.int .i64 n, [])
    | .nilsl => some (.int .i64 0, [])
    | .own _ _ _ len _ => some (.int .i64 len, [])
    | _ => none
  | .lenK n => some (.int .i64 n, [])
  | .minmax mx xs => (mmV mx (xs.map (ev sl))).map fun a => (a, [])
  | .sliceS sz x lo hi => match ev sl x with
    | .ro n cs => match sliceBounds n (lo.map (ev sl)) (hi.map (ev sl)) with
      | some (l, h) => some (.ro (h - l) ((cs.drop (l * sz)).take ((h - l) * sz)), [])
      | none => none
    | .nilsl => match sliceBounds 0 (lo.map (ev sl)) (hi.map (ev sl)) with
      | some _ => some (.nilsl, [])
      | none => none
    | .own i ver off n sz' => if sz' ≠ sz then none else match sliceBounds n (lo.map (ev sl)) (hi.map (ev sl)) with
      | some (l, h) => if l = h then some (.ro 0 [], []) else some (.own i ver (off + l * sz) (h - l) sz, [])
      | none => none
    | _ => none
  | .sliceA n sz ob x lo hi => match sliceBounds n (lo.map (ev sl)) (hi.map (ev sl)) with
    | some (l, h) => match ev sl x with
      | .ptr i ver off => if ob ≠ some i then none else match objCells H i ver with
        | some cs => if off + n * sz ≤ cs.length then (if l = h then some (.ro 0 [], []) else some (.own i ver (off + l * sz) (h - l) sz, [])) else none
        | none => none
      | .rptr cs => if n * sz ≤ cs.length then some (.ro (h - l) ((cs.drop (l * sz)).take ((h - l) * sz)), []) else none
      | _ => none
    | none => none
  | .append bytes sz t ysrc x y => match srcCells H ysrc sz (ev sl y) with
    | some (n, new) => match H[t]? with
      | some o => match ev sl x with
        | .own i ver off len sz' => if i = t ∧ ver = o.ver ∧ off = 0 ∧ sz' = sz then match o.body with
            | .row true sz'' cs => if sz'' = sz ∧ len * sz = cs.length ∧ (len + n) * bytes ≤ 140737488355328 ∧ len + n < 4611686018427387904 then
                some (.own t (ver + 1) 0 (len + n) sz, [(t, ⟨ver + 1, .row true sz (cs ++ new)⟩)]) else none
            | _ => none
          else none
        | .nilsl => if 0 < n ∧ n * bytes ≤ 140737488355328 ∧ n < 4611686018427387904 then
            some (.own t (o.ver + 1) 0 n sz, [(t, ⟨o.ver + 1, .row true sz new⟩)]) else none
        | _ => none
      | none => none
    | none => none
  | .call f args objs fzs ret frz => callV cf H (ev sl f) (args.map (ev sl)) objs fzs ret frz
  | .extract x i => match ev sl x with
    | .tup vs => (vs[i]?).map fun a => (a, [])
    | _ => none
  | .make t bytes sz zs len cap => match ev sl len, ev sl cap with
    | .int .i64 n, .int .i64 c => if n = c ∧ 0 ≤ n ∧ n * bytes ≤ 140737488355328 ∧ n < 4611686018427387904 ∧ zs.length = sz then match H[t]? with
        | some o => some (.own t (o.ver + 1) 0 n.toNat sz, [(t, ⟨o.ver + 1, .row true sz (repeatL n.toNat zs)⟩)])
        | none => none
      else none
    | _, _ => none
  | .copy sz o ysrc x y => match srcCells H ysrc sz (ev sl y) with
    | some (n, new) => match ev sl x with
      | .own i ver off len sz' => if o ≠ i ∨ sz' ≠ sz then none else match H[i]? with
        | some ob => if ob.ver ≠ ver then none else match ob.body with
          | .var cs => if off + len * sz ≤ cs.length then
              some (.int .i64 (min n len : Nat), [(i, ⟨ver, .var (setCells cs off (new.take (min n len * sz)))⟩)]) else none
          | .row true sz'' cs => if off + len * sz ≤ cs.length then
              some (.int .i64 (min n len : Nat), [(i, ⟨ver, .row true sz'' (setCells cs off (new.take (min n len * sz)))⟩)]) else none
          | _ => none
        | none => none
      | _ => none
    | none => none
  | .mkfn f first caps => some (.fn f (first.map (ev sl)) (caps.map (ev sl)), [])
  | .frz fz x => match treeCell H fz (ev sl x), freezeAll H fz with
    | some a, some fr => some (a, fr)
    | _, _ => none
  | .mapmk t => match H[t]? with
    | some o => some (.mp t (o.ver + 1), [(t, ⟨o.ver + 1, .map 0 []⟩)])
    | none => none
  | .maplk o ks ok x k => match mapLook ks H o (ev sl x) (ev sl k) with
    | some (_, _, _, _, some (_, _, v, _)) => some (if ok then .tup [.int .i64 v, .bool true] else .int .i64 v, [])
    | some (_, _, _, _, none) => some (if ok then .tup [.int .i64 0, .bool false] else .int .i64 0, [])
    | none => none
  | .mapen o ks x k => match mapLook ks H o (ev sl x) (ev sl k) with
    | some (ver, clk, es, _, some (_, _, v, s)) => some (.tup [.int .i64 v, .int .i64 s], [(o, ⟨ver, .map clk es⟩)])
    | some (ver, clk, es, kc, none) => some (.tup [.int .i64 0, .int .i64 clk], [(o, ⟨ver, .map (clk + 1) (es ++ [(kc, 0, clk)])⟩)])
    | none => none
  | .mapst o x s v => match mapGet H o (ev sl x), ev sl s, ev sl v with
    | some (ver, clk, es), .int _ s, .int .i64 v => match bornIdx es s with
      | some i => some (.tup [], [(o, ⟨ver, .map clk (modE es i v)⟩)])
      | none => none
    | _, _, _ => none
  | .mapdl o ks x k => match mapLook ks H o (ev sl x) (ev sl k) with
    | some (ver, clk, es, _, some (i, _)) => some (.tup [], [(o, ⟨ver, .map clk (es.eraseIdx i)⟩)])
    | some (ver, clk, es, _, none) => some (.tup [], [(o, ⟨ver, .map clk es⟩)])
    | none => none
  | .rng _ _ => none
  | .nxt _ => none
  | .ent _ => none
  | .stop => none

structure St where
  sl : List AV
  H : List AObj
  deriving Inhabited

def layAll (H : List AObj) : List (Nat × AObj) → List AObj
  | [] => H
  | (i, o) :: r => layAll (H.set i o) r
def putV (sl : List AV) (dst : Option Nat) (a : AV) : List AV :=
  match dst with
  | some d => sl.set d a
  | none => sl
def wanted (sl : List AV) : Option (Nat × Bool) → Option Bool
  | none => some true
  | some (d, want) => match sl.getD d .undef with
    | .bool b => some (b == want)
    | .tup [] => some false
    | _ => none
def stepOp (cf : CallF) (o : MOper) (st : St) : Option St :=
  match wanted st.sl o.guard with
  | some true => match opV cf st.sl st.H o.op with
    | some (a, ups) => some ⟨putV st.sl o.dst a, layAll st.H ups⟩
    | none => none
  | some false => some ⟨putV st.sl o.dst (.tup []), st.H⟩
  | none => none
def runOps (cf : CallF) : List MOper → St → Option St
  | [], st => some st
  | o :: r, st => match stepOp cf o st with
    | some st => runOps cf r st
    | none => none

def fixCell (m : Nat) (ids : List Nat) (H : List AObj) : AV → AV
  | .own i ver off len sz => if i < m then .own i ver off len sz else match H[i]? with
    | some o => if ids.contains i ∧ o.ver = ver then .own i 0 off len sz else .undef
    | none => .undef
  | .ptr i ver off => if i < m then .ptr i ver off else match H[i]? with
    | some o => if ids.contains i ∧ o.ver = ver then .ptr i 0 off else .undef
    | none => .undef
  | .mp i ver => if i < m then .mp i ver else match H[i]? with
    | some o => if ids.contains i ∧ o.ver = ver then .mp i 0 else .undef
    | none => .undef
  | .agg _ | .tup _ | .fn _ _ _ => .undef
  | a => a
def fixV (m : Nat) (ids : List Nat) (H : List AObj) : AV → AV
  | .agg cs => .agg (cs.map (fixCell m ids H))
  | .fn f a b => .fn f (a.map (fixCell m ids H)) (b.map (fixCell m ids H))
  | a => fixCell m ids H a
def fixBody (m : Nat) (ids : List Nat) (H : List AObj) : ABody → Option ABody
  | .var cs => if (cs.map (fixCell m ids H)).all AV.atom then some (.var (cs.map (fixCell m ids H))) else none
  | b => some b
def fixSlots (m : Nat) (lv ids : List Nat) (H : List AObj) : Nat → List AV → List AV
  | _, [] => []
  | i, a :: r => (if lv.contains i then fixV m ids H a else .undef) :: fixSlots m lv ids H (i + 1) r
def fixObjs (m : Nat) (ids : List Nat) (H : List AObj) : Nat → List AObj → Option (List AObj)
  | _, [] => some []
  | i, o :: r => match (if i < m then (fixBody m ids H o.body).map (AObj.mk o.ver) else if ids.contains i then (fixBody m ids H o.body).map (AObj.mk 0) else some ⟨0, .none⟩), fixObjs m ids H (i + 1) r with
    | some o', some r' => some (o' :: r')
    | _, _ => none
def norm (m : Nat) (lv ids : List Nat) (st : St) : Option St :=
  match fixObjs m ids st.H 0 st.H with
  | some H' => some ⟨fixSlots m lv ids st.H 0 st.sl, H'⟩
  | none => none

inductive MExit where
  | normal
  | exit (id : Nat)
  | ret
  deriving Inhabited, DecidableEq

def iter (body : St → Option (MExit × St)) (nrm : St → Option St) : Nat → St → Option (MExit × St)
  | 0, _ => none
  | n + 1, st => match nrm st with
    | none => none
    | some st => match body st with
      | some (.normal, st) => iter body nrm n st
      | r => r

def evalCode (cf : CallF) (m fuel : Nat) : MCode → St → Option (MExit × St)
  | .skip, st => some (.normal, st)
  | .region _ ops, st => match runOps cf ops st with
    | some st => some (.normal, st)
    | none => none
  | .seq a b, st => match evalCode cf m fuel a st with
    | some (.normal, st) => evalCode cf m fuel b st
    | r => r
  | .cond x a b, st => match ev st.sl x with
    | .bool true => evalCode cf m fuel a st
    | .bool false => evalCode cf m fuel b st
    | _ => none
  | .block id c, st => match evalCode cf m fuel c st with
    | some (.exit id', st) => if id' = id then some (.normal, st) else some (.exit id', st)
    | r => r
  | .loop lv ids c, st => iter (evalCode cf m fuel c) (norm m lv ids) fuel st
  | .exit id, st => some (.exit id, st)
  | .ret, st => some (.ret, st)

def resV (st : St) : MRes → Option AV
  | .slot n => some (st.sl.getD n .undef)
  | .cell s o none => load1 st.H (some o) (st.sl.getD s .undef)
  | .cell s o (some n) => (loadCells st.H (some o) (st.sl.getD s .undef) n).map .agg
def resVs (st : St) : List MRes → Option (List AV)
  | [] => some []
  | r :: rs => match resV st r, resVs st rs with
    | some a, some l => some (a :: l)
    | _, _ => none
def results (st : St) (rs : List MRes) : Option AV :=
  match resVs st rs with
  | some [a] => some a
  | some l => some (.tup l)
  | none => none

structure Tab where
  fn : FuncId → Option MFun
  ext : CallF

def evalFun (M : Tab) : Nat → CallF
  | 0, _, _, _ => none
  | k + 1, f, args, H => match M.fn f with
    | none => M.ext f args H
    | some mf =>
      if args.length ≠ mf.np then none else
      match evalCode (evalFun M k) H.length k mf.body ⟨args ++ List.replicate (mf.nt - args.length) (.tup []), H ++ List.replicate mf.no ⟨0, .none⟩⟩ with
      | some (.normal, st) | some (.ret, st) => (results st mf.res).map fun r => (r, st.H)
      | _ => none

end Go.Ev
end
section
namespace Go.Ev

structure Env where
  F : Nat → Prop
  H : List AObj
  ρ : List (Option (Nat × Nat))
  w : World

def ABody.isMut : ABody → Bool
  | .var _ => true
  | .row m _ _ => m
  | .map _ _ => true
  | .none => false

def Env.mutAt (E : Env) (i b : Nat) : Prop := ∃ o base, E.H[i]? = some o ∧ o.body.isMut = true ∧ E.ρ[i]? = some (some (b, base))
def Env.Mut (E : Env) (b : Nat) : Prop := ∃ i, E.mutAt i b
def Env.X (E : Env) (b : Nat) : Prop := E.F b ∨ E.Mut b

def Blk (w : World) (b n : Nat) : Prop := ∃ arr e, w.heap[b]? = some (.cells arr e (0, 0)) ∧ n ≤ arr.size

def PlacedS (E : Env) (i off cap sz : Nat) (a : Option Addr) : Prop :=
  ∃ b base, E.ρ[i]? = some (some (b, base)) ∧ a = some ⟨b, base + off, none⟩ ∧ Blk E.w b (base + off + cap * sz)

def ORel (E : Env) (i ver off len sz : Nat) (v : Value) : Prop :=
  ∃ a cap, v = .slice a len cap ∧ len ≤ cap ∧ (0 < len → a.isSome = true) ∧ ∃ o : AObj, E.H[i]? = some o ∧ ver ≤ o.ver ∧ (ver = o.ver →
    match o.body with
    | .none => False
    | .map _ _ => False
    | .var cs => off + len * sz ≤ cs.length ∧ PlacedS E i off cap sz a
    | .row _ _ cs => off + len * sz ≤ cs.length ∧ (PlacedS E i off cap sz a ∨ (cs = [] ∧ E.ρ[i]? = some none ∧ a = none ∧ cap = 0)))

def PRel (E : Env) (i ver off : Nat) (v : Value) : Prop :=
  ∃ a, v = .pointer (some a) ∧ ∃ o : AObj, E.H[i]? = some o ∧ ver ≤ o.ver ∧ (ver = o.ver → ∃ b base, E.ρ[i]? = some (some (b, base)) ∧ a = ⟨b, base + off, none⟩)

def MRel (E : Env) (i ver : Nat) (v : Value) : Prop :=
  ∃ b, v = .map (some b) ∧ ∃ o : AObj, E.H[i]? = some o ∧ ver ≤ o.ver ∧ (ver = o.ver → E.ρ[i]? = some (some (b, 0)))

def pv : AV → Value
  | .int k n => .int k n
  | .bool b => .bool b
  | _ => .nilFunc
def pe (e : List AV × Int × Nat) : MapEntry := { key := .agg (e.1.map pv).toArray, val := .int .i64 e.2.1, born := e.2.2 }
def MapAt (w : World) (b clk : Nat) (es : List (List AV × Int × Nat)) : Prop := w.heap[b]? = some (.map (es.map pe).toArray clk)

mutual
def VRel (E : Env) : AV → Value → Prop
  | .undef, _ => True
  | .bool b, v => v = .bool b
  | .int k n, v => v = .int k n
  | .str l, v => ∃ s : ByteArray, v = .string s ∧ s.data.toList = l
  | .nilptr, v => v = .pointer none
  | .nilsl, v => v = .slice none 0 0
  | .nilfn, v => v = .nilFunc
  | .nilmp, v => v = .map none
  | .emp b, v => ∃ a cap, v = .slice a 0 cap ∧ a.isNone = b
  | .ro n cs, v => ∃ a cap, v = .slice a n cap ∧ n ≤ cap ∧ (0 < n → a.isSome = true) ∧ (cs = [] ∨ ∃ b off, a = some ⟨b, off, none⟩ ∧ ¬ E.X b ∧ CRel E cs b off)
  | .rptr cs, v => ∃ a, v = .pointer (some a) ∧ (cs = [] ∨ ∃ b off, a = ⟨b, off, none⟩ ∧ ¬ E.X b ∧ CRel E cs b off)
  | .own i ver off len sz, v => ORel E i ver off len sz v
  | .ptr i ver off, v => PRel E i ver off v
  | .mp i ver, v => MRel E i ver v
  | .agg cs, v => ∃ arr, v = .agg arr ∧ LRel E cs arr.toList
  | .tup cs, v => ∃ arr, v = .tuple arr ∧ LRel E cs arr.toList
  | .fn f xs ys, v => ∃ a1 a2, v = .func (.func f) a1 a2 ∧ LRel E xs a1.toList ∧ LRel E ys a2.toList
def CRel (E : Env) : List AV → Nat → Nat → Prop
  | [], _, _ => True
  | c :: cs, b, o => (c.tree = true ∧ ∃ v, E.w.cell? ⟨b, o, none⟩ = some v ∧ VRel E c v) ∧ CRel E cs b (o + 1)
def LRel (E : Env) : List AV → List Value → Prop
  | [], vs => vs = []
  | c :: cs, vs => ∃ v r, vs = v :: r ∧ VRel E c v ∧ LRel E cs r
end

def VCells (E : Env) (cs : List AV) (b o : Nat) : Prop :=
  ∀ j c, cs[j]? = some c → c.atom = true ∧ ∃ v, E.w.cell? ⟨b, o + j, none⟩ = some v ∧ VRel E c v

def ObjRel (E : Env) (i : Nat) (o : AObj) : Prop :=
  match o.body with
  | .none => True
  | .map clk es => ∃ b, E.ρ[i]? = some (some (b, 0)) ∧ MapAt E.w b clk es
  | .var cs => ∃ b base, E.ρ[i]? = some (some (b, base)) ∧ Blk E.w b (base + cs.length) ∧ VCells E cs b base
  | .row m _ cs => (cs = [] ∧ E.ρ[i]? = some none) ∨
      ∃ b base, E.ρ[i]? = some (some (b, base)) ∧ Blk E.w b (base + cs.length) ∧ CRel E cs b base ∧ (m = false → ¬ E.X b)

structure WRel (E : Env) : Prop where
  len : E.ρ.length = E.H.length
  obj : ∀ i o, E.H[i]? = some o → ObjRel E i o
  inj : ∀ i j b, E.mutAt i b → E.mutAt j b → i = j
  fNot : ∀ i b, E.mutAt i b → ¬ E.F b
  fOld : ∀ b, E.F b → b < E.w.heap.size

def sameShape : ABody → ABody → Prop
  | .none, .none => True
  | .map _ _, .map _ _ => True
  | .var a, .var b => a.length = b.length
  | .row _ s a, .row _ t b => s = t ∧ a.length = b.length
  | _, _ => False

theorem sameShape.refl : ∀ b, sameShape b b
  | .none => trivial
  | .map _ _ => trivial
  | .var _ => rfl
  | .row _ _ _ => ⟨rfl, rfl⟩
theorem sameShape.trans : ∀ {a b c}, sameShape a b → sameShape b c → sameShape a c := by
  intro a b c h k
  cases a <;> cases b <;> cases c <;> simp_all [sameShape]

structure Wst (M M' : Nat → Prop) (w w' : World) : Prop where
  os : w'.os = w.os
  tape : w'.tape = w.tape
  output : w'.output = w.output
  size : w.heap.size ≤ w'.heap.size
  keep : ∀ b, b < w.heap.size → ¬ M b → w'.heap[b]? = w.heap[b]? ∧ ¬ M' b
  blk : ∀ (b : Nat) (arr : Array Value) (e : TypeId) (f : Nat × Nat), w.heap[b]? = some (Obj.cells arr e f) → ∃ arr' : Array Value, w'.heap[b]? = some (Obj.cells arr' e f) ∧ arr'.size = arr.size
  drawn : w.drawn ≤ w'.drawn

theorem Wst.refl (M : Nat → Prop) (w : World) : Wst M M w w :=
  ⟨rfl, rfl, rfl, Nat.le_refl _, fun _ _ h => ⟨rfl, h⟩, fun _ arr _ _ h => ⟨arr, h, rfl⟩, Nat.le_refl _⟩
theorem Wst.trans {A B C : Nat → Prop} {w1 w2 w3 : World} (h : Wst A B w1 w2) (k : Wst B C w2 w3) : Wst A C w1 w3 where
  os := k.os.trans h.os
  tape := k.tape.trans h.tape
  output := k.output.trans h.output
  size := Nat.le_trans h.size k.size
  keep b hb hn := by
    obtain ⟨h1, h2⟩ := h.keep b hb hn
    obtain ⟨k1, k2⟩ := k.keep b (Nat.lt_of_lt_of_le hb h.size) h2
    exact ⟨k1.trans h1, k2⟩
  blk b arr e f hb := by
    obtain ⟨a1, h1, s1⟩ := h.blk b arr e f hb
    obtain ⟨a2, h2, s2⟩ := k.blk b a1 e f h1
    exact ⟨a2, h2, s2.trans s1⟩
  drawn := Nat.le_trans h.drawn k.drawn

structure Step (E E' : Env) : Prop where
  F : E'.F = E.F
  obj : ∀ (i : Nat) (o : AObj), E.H[i]? = some o → ∃ o' : AObj, E'.H[i]? = some o' ∧ o.ver ≤ o'.ver ∧ (o'.ver = o.ver → sameShape o.body o'.body ∧ E'.ρ[i]? = E.ρ[i]?)
  w : Wst E.Mut E'.Mut E.w E'.w

theorem Step.refl (E : Env) : Step E E := ⟨rfl, fun _ o h => ⟨o, h, Nat.le_refl _, fun _ => ⟨.refl _, rfl⟩⟩, .refl _ _⟩
theorem Step.trans {A B C : Env} (h : Step A B) (k : Step B C) : Step A C where
  F := k.F.trans h.F
  obj i o ho := by
    obtain ⟨o1, h1, l1, s1⟩ := h.obj i o ho
    obtain ⟨o2, h2, l2, s2⟩ := k.obj i o1 h1
    refine ⟨o2, h2, by omega, fun e => ?_⟩
    obtain ⟨a1, a2⟩ := s1 (by omega)
    obtain ⟨b1, b2⟩ := s2 (by omega)
    exact ⟨a1.trans b1, b2.trans a2⟩
  w := h.w.trans k.w

theorem Blk.mono {M M' : Nat → Prop} {w w' : World} (h : Wst M M' w w') {b n : Nat} (hb : Blk w b n) : Blk w' b n := by
  obtain ⟨arr, e, h1, h2⟩ := hb
  obtain ⟨arr', h3, h4⟩ := h.blk b arr e _ h1
  exact ⟨arr', e, h3, by omega⟩
theorem Blk.le {w : World} {b n m : Nat} (h : Blk w b n) (hm : m ≤ n) : Blk w b m := by
  obtain ⟨arr, e, h1, h2⟩ := h
  exact ⟨arr, e, h1, by omega⟩
theorem Blk.lt {w : World} {b n : Nat} (h : Blk w b n) : b < w.heap.size := by
  obtain ⟨arr, e, h1, h2⟩ := h
  exact (Array.getElem?_eq_some_iff.1 h1).1

theorem cell?_of_heap {w w' : World} {b : Nat} (h : w'.heap[b]? = w.heap[b]?) (o : Nat) : w'.cell? ⟨b, o, none⟩ = w.cell? ⟨b, o, none⟩ := by
  simp only [World.cell?, h]
theorem lt_of_cell {w : World} {b o : Nat} {v : Value} (h : w.cell? ⟨b, o, none⟩ = some v) : b < w.heap.size :=
  World.block_lt_of_cell? w ⟨b, o, none⟩ h

theorem ORel.mono {E E' : Env} (h : Step E E') {i ver off len sz : Nat} {v : Value} (hr : ORel E i ver off len sz v) : ORel E' i ver off len sz v := by
  obtain ⟨a, cap, hv, hl, ha, o, ho, hver, hf⟩ := hr
  obtain ⟨o', ho', hle, hs⟩ := h.obj i o ho
  refine ⟨a, cap, hv, hl, ha, o', ho', by omega, fun e => ?_⟩
  have e1 : ver = o.ver := by omega
  obtain ⟨hsh, hρ⟩ := hs (by omega)
  have hf := hf e1
  have hp : ∀ b base, E.ρ[i]? = some (some (b, base)) → Blk E.w b (base + off + cap * sz) → Blk E'.w b (base + off + cap * sz) := fun b base _ hb => hb.mono h.w
  cases ob : o.body with
  | none => rw [ob] at hf; exact hf.elim
  | map _ _ => rw [ob] at hf; exact hf.elim
  | var cs =>
    cases ob' : o'.body <;> rw [ob, ob'] at hsh <;> simp only [sameShape] at hsh
    rw [ob] at hf
    obtain ⟨h1, b, base, h2, h3, h4⟩ := hf
    exact ⟨by omega, b, base, by rw [hρ]; exact h2, h3, h4.mono h.w⟩
  | row m s cs =>
    cases ob' : o'.body <;> rw [ob, ob'] at hsh <;> simp only [sameShape] at hsh
    rw [ob] at hf
    obtain ⟨h1, h2⟩ := hf
    refine ⟨by omega, ?_⟩
    rcases h2 with ⟨b, base, h2, h3, h4⟩ | ⟨h2, h3, h4⟩
    · exact .inl ⟨b, base, by rw [hρ]; exact h2, h3, h4.mono h.w⟩
    · refine .inr ⟨?_, by rw [hρ]; exact h3, h4⟩
      have := hsh.2
      rw [h2] at this
      exact List.length_eq_zero_iff.1 this.symm

theorem PRel.mono {E E' : Env} (h : Step E E') {i ver off : Nat} {v : Value} (hr : PRel E i ver off v) : PRel E' i ver off v := by
  obtain ⟨a, hv, o, ho, hver, hf⟩ := hr
  obtain ⟨o', ho', hle, hs⟩ := h.obj i o ho
  refine ⟨a, hv, o', ho', by omega, fun e => ?_⟩
  obtain ⟨hsh, hρ⟩ := hs (by omega)
  obtain ⟨b, base, h1, h2⟩ := hf (by omega)
  exact ⟨b, base, by rw [hρ]; exact h1, h2⟩

theorem MRel.mono {E E' : Env} (h : Step E E') {i ver : Nat} {v : Value} (hr : MRel E i ver v) : MRel E' i ver v := by
  obtain ⟨b, hv, o, ho, hver, hf⟩ := hr
  obtain ⟨o', ho', hle, hs⟩ := h.obj i o ho
  refine ⟨b, hv, o', ho', by omega, fun e => ?_⟩
  obtain ⟨hsh, hρ⟩ := hs (by omega)
  rw [hρ]; exact hf (by omega)

structure Keeps (E E' : Env) : Prop where
  own : ∀ i ver off len sz v, ORel E i ver off len sz v → ORel E' i ver off len sz v
  ptr : ∀ i ver off v, PRel E i ver off v → PRel E' i ver off v
  mp : ∀ i ver v, MRel E i ver v → MRel E' i ver v
  cells : ∀ b, b < E.w.heap.size → ¬ E.X b → ¬ E'.X b ∧ ∀ o, E'.w.cell? ⟨b, o, none⟩ = E.w.cell? ⟨b, o, none⟩

mutual
theorem VRel.keeps {E E' : Env} (h : Keeps E E') : ∀ (a : AV) (v : Value), VRel E a v → VRel E' a v
  | .undef, _, _ => trivial
  | .bool _, _, hr => hr
  | .int _ _, _, hr => hr
  | .str _, _, hr => hr
  | .nilptr, _, hr => hr
  | .nilsl, _, hr => hr
  | .nilfn, _, hr => hr
  | .nilmp, _, hr => hr
  | .emp _, _, hr => hr
  | .ro n cs, v, hr => by
    simp only [VRel] at hr ⊢
    obtain ⟨a, cap, h1, h2, h3, h4⟩ := hr
    refine ⟨a, cap, h1, h2, h3, ?_⟩
    rcases h4 with h4 | ⟨b, off, h5, h6, h7⟩
    · exact .inl h4
    · cases cs with
      | nil => exact .inl rfl
      | cons c cs =>
        have hb : b < E.w.heap.size := by
          simp only [CRel] at h7
          obtain ⟨⟨_, u, hu, _⟩, _⟩ := h7
          exact lt_of_cell hu
        obtain ⟨k1, k2⟩ := h.cells b hb h6
        exact .inr ⟨b, off, h5, k1, CRel.keeps h (c :: cs) b off k2 h7⟩
  | .rptr cs, v, hr => by
    simp only [VRel] at hr ⊢
    obtain ⟨a, h1, h4⟩ := hr
    refine ⟨a, h1, ?_⟩
    rcases h4 with h4 | ⟨b, off, h5, h6, h7⟩
    · exact .inl h4
    · cases cs with
      | nil => exact .inl rfl
      | cons c cs =>
        have hb : b < E.w.heap.size := by
          simp only [CRel] at h7
          obtain ⟨⟨_, u, hu, _⟩, _⟩ := h7
          exact lt_of_cell hu
        obtain ⟨k1, k2⟩ := h.cells b hb h6
        exact .inr ⟨b, off, h5, k1, CRel.keeps h (c :: cs) b off k2 h7⟩
  | .own i ver off len sz, v, hr => by simp only [VRel] at hr ⊢; exact h.own _ _ _ _ _ _ hr
  | .ptr i ver off, v, hr => by simp only [VRel] at hr ⊢; exact h.ptr _ _ _ _ hr
  | .mp i ver, v, hr => by simp only [VRel] at hr ⊢; exact h.mp _ _ _ hr
  | .agg cs, v, hr => by
    simp only [VRel] at hr ⊢
    obtain ⟨arr, h1, h2⟩ := hr
    exact ⟨arr, h1, LRel.keeps h cs _ h2⟩
  | .tup cs, v, hr => by
    simp only [VRel] at hr ⊢
    obtain ⟨arr, h1, h2⟩ := hr
    exact ⟨arr, h1, LRel.keeps h cs _ h2⟩
  | .fn f xs ys, v, hr => by
    simp only [VRel] at hr ⊢
    obtain ⟨a1, a2, h1, h2, h3⟩ := hr
    exact ⟨a1, a2, h1, LRel.keeps h xs _ h2, LRel.keeps h ys _ h3⟩
theorem CRel.keeps {E E' : Env} (h : Keeps E E') : ∀ (cs : List AV) (b o : Nat), (∀ o, E'.w.cell? ⟨b, o, none⟩ = E.w.cell? ⟨b, o, none⟩) → CRel E cs b o → CRel E' cs b o
  | [], _, _, _, _ => trivial
  | c :: cs, b, o, hc, hr => by
    simp only [CRel] at hr ⊢
    obtain ⟨⟨h1, v, h2, h3⟩, h4⟩ := hr
    exact ⟨⟨h1, v, (hc o).trans h2, VRel.keeps h c v h3⟩, CRel.keeps h cs b (o + 1) hc h4⟩
theorem LRel.keeps {E E' : Env} (h : Keeps E E') : ∀ (cs : List AV) (vs : List Value), LRel E cs vs → LRel E' cs vs
  | [], _, hr => hr
  | c :: cs, vs, hr => by
    simp only [LRel] at hr ⊢
    obtain ⟨v, r, h1, h2, h3⟩ := hr
    exact ⟨v, r, h1, VRel.keeps h c v h2, LRel.keeps h cs r h3⟩
end

theorem Step.x {E E' : Env} (h : Step E E') {b : Nat} (hb : b < E.w.heap.size) (hx : ¬ E.X b) : ¬ E'.X b ∧ E'.w.heap[b]? = E.w.heap[b]? := by
  have h1 : ¬ E.Mut b := fun q => hx (.inr q)
  have h2 : ¬ E.F b := fun q => hx (.inl q)
  obtain ⟨k1, k2⟩ := h.w.keep b hb h1
  exact ⟨fun q => q.elim (fun q => h2 (by rw [← h.F]; exact q)) k2, k1⟩

theorem Step.keeps {E E' : Env} (h : Step E E') : Keeps E E' where
  own _ _ _ _ _ _ hr := hr.mono h
  ptr _ _ _ _ hr := hr.mono h
  mp _ _ _ hr := hr.mono h
  cells b hb hx := ⟨(h.x hb hx).1, fun o => cell?_of_heap (h.x hb hx).2 o⟩

theorem VRel.mono {E E' : Env} (h : Step E E') {a : AV} {v : Value} (hr : VRel E a v) : VRel E' a v := VRel.keeps h.keeps a v hr
theorem LRel.mono {E E' : Env} (h : Step E E') {a : List AV} {v : List Value} (hr : LRel E a v) : LRel E' a v := LRel.keeps h.keeps a v hr

theorem LRel.length {E : Env} : ∀ {cs : List AV} {vs : List Value}, LRel E cs vs → vs.length = cs.length
  | [], vs, h => by simp only [LRel] at h; rw [h]; rfl
  | c :: cs, vs, h => by
    simp only [LRel] at h
    obtain ⟨v, r, h1, _, h3⟩ := h
    rw [h1, List.length_cons, List.length_cons, LRel.length h3]
theorem LRel.get {E : Env} : ∀ {cs : List AV} {vs : List Value} (_ : LRel E cs vs) (j : Nat) (c : AV), cs[j]? = some c → ∃ v, vs[j]? = some v ∧ VRel E c v
  | [], _, _, _, _, hj => by simp at hj
  | c :: cs, vs, h, j, x, hj => by
    simp only [LRel] at h
    obtain ⟨v, r, h1, h2, h3⟩ := h
    cases j with
    | zero => simp at hj; subst hj; exact ⟨v, by simp [h1], h2⟩
    | succ j =>
      simp only [List.getElem?_cons_succ] at hj
      obtain ⟨u, hu, hr⟩ := LRel.get h3 j x hj
      exact ⟨u, by simp [h1, hu], hr⟩
theorem LRel.of {E : Env} : ∀ {cs : List AV} {vs : List Value}, vs.length = cs.length → (∀ (j : Nat) (c : AV) (v : Value), cs[j]? = some c → vs[j]? = some v → VRel E c v) → LRel E cs vs
  | [], vs, hl, _ => by simp only [LRel]; exact List.length_eq_zero_iff.1 hl
  | c :: cs, [], hl, _ => by simp at hl
  | c :: cs, v :: vs, hl, h => by
    simp only [LRel]
    exact ⟨v, vs, rfl, h 0 c v rfl rfl, LRel.of (by simpa using hl) fun j c v h1 h2 => h (j + 1) c v (by simpa using h1) (by simpa using h2)⟩
theorem CRel.get {E : Env} : ∀ {cs : List AV} {b o : Nat} (_ : CRel E cs b o) (j : Nat) (c : AV), cs[j]? = some c → c.tree = true ∧ ∃ v, E.w.cell? ⟨b, o + j, none⟩ = some v ∧ VRel E c v
  | [], _, _, _, _, _, hj => by simp at hj
  | c :: cs, b, o, h, j, x, hj => by
    simp only [CRel] at h
    obtain ⟨⟨h1, v, h2, h3⟩, h4⟩ := h
    cases j with
    | zero => simp at hj; subst hj; exact ⟨h1, v, h2, h3⟩
    | succ j =>
      simp only [List.getElem?_cons_succ] at hj
      have := CRel.get h4 j x hj
      rwa [show o + 1 + j = o + (j + 1) by omega] at this
theorem CRel.of {E : Env} : ∀ {cs : List AV} {b o : Nat}, (∀ j c, cs[j]? = some c → c.tree = true ∧ ∃ v, E.w.cell? ⟨b, o + j, none⟩ = some v ∧ VRel E c v) → CRel E cs b o
  | [], _, _, _ => trivial
  | c :: cs, b, o, h => by
    simp only [CRel]
    refine ⟨by simpa using h 0 c rfl, CRel.of fun j x hj => ?_⟩
    have := h (j + 1) x (by simpa using hj)
    rwa [show o + (j + 1) = o + 1 + j by omega] at this
theorem CRel.drop {E : Env} {cs : List AV} {b o : Nat} (h : CRel E cs b o) (k : Nat) : CRel E (cs.drop k) b (o + k) :=
  CRel.of fun j c hj => by
    have := h.get (k + j) c (by rw [← hj, List.getElem?_drop])
    rwa [← Nat.add_assoc] at this
theorem CRel.take {E : Env} {cs : List AV} {b o : Nat} (h : CRel E cs b o) (k : Nat) : CRel E (cs.take k) b o :=
  CRel.of fun j c hj => by
    refine h.get j c ?_
    rw [List.getElem?_take] at hj
    split at hj
    · exact hj
    · cases hj
theorem CRel.append {E : Env} {cs ds : List AV} {b o : Nat} (h : CRel E cs b o) (k : CRel E ds b (o + cs.length)) : CRel E (cs ++ ds) b o :=
  CRel.of fun j c hj => by
    by_cases hlt : j < cs.length
    · rw [List.getElem?_append_left hlt] at hj; exact h.get j c hj
    · rw [List.getElem?_append_right (by omega)] at hj
      have := k.get _ c hj
      rwa [show o + cs.length + (j - cs.length) = o + j by omega] at this
theorem CRel.toV {E : Env} {cs : List AV} {b o : Nat} (h : CRel E cs b o) : VCells E cs b o := fun j c hj => by
  obtain ⟨h1, h2⟩ := h.get j c hj
  refine ⟨?_, h2⟩
  cases c <;> simp_all [AV.tree, AV.atom]
theorem VCells.keeps {E E' : Env} (h : Keeps E E') {cs : List AV} {b o : Nat} (hc : ∀ o, E'.w.cell? ⟨b, o, none⟩ = E.w.cell? ⟨b, o, none⟩) (hv : VCells E cs b o) : VCells E' cs b o :=
  fun j c hj => by
    obtain ⟨h1, v, h2, h3⟩ := hv j c hj
    exact ⟨h1, v, (hc _).trans h2, VRel.keeps h c v h3⟩
theorem VRel.one {E : Env} {a : AV} {v : Value} (h : VRel E a v) (ha : a.atom = true) : v.oneCell' = true := by
  cases a <;> simp only [VRel, AV.atom] at h ha <;> try (simp at ha; done)
  all_goals first
    | (subst h; rfl)
    | (obtain ⟨_, rfl, _⟩ := h; rfl)
    | (obtain ⟨_, _, rfl, _⟩ := h; rfl)
theorem AV.tree_atom {a : AV} (h : a.tree = true) : a.atom = true := by cases a <;> simp_all [AV.tree, AV.atom]

end Go.Ev
end
section
namespace Go.Ev

theorem mapAt_lt {w : World} {b clk : Nat} {es : List (List AV × Int × Nat)} (h : MapAt w b clk es) : b < w.heap.size := (Array.getElem?_eq_some_iff.1 h).1
theorem set_get_eq {α : Type} {l : List α} {i : Nat} {x y : α} (h : l[i]? = some y) : (l.set i x)[i]? = some x := by
  have : i < l.length := (List.getElem?_eq_some_iff.1 h).1
  simp [this]
theorem set_get_ne {α : Type} {l : List α} {i j : Nat} {x : α} (h : i ≠ j) : (l.set i x)[j]? = l[j]? := by
  simp [h]

def Env.put (E : Env) (i : Nat) (o : AObj) (p : Option (Nat × Nat)) (w' : World) : Env := ⟨E.F, E.H.set i o, E.ρ.set i p, w'⟩

section
variable {E : Env} {i : Nat} {o o' : AObj} {p : Option (Nat × Nat)} {w' : World}

theorem mutAt_put_ne {j b : Nat} (h : i ≠ j) : (E.put i o' p w').mutAt j b ↔ E.mutAt j b := by
  unfold Env.mutAt Env.put
  simp only [set_get_ne h]
theorem mutAt_put_eq {b : Nat} (hl : E.ρ.length = E.H.length) (hi : E.H[i]? = some o) : (E.put i o' p w').mutAt i b ↔ (o'.body.isMut = true ∧ ∃ base, p = some (b, base)) := by
  have hi' : i < E.ρ.length := by rw [hl]; exact (List.getElem?_eq_some_iff.1 hi).1
  unfold Env.mutAt Env.put
  simp only [set_get_eq hi, List.getElem?_set_self hi']
  constructor
  · rintro ⟨o1, base, h1, h2, h3⟩
    cases h1
    exact ⟨h2, base, by simpa using h3⟩
  · rintro ⟨h2, base, h3⟩
    exact ⟨o', base, rfl, h2, by rw [h3]⟩

structure Chg (E : Env) (i : Nat) (w' : World) : Prop where
  os : w'.os = E.w.os
  tape : w'.tape = E.w.tape
  output : w'.output = E.w.output
  size : E.w.heap.size ≤ w'.heap.size
  same : ∀ b, b < E.w.heap.size → ¬ E.mutAt i b → w'.heap[b]? = E.w.heap[b]?
  blk : ∀ (b : Nat) (arr : Array Value) (e : TypeId) (f : Nat × Nat), E.w.heap[b]? = some (Obj.cells arr e f) → ∃ arr' : Array Value, w'.heap[b]? = some (Obj.cells arr' e f) ∧ arr'.size = arr.size
  drawn : E.w.drawn ≤ w'.drawn

theorem Chg.none (E : Env) (i : Nat) : Chg E i E.w := ⟨rfl, rfl, rfl, Nat.le_refl _, fun _ _ _ => rfl, fun _ arr _ _ h => ⟨arr, h, rfl⟩, Nat.le_refl _⟩
theorem Chg.drew {E : Env} {i : Nat} {w' : World} (h : Chg E i w') : Chg E i w'.drew := ⟨h.os, h.tape, h.output, h.size, h.same, h.blk, Nat.le_succ_of_le h.drawn⟩
theorem Chg.alloc {E : Env} {i : Nat} {w' : World} (h : Chg E i w') (ob : Obj) : Chg E i (w'.alloc ob) where
  os := h.os
  tape := h.tape
  output := h.output
  size := by rw [World.size_alloc]; have := h.size; omega
  same b hb hn := (RowKit.Below.heap_alloc w' ob b (Nat.lt_of_lt_of_le hb h.size)).trans (h.same b hb hn)
  blk b arr e f hb := by
    obtain ⟨arr', h1, h2⟩ := h.blk b arr e f hb
    have hlt : b < w'.heap.size := (Array.getElem?_eq_some_iff.1 h1).1
    exact ⟨arr', (RowKit.Below.heap_alloc w' ob b hlt).trans h1, h2⟩
  drawn := h.drawn
theorem setCell_blk (w : World) (x : Addr) (u : Value) (b : Nat) (arr : Array Value) (e : TypeId) (f : Nat × Nat) (hb : w.heap[b]? = some (Obj.cells arr e f)) :
    ∃ arr' : Array Value, (w.setCell x u).heap[b]? = some (Obj.cells arr' e f) ∧ arr'.size = arr.size := by
  simp only [World.setCell, Array.getElem?_modify]
  by_cases h : x.block = b
  · rw [if_pos h, hb]
    simp only [Option.map_some]
    refine ⟨_, rfl, ?_⟩
    split <;> simp
  · rw [if_neg h]; exact ⟨arr, hb, rfl⟩
theorem Chg.setCells {E : Env} {i b : Nat} (hm : E.mutAt i b) : ∀ (vs : List Value) (o : Nat) (w' : World), Chg E i w' → Chg E i (w'.setCells b o vs)
  | [], _, _, h => h
  | v :: vs, o, w', h => by
    rw [World.setCells]
    refine Chg.setCells hm vs (o + 1) _ ⟨h.os, h.tape, h.output, by rw [World.size_setCell]; exact h.size, fun c hc hn => ?_, fun c arr e f hc => ?_, h.drawn⟩
    · rw [RowKit.Below.heap_setCell w' ⟨b, o, Option.none⟩ v c (fun q => hn (by rw [q]; exact hm))]
      exact h.same c hc hn
    · obtain ⟨arr', h1, h2⟩ := h.blk c arr e f hc
      obtain ⟨arr'', h3, h4⟩ := setCell_blk w' ⟨b, o, Option.none⟩ v c arr' e f h1
      exact ⟨arr'', h3, h4.trans h2⟩

theorem relay (hw : WRel E) (hi : E.H[i]? = some o) (hv : o.ver ≤ o'.ver) (hs : o'.ver = o.ver → sameShape o.body o'.body ∧ E.ρ[i]? = some p)
    (hc : Chg E i w') (hp : ∀ b base, o'.body.isMut = true → p = some (b, base) → E.mutAt i b ∨ E.w.heap.size ≤ b)
    (hobj : Step E (E.put i o' p w') → ObjRel (E.put i o' p w') i o') :
    WRel (E.put i o' p w') ∧ Step E (E.put i o' p w') := by
  have hlen : i < E.ρ.length := by rw [hw.len]; exact (List.getElem?_eq_some_iff.1 hi).1
  have hMut : ∀ j b, (E.put i o' p w').mutAt j b → E.mutAt j b ∨ (j = i ∧ E.w.heap.size ≤ b) := by
    intro j b hm
    by_cases e : i = j
    · subst e
      obtain ⟨h1, base, h2⟩ := (mutAt_put_eq hw.len hi).1 hm
      exact (hp b base h1 h2).imp id fun h => ⟨rfl, h⟩
    · exact .inl ((mutAt_put_ne e).1 hm)
  have hstep : Step E (E.put i o' p w') := by
    refine ⟨rfl, fun j q hq => ?_, ?_⟩
    · by_cases e : i = j
      · subst e
        rw [hi] at hq
        cases hq
        exact ⟨o', set_get_eq hi, hv, fun e => ⟨(hs e).1, by rw [(hs e).2]; exact List.getElem?_set_self hlen⟩⟩
      · exact ⟨q, (set_get_ne e).trans hq, Nat.le_refl _, fun _ => ⟨.refl _, set_get_ne e⟩⟩
    · refine ⟨hc.os, hc.tape, hc.output, hc.size, fun b hb hn => ⟨hc.same b hb fun q => hn ⟨i, q⟩, ?_⟩, hc.blk, hc.drawn⟩
      rintro ⟨j, hm⟩
      rcases hMut j b hm with h | ⟨_, h⟩
      · exact hn ⟨j, h⟩
      · omega
  refine ⟨⟨by simp [Env.put, hw.len], fun j q hq => ?_, fun j k b hj hk => ?_, fun j b hm => ?_, fun b hb => Nat.lt_of_lt_of_le (hw.fOld b hb) hc.size⟩, hstep⟩
  · by_cases e : i = j
    · subst e
      have : q = o' := by
        have h := set_get_eq (x := o') hi
        have hq' : (E.H.set i o')[i]? = some q := hq
        rw [h] at hq'
        exact (Option.some.inj hq').symm
      subst this
      exact hobj hstep
    · have hq' : E.H[j]? = some q := by rw [← hq]; exact (set_get_ne e).symm
      have hold := hw.obj j q hq'
      have hρ : (E.put i o' p w').ρ[j]? = E.ρ[j]? := set_get_ne e
      -- the block of another object is as it was
      have hkeep : ∀ b base, E.ρ[j]? = some (some (b, base)) → (q.body.isMut = true ∨ ¬ E.X b) → b < E.w.heap.size → ∀ x, (E.put i o' p w').w.cell? ⟨b, x, none⟩ = E.w.cell? ⟨b, x, none⟩ := by
        intro b base h1 h2 h3 x
        refine cell?_of_heap (hc.same b h3 fun hm => ?_) x
        rcases h2 with h2 | h2
        · exact e (hw.inj i j b hm ⟨q, base, hq', h2, h1⟩)
        · exact h2 (.inr ⟨i, hm⟩)
      unfold ObjRel at hold ⊢
      cases hb : q.body with
      | none => trivial
      | map clk es =>
        rw [hb] at hold
        obtain ⟨b, h1, h2⟩ := hold
        refine ⟨b, hρ.trans h1, (hc.same b (mapAt_lt h2) fun hm => e (hw.inj i j b hm ⟨q, 0, hq', by rw [hb]; rfl, h1⟩)).trans h2⟩
      | var cs =>
        rw [hb] at hold
        obtain ⟨b, base, h1, h2, h3⟩ := hold
        exact ⟨b, base, hρ.trans h1, h2.mono hstep.w, h3.keeps hstep.keeps (hkeep b base h1 (.inl (by rw [hb]; rfl)) h2.lt)⟩
      | row m s cs =>
        rw [hb] at hold
        rcases hold with ⟨h1, h2⟩ | ⟨b, base, h1, h2, h3, h4⟩
        · exact .inl ⟨h1, hρ.trans h2⟩
        · refine .inr ⟨b, base, hρ.trans h1, h2.mono hstep.w, CRel.keeps hstep.keeps cs b base (hkeep b base h1 ?_ h2.lt) h3, fun hm => (hstep.x h2.lt (h4 hm)).1⟩
          cases m with
          | true => exact .inl (by rw [hb]; rfl)
          | false => exact .inr (h4 rfl)
  · by_cases e1 : i = j <;> by_cases e2 : i = k
    · rw [← e1, ← e2]
    · subst e1
      obtain ⟨h1, base, h2⟩ := (mutAt_put_eq hw.len hi).1 hj
      have hk' := (mutAt_put_ne e2).1 hk
      rcases hp b base h1 h2 with h | h
      · exact hw.inj i k b h hk'
      · obtain ⟨q, bs, q1, q2, q3⟩ := hk'
        have := hw.obj k q q1
        unfold ObjRel at this
        exfalso
        have hlt : b < E.w.heap.size := by
          cases hb : q.body with
          | none => rw [hb] at q2; cases q2
          | map _ _ => rw [hb] at this; obtain ⟨b', r1, r2⟩ := this; rw [q3] at r1; cases r1; exact mapAt_lt r2
          | var cs => rw [hb] at this; obtain ⟨b', bs', r1, r2, _⟩ := this; rw [q3] at r1; cases r1; exact r2.lt
          | row m s cs =>
            rw [hb] at this
            rcases this with ⟨_, r1⟩ | ⟨b', bs', r1, r2, _⟩
            · rw [q3] at r1; cases r1
            · rw [q3] at r1; cases r1; exact r2.lt
        omega
    · subst e2
      obtain ⟨h1, base, h2⟩ := (mutAt_put_eq hw.len hi).1 hk
      have hj' := (mutAt_put_ne e1).1 hj
      rcases hp b base h1 h2 with h | h
      · exact (hw.inj i j b h hj').symm
      · obtain ⟨q, bs, q1, q2, q3⟩ := hj'
        have := hw.obj j q q1
        unfold ObjRel at this
        exfalso
        have hlt : b < E.w.heap.size := by
          cases hb : q.body with
          | none => rw [hb] at q2; cases q2
          | map _ _ => rw [hb] at this; obtain ⟨b', r1, r2⟩ := this; rw [q3] at r1; cases r1; exact mapAt_lt r2
          | var cs => rw [hb] at this; obtain ⟨b', bs', r1, r2, _⟩ := this; rw [q3] at r1; cases r1; exact r2.lt
          | row m s cs =>
            rw [hb] at this
            rcases this with ⟨_, r1⟩ | ⟨b', bs', r1, r2, _⟩
            · rw [q3] at r1; cases r1
            · rw [q3] at r1; cases r1; exact r2.lt
        omega
    · exact hw.inj j k b ((mutAt_put_ne e1).1 hj) ((mutAt_put_ne e2).1 hk)
  · rcases hMut j b hm with h | ⟨_, h⟩
    · exact hw.fNot j b h
    · intro hf; have := hw.fOld b hf; omega
end

theorem WRel.block_lt {E : Env} (hw : WRel E) {i b base : Nat} {q : AObj} (hq : E.H[i]? = some q) (hm : q.body.isMut = true) (hρ : E.ρ[i]? = some (some (b, base))) : b < E.w.heap.size := by
  have := hw.obj i q hq
  unfold ObjRel at this
  cases hb : q.body with
  | none => rw [hb] at hm; cases hm
  | map _ _ => rw [hb] at this; obtain ⟨b', r1, r2⟩ := this; rw [hρ] at r1; cases r1; exact mapAt_lt r2
  | var cs => rw [hb] at this; obtain ⟨b', bs', r1, r2, _⟩ := this; rw [hρ] at r1; cases r1; exact r2.lt
  | row m s cs =>
    rw [hb] at this
    rcases this with ⟨_, r1⟩ | ⟨b', bs', r1, r2, _⟩
    · rw [hρ] at r1; cases r1
    · rw [hρ] at r1; cases r1; exact r2.lt
theorem WRel.grow {E : Env} (hw : WRel E) {w' : World} (hos : w'.os = E.w.os) (ht : w'.tape = E.w.tape) (hout : w'.output = E.w.output) (hs : E.w.heap.size ≤ w'.heap.size) (hd : E.w.drawn ≤ w'.drawn)
    (hb : ∀ b, b < E.w.heap.size → w'.heap[b]? = E.w.heap[b]?) : WRel ⟨E.F, E.H, E.ρ, w'⟩ ∧ Step E ⟨E.F, E.H, E.ρ, w'⟩ := by
  have hst : Step E ⟨E.F, E.H, E.ρ, w'⟩ :=
    ⟨rfl, fun _ o h => ⟨o, h, Nat.le_refl _, fun _ => ⟨.refl _, rfl⟩⟩, hos, ht, hout, hs, fun b h hn => ⟨hb b h, hn⟩, fun b arr e f h => ⟨arr, (hb b (Array.getElem?_eq_some_iff.1 h).1).trans h, rfl⟩, hd⟩
  refine ⟨⟨hw.len, fun i q hq => ?_, hw.inj, hw.fNot, fun b h => Nat.lt_of_lt_of_le (hw.fOld b h) hs⟩, hst⟩
  have := hw.obj i q hq
  unfold ObjRel at this ⊢
  cases hbb : q.body with
  | none => trivial
  | map clk es =>
    rw [hbb] at this
    obtain ⟨b, h1, h2⟩ := this
    exact ⟨b, h1, (hb b (mapAt_lt h2)).trans h2⟩
  | var cs =>
    rw [hbb] at this
    obtain ⟨b, base, h1, h2, h3⟩ := this
    exact ⟨b, base, h1, h2.mono hst.w, h3.keeps hst.keeps (fun o => cell?_of_heap (hb b h2.lt) o)⟩
  | row m s cs =>
    rw [hbb] at this
    rcases this with h | ⟨b, base, h1, h2, h3, h4⟩
    · exact .inl h
    · exact .inr ⟨b, base, h1, h2.mono hst.w, CRel.keeps hst.keeps cs b base (fun o => cell?_of_heap (hb b h2.lt) o) h3, h4⟩
theorem WRel.alloc {E : Env} (hw : WRel E) (ob : Obj) : WRel ⟨E.F, E.H, E.ρ, E.w.alloc ob⟩ ∧ Step E ⟨E.F, E.H, E.ρ, E.w.alloc ob⟩ :=
  hw.grow rfl rfl rfl (by simp) (Nat.le_refl _) fun b hb => RowKit.Below.heap_alloc E.w ob b hb
theorem WRel.drew {E : Env} (hw : WRel E) : WRel ⟨E.F, E.H, E.ρ, E.w.drew⟩ ∧ Step E ⟨E.F, E.H, E.ρ, E.w.drew⟩ :=
  hw.grow rfl rfl rfl (Nat.le_refl _) (Nat.le_succ _) fun _ _ => rfl

def Lay (E : Env) (ups : List (Nat × AObj)) (ρ : List (Option (Nat × Nat))) (w' : World) : Env := ⟨E.F, layAll E.H ups, ρ, w'⟩
def Out (E : Env) (x : AV) (ups : List (Nat × AObj)) (v : Value) (w' : World) : Prop :=
  ∃ ρ, WRel (Lay E ups ρ w') ∧ Step E (Lay E ups ρ w') ∧ VRel (Lay E ups ρ w') x v
theorem Out.same {E : Env} {x : AV} {v : Value} (hw : WRel E) (h : VRel E x v) : Out E x [] v E.w := ⟨E.ρ, hw, .refl _, h⟩
theorem Out.put {E : Env} {i : Nat} {o : AObj} {p : Option (Nat × Nat)} {w' : World} {x : AV} {v : Value} (h : WRel (E.put i o p w') ∧ Step E (E.put i o p w')) (hv : VRel (E.put i o p w') x v) :
    Out E x [(i, o)] v w' := ⟨_, h.1, h.2, hv⟩

theorem freeze_one {E : Env} {i : Nat} {v sz : Nat} {m : Bool} {cs : List AV} (hw : WRel E) (hi : E.H[i]? = some ⟨v, .row m sz cs⟩) :
    ∃ p, WRel (E.put i ⟨v, .row false sz cs⟩ p E.w) ∧ Step E (E.put i ⟨v, .row false sz cs⟩ p E.w) ∧ (E.put i ⟨v, .row false sz cs⟩ p E.w).ρ = E.ρ := by
  have hlt : i < E.ρ.length := by rw [hw.len]; exact (List.getElem?_eq_some_iff.1 hi).1
  have hp : E.ρ[i]? = some (E.ρ[i]'hlt) := List.getElem?_eq_getElem hlt
  have hset : E.ρ.set i (E.ρ[i]'hlt) = E.ρ := by
    apply List.ext_getElem? 
    intro j
    rw [List.getElem?_set]
    split
    · rename_i e; subst e; rw [hp]
    · rfl
  refine ⟨E.ρ[i]'hlt, ?_⟩
  have := relay (o' := ⟨v, .row false sz cs⟩) (p := E.ρ[i]'hlt) hw hi (Nat.le_refl _) (fun _ => ⟨⟨rfl, rfl⟩, hp⟩) (Chg.none E i) (fun b base h => by cases h) (fun hst => by
    have hold := hw.obj i _ hi
    unfold ObjRel at hold ⊢
    simp only at hold ⊢
    have hρ : (E.put i ⟨v, .row false sz cs⟩ (E.ρ[i]'hlt) E.w).ρ[i]? = E.ρ[i]? := by show (E.ρ.set i _)[i]? = _; rw [hset]
    rcases hold with ⟨h1, h2⟩ | ⟨b, base, h1, h2, h3, h4⟩
    · exact .inl ⟨h1, hρ.trans h2⟩
    · refine .inr ⟨b, base, hρ.trans h1, h2, CRel.keeps hst.keeps cs b base (fun _ => rfl) h3, fun _ => ?_⟩
      cases m with
      | false => exact (hst.x h2.lt (h4 rfl)).1
      | true =>
        have hm : E.mutAt i b := ⟨_, base, hi, rfl, h1⟩
        rintro (hf | ⟨j, hj⟩)
        · exact hw.fNot i b hm hf
        · by_cases e : i = j
          · subst e
            have := (mutAt_put_eq hw.len hi).1 hj
            exact absurd this.1 (by simp [ABody.isMut])
          · exact e (hw.inj i j b hm ((mutAt_put_ne e).1 hj)))
  exact ⟨this.1, this.2, hset⟩

end Go.Ev
end
section
namespace Go.Ev

mutual
def constB : AV → Value → Bool
  | .bool b, v => match v with
    | .bool b' => b == b'
    | _ => false
  | .int k n, v => match v with
    | .int k' n' => k == k' && n == n'
    | _ => false
  | .str l, v => match v with
    | .string s => l == s.data.toList
    | _ => false
  | .nilptr, v => match v with
    | .pointer a => a.isNone
    | _ => false
  | .nilsl, v => match v with
    | .slice a n c => a.isNone && n == 0 && c == 0
    | _ => false
  | .nilfn, v => match v with
    | .nilFunc => true
    | _ => false
  | .nilmp, v => match v with
    | .map a => a.isNone
    | _ => false
  | .agg cs, v => match v with
    | .agg arr => constL cs arr.toList
    | _ => false
  | .fn f xs ys, v => match v with
    | .func fn a b => xs.isEmpty && ys.isEmpty && fn == .func f && a.isEmpty && b.isEmpty
    | _ => false
  | .undef, _ => false
  | .ro _ _, _ => false
  | .rptr _, _ => false
  | .emp _, _ => false
  | .own _ _ _ _ _, _ => false
  | .ptr _ _ _, _ => false
  | .mp _ _, _ => false
  | .tup _, _ => false
def constL : List AV → List Value → Bool
  | [], vs => vs.isEmpty
  | c :: cs, vs => match vs with
    | v :: vs => constB c v && constL cs vs
    | [] => false
end

def chkX : MX → Operand → Bool
  | .s n, .tmp t => n == t
  | .c a, .const v => constB a v
  | .c (.fn f [] []), .func g => f == g
  | _, _ => false
def chkXs : List MX → List Operand → Bool
  | [], [] => true
  | x :: xs, y :: ys => chkX x y && chkXs xs ys
  | _, _ => false
def chkXO : Option MX → Option Operand → Bool
  | none, none => true
  | some x, some y => chkX x y
  | _, _ => false

section
variable (P : Program)
def szB (t : TypeId) (n : Nat) : Bool := match P.info? t with
  | some i => i.size == n
  | none => false
def aggB (t : TypeId) : Bool := match P.underlying t with
  | some (.struct _) | some (.array _ _) => true
  | _ => false
def oneB (t : TypeId) : Bool := match P.underlying t with
  | some (.struct _) | some (.array _ _) | none => false
  | some _ => true
def zeroB (t : TypeId) (zs : List AV) : Bool := match P.info? t with
  | some i => match i.zero with
    | some z => constL zs z.cells.toList && zs.all AV.atom
    | none => false
  | none => false
def loadB (n : Option Nat) (t : TypeId) : Bool := match n with
  | none => oneB P t
  | some n => aggB P t && szB P t n && decide (0 < n)
def sliceB (t e : TypeId) : Bool := match P.underlying t with
  | some (.slice e') => e == e'
  | _ => false
def partsS (fs : Array Field) : List (Nat × Nat × MX) → List (Nat × Operand) → Bool
  | [], [] => true
  | (off, n, x) :: r, (i, y) :: s => (match fs[i]? with
      | some f => f.offset == off && szB P f.type n
      | none => false) && chkX x y && partsS fs r s
  | _, _ => false
def partsA (sz : Nat) : List (Nat × Nat × MX) → List (Nat × Operand) → Bool
  | [], [] => true
  | (off, n, x) :: r, (i, y) :: s => off == i * sz && n == sz && chkX x y && partsA sz r s
  | _, _ => false
def fieldKinds (kk : TypeId → Option (List (Option IntKind))) : Nat → List Field → Option (List (Option IntKind))
  | _, [] => some []
  | off, f :: r => if f.name != "_" && f.offset == off then match kk f.type with
    | some ks => if szB P f.type ks.length && decide (0 < ks.length) then (fieldKinds kk (off + ks.length) r).map (ks ++ ·) else none
    | none => none
    else none
def kindsOf : Nat → TypeId → Option (List (Option IntKind))
  | 0, _ => none
  | d + 1, t => match P.underlying t with
    | some (.int k) => if szB P t 1 then some [some k] else none
    | some .bool => if szB P t 1 then some [none] else none
    | some (.array n e) => match kindsOf d e with
      | some ks => if szB P e ks.length && decide (0 < ks.length) && szB P t (n * ks.length) then some (List.replicate n ks).flatten else none
      | none => none
    | some (.struct fs) => if P.stoodInHeld t then none else match fieldKinds P (kindsOf d) 0 fs.toList with
      | some ks => if szB P t ks.length then some ks else none
      | none => none
    | _ => none
def tcB (tc : TC) (t : TypeId) : Bool := match tc with
  | .int => true
  | .str => true
  | .bool => match P.underlying t with
    | some .bool => true
    | _ => false
  | .sl => match P.underlying t with
    | some (.slice _) => true
    | _ => false
  | .ptr => match P.underlying t with
    | some (.pointer _) => true
    | _ => false
  | .agg ks => aggB P t && kindsOf P 20 t == some ks && !P.eqGuardType P.depth t

def isSliceB (t : TypeId) : Bool := match P.underlying t with
  | some (.slice _) => true
  | _ => false
def u8SliceB (t : TypeId) : Bool := match P.underlying t with
  | some (.slice e) => (match P.underlying e with
    | some (.int .u8) => true
    | _ => false)
  | _ => false

def mapB (t : TypeId) (ks : List (Option IntKind)) : Bool := match P.underlying t with
  | some (.map k e) => aggB P k && kindsOf P 20 k == some ks && (match P.info? e with
    | some i => (match i.zero with
      | some (.int .i64 0) => true
      | _ => false)
    | none => false)
  | _ => false

def chkOp (m : MOp) (op : Op) : Bool :=
  match m with
  | .mv x => match op with
    | .move y => chkX x y
    | .assign y => chkX x y
    | _ => false
  | .stop => true
  | .frz _ x => match op with
    | .move y => chkX x y
    | .assign y => chkX x y
    | _ => false
  | .vnil _ _ => match op with
    | .move (.const (.slice none 0 0)) => true
    | .assign (.const (.slice none 0 0)) => true
    | _ => false
  | .pick c a b => match op with
    | .pick c' a' b' => chkX c c' && chkX a a' && chkX b b'
    | _ => false
  | .alloc _ zs => match op with
    | .alloc t => zeroB P t zs
    | _ => false
  | .box _ x => match op with
    | .box _ y => chkX x y
    | _ => false
  | .build zs ps => match op with
    | .build t qs => zeroB P t zs && (match P.underlying t with
      | some (.struct fs) => fs.all (fun f => (P.info? f.type).isSome) && partsS P fs ps qs.toList
      | some (.array _ e) => (match P.info? e with
        | some i => partsA i.size ps qs.toList
        | none => false)
      | _ => false)
    | _ => false
  | .lit _ _ len sz zs ps => match op with
    | .buildSlice t n qs => n == len && (match P.underlying t with
      | some (.slice e) => szB P e sz && zeroB P e zs && zs.length == sz && decide (0 < sz) && decide (len * sz ≤ 16777216) && partsA sz ps qs.toList
      | _ => false)
    | _ => false
  | .load n _ x => match op with
    | .load t y => loadB P n t && chkX x y
    | _ => false
  | .store n _ _ x v => match op with
    | .store t y u => szB P t n && decide (0 < n) && chkX x y && chkX v u
    | _ => false
  | .nilchk x => match op with
    | .nilCheck y => chkX x y
    | _ => false
  | .bin o tc x y => match op with
    | .binOp o' t x' y' _ => o == o' && tcB P tc t && chkX x x' && chkX y y'
    | _ => false
  | .un o x => match op with
    | .unOp o' _ y => o == o' && chkX x y
    | _ => false
  | .conv k x => match op with
    | .convert s d y => (P.underlying s).isSome && (match P.underlying d with
        | some (.int k') => k == k'
        | _ => false) && chkX x y
    | _ => false
  | .b2s _ x => match op with
    | .convert s d y => u8SliceB P s && (match P.underlying d with
        | some .string => true
        | _ => false) && chkX x y
    | _ => false
  | .faddr off x => match op with
    | .fieldAddr s y f => (match P.underlying s with
        | some (.struct fs) => (match fs[f]? with
          | some fd => fd.offset == off && (match P.info? fd.type with
            | some i => i.size != 0
            | none => false)
          | none => false)
        | _ => false) && chkX x y
    | _ => false
  | .iaddrA len sz x i => match op with
    | .indexAddr t y j => (match P.underlying t with
        | some (.array n e) => n == len && szB P e sz
        | _ => false) && chkX x y && chkX i j
    | _ => false
  | .iaddrS sz x i => match op with
    | .indexAddr t y j => (match P.underlying t with
        | some (.slice e) => szB P e sz && decide (0 < sz)
        | _ => false) && chkX x y && chkX i j
    | _ => false
  | .index len sz ag x i => match op with
    | .index t y j => (match P.underlying t with
        | some (.array n e) => n == len && szB P e sz && decide (0 < sz) && (if ag then aggB P e else oneB P e)
        | _ => false) && chkX x y && chkX i j
    | _ => false
  | .field off n x => match op with
    | .field t y f => (match P.underlying t with
        | some (.struct fs) => (match fs[f]? with
          | some fd => fd.offset == off && loadB P n fd.type
          | none => false)
        | _ => false) && chkX x y
    | _ => false
  | .len x => match op with
    | .call { callee := .builtin .len, args, argTypes } => args.size == 1 && chkXs [x] args.toList && (match argTypes[0]? with
        | some t => (match P.underlying t with
          | some (.slice _) => true
          | _ => false)
        | none => false)
    | _ => false
  | .lenK n => match op with
    | .call { callee := .builtin .len, args, argTypes } => args.size == 1 && (match argTypes[0]? with
        | some t => (match P.underlying t with
          | some (.array m _) => m == n
          | _ => false)
        | none => false)
    | _ => false
  | .minmax mx xs => match op with
    | .call { callee := .builtin b, args, .. } => (match b with
        | .max => mx
        | .min => !mx
        | _ => false) && chkXs xs args.toList
    | _ => false
  | .sliceS sz x lo hi => match op with
    | .slice t y lo' hi' none => (match P.underlying t with
        | some (.slice e) => szB P e sz
        | _ => false) && chkX x y && chkXO lo lo' && chkXO hi hi'
    | _ => false
  | .sliceA n sz _ x lo hi => match op with
    | .slice t y lo' hi' none => (match P.underlying t with
        | some (.array m e) => m == n && szB P e sz
        | _ => false) && chkX x y && chkXO lo lo' && chkXO hi hi'
    | _ => false
  | .append bytes sz _ _ x y => match op with
    | .call { callee := .builtin .append, args, argTypes } => chkXs [x, y] args.toList && argTypes.size == 2 && (match argTypes[0]?, argTypes[1]? with
        | some t, some u => isSliceB P u && (match P.underlying t with
          | some (.slice e) => (match P.info? e with
            | some i => i.size == sz && i.bytes == bytes && (match i.zero with
              | some z => z.cells.size == sz
              | none => false)
            | none => false)
          | _ => false)
        | _, _ => false)
    | _ => false
  | .call f args _ _ _ _ => match op with
    | .call { callee := .value g, args := as, .. } => chkX f g && chkXs args as.toList
    | _ => false
  | .extract x i => match op with
    | .extract y j => i == j && chkX x y
    | _ => false
  | .make _ bytes sz zs len cap => match op with
    | .makeSlice t l c => (match P.underlying t with
        | some (.slice e) => (match P.info? e with
          | some i => i.size == sz && i.bytes == bytes && zeroB P e zs && decide (0 < sz) && zs.all AV.tree
          | none => false)
        | _ => false) && chkX len l && chkX cap c
    | _ => false
  | .copy sz _ _ x y => match op with
    | .call { callee := .builtin .copy, args, argTypes } => chkXs [x, y] args.toList && (match argTypes[0]? with
        | some t => (match P.underlying t with
          | some (.slice e) => szB P e sz
          | _ => false)
        | none => false)
    | _ => false
  | .mapmk _ => match op with
    | .makeMap _ none => true
    | _ => false
  | .maplk _ ks ok x k => match op with
    | .lookup t y j ok' => ok == ok' && mapB P t ks && chkX x y && chkX k j
    | _ => false
  | .mapen _ ks x k => match op with
    | .mapEntry t y j => mapB P t ks && chkX x y && chkX k j
    | _ => false
  | .mapst _ x s v => match op with
    | .entryStore _ y j u => chkX x y && chkX s j && chkX v u
    | _ => false
  | .mapdl _ ks x k => match op with
    | .call { callee := .builtin .delete, args, argTypes } => chkXs [x, k] args.toList && (match argTypes[0]? with
        | some t => mapB P t ks
        | none => false)
    | _ => false
  | .rng _ x => match op with
    | .range t y => chkX x y && (match P.underlying t with
      | some (.map _ _) => true
      | _ => false)
    | _ => false
  | .nxt x => match op with
    | .next y s => !s && chkX x y
    | _ => false
  | .ent x => match op with
    | .entry y => chkX x y
    | _ => false
  | .mkfn f xs ys => match op with
    | .makeFunc (.func g) as bs => f == g && chkXs xs as.toList && chkXs ys bs.toList
    | _ => false

def chkGuard (ops : Array Oper) : Option (Nat × Bool) → Option (Nat × Bool) → Bool
  | none, none => true
  | some (d, w), some (j, w') => w == w' && ((ops[j]?).bind (·.dst)) == some d
  | _, _ => false
def chkOper (ops : Array Oper) (m : MOper) (o : Oper) : Bool := m.dst == o.dst && chkGuard ops m.guard o.guard && chkOp P m.op o.op
def chkOpers (ops : Array Oper) : List MOper → List Oper → Bool
  | [], [] => true
  | m :: ms, o :: os => chkOper P ops m o && chkOpers ops ms os
  | _, _ => false
end

def fpR : MOp → List Nat
  | .vnil t _ => [t]
  | .mapmk t => [t]
  | .maplk o _ _ _ _ => [o]
  | .mapen o _ _ _ => [o]
  | .mapst o _ _ _ => [o]
  | .mapdl o _ _ _ => [o]
  | .alloc t _ => [t]
  | .box t _ => [t]
  | .lit t fz _ _ _ _ => t.toList ++ fz
  | .frz fz _ => fz
  | .load _ o _ => o.toList
  | .store _ o fz _ _ => o :: fz
  | .b2s o _ => o.toList
  | .sliceA _ _ o _ _ _ => o.toList
  | .append _ _ t y _ _ => t :: y.toList
  | .call _ _ objs fzs ret _ => objs ++ fzs ++ ret.map (·.2)
  | .make t _ _ _ _ _ => [t]
  | .copy _ o y _ _ => o :: y.toList
  | _ => []
def fpW : MOp → List Nat
  | .vnil t _ => [t]
  | .mapmk t => [t]
  | .mapen o _ _ _ => [o]
  | .mapst o _ _ _ => [o]
  | .mapdl o _ _ _ => [o]
  | .alloc t _ => [t]
  | .box t _ => [t]
  | .lit t fz _ _ _ _ => t.toList ++ fz
  | .frz fz _ => fz
  | .store _ o fz _ _ => o :: fz
  | .append _ _ t _ _ _ => [t]
  | .call _ _ objs fzs ret frz => objs ++ (if frz then fzs else []) ++ ret.map (·.2)
  | .make t _ _ _ _ _ => [t]
  | .copy _ o _ _ _ => [o]
  | _ => []
def MX.slots : MX → List Nat
  | .s n => [n]
  | .c _ => []
def MOp.slots : MOp → List Nat
  | .mv x | .box _ x | .load _ _ x | .nilchk x | .un _ x | .conv _ x | .b2s _ x | .faddr _ x | .field _ _ x | .len x | .extract x _ | .frz _ x => x.slots
  | .vnil _ _ | .alloc _ _ | .lenK _ | .stop | .mapmk _ => []
  | .rng _ x | .nxt x | .ent x => x.slots
  | .maplk _ _ _ x k | .mapen _ _ x k | .mapdl _ _ x k => x.slots ++ k.slots
  | .mapst _ x s v => x.slots ++ s.slots ++ v.slots
  | .pick c a b => c.slots ++ a.slots ++ b.slots
  | .build _ ps | .lit _ _ _ _ _ ps => ps.flatMap fun p => p.2.2.slots
  | .store _ _ _ x y | .bin _ _ x y | .iaddrA _ _ x y | .iaddrS _ x y | .index _ _ _ x y | .append _ _ _ _ x y | .make _ _ _ _ x y | .copy _ _ _ x y => x.slots ++ y.slots
  | .minmax _ xs => xs.flatMap MX.slots
  | .sliceS _ x lo hi | .sliceA _ _ _ x lo hi => x.slots ++ (lo.toList ++ hi.toList).flatMap MX.slots
  | .call f xs _ _ _ _ => f.slots ++ xs.flatMap MX.slots
  | .mkfn _ xs ys => xs.flatMap MX.slots ++ ys.flatMap MX.slots
def MOper.looks (o : MOper) : List Nat := (match o.guard with
  | some (d, _) => [d]
  | none => []) ++ o.op.slots
def disj (a b : List Nat) : Bool := a.all fun x => !b.contains x
def lkEn : MOp → MOp → Bool
  | .maplk o ks false _ _, .mapen o' ks' _ _ => o == o' && ks == ks'
  | _, _ => false
def apart (a b : MOper) : Bool :=
  disj a.dst.toList (b.looks ++ b.dst.toList) && disj b.dst.toList a.looks && disj (fpW a.op) (fpR b.op) && (disj (fpW b.op) (fpR a.op) || lkEn a.op b.op)
def depOn (ops : Array Oper) (i j : Nat) : Bool := (((Region.before ops).getD j 0).testBit i)
def lexFrom (ops : Array Oper) (ms : List MOper) : Nat → List MOper → Bool
  | _, [] => true
  | k, m :: r => ((List.range ms.length).all fun j => decide (j ≤ k) || depOn ops k j || (match ms[j]? with
      | some n => apart m n
      | none => true)) && lexFrom ops ms (k + 1) r

def afterB (ops : Array Oper) : Bool := (List.range ops.size).all fun k => match ops[k]? with
  | some o => o.after.all fun e => !Region.binds .any e || decide (e.on < k)
  | none => true

section
variable (P : Program)
def chkCode : MCode → Code → Bool
  | .skip, .skip => true
  | .region d ms, .region _ ops draw => d == draw && ms.length == ops.size && chkOpers P ops ms ops.toList && (!d || (P.follows .mixedOrders && afterB ops && lexFrom ops ms 0 ms))
  | .seq a b, .seq c d => chkCode a c && chkCode b d
  | .cond x a b, .cond y c d => chkX x y && chkCode a c && chkCode b d
  | .block i a, .block j c => i == j && chkCode a c
  | .loop _ _ a, .loop c => chkCode a c
  | .exit i, .exit j => i == j
  | .ret, .ret => true
  | _, _ => false
def chkRes : List MRes → List ResultVar → Bool
  | [], [] => true
  | .slot n :: r, .tmp t :: s => n == t && chkRes r s
  | .cell n _ k :: r, .cell t ty :: s => n == t && loadB P k ty && chkRes r s
  | _, _ => false
def chkFun (m : MFun) (fn : Func) : Bool :=
  (fn.name != "runtime.NumGoroutine") && m.nt == fn.ntmps && decide (m.np ≤ m.nt) && chkRes P m.res fn.results.toList && (match fn.body with
    | some c => chkCode P m.body c
    | none => false)
end

end Go.Ev
end
section
namespace Go.Ev

variable {P : Program} {E : Env}

mutual
theorem constB_rel : ∀ (a : AV) (v : Value), constB a v = true → VRel E a v
  | .bool b, v, h => by
    cases v <;> simp only [constB, Bool.false_eq_true] at h
    simp only [VRel]; rw [beq_iff_eq.1 h]
  | .int k n, v, h => by
    cases v <;> simp only [constB, Bool.false_eq_true, Bool.and_eq_true] at h
    simp only [VRel]; rw [beq_iff_eq.1 h.1, beq_iff_eq.1 h.2]
  | .str l, v, h => by
    cases v <;> simp only [constB, Bool.false_eq_true] at h
    simp only [VRel]; exact ⟨_, rfl, (beq_iff_eq.1 h).symm⟩
  | .nilptr, v, h => by
    cases v <;> simp only [constB, Bool.false_eq_true] at h
    simp only [VRel]; rw [Option.isNone_iff_eq_none.1 h]
  | .nilsl, v, h => by
    cases v <;> simp only [constB, Bool.false_eq_true, Bool.and_eq_true] at h
    simp only [VRel]; rw [Option.isNone_iff_eq_none.1 h.1.1, beq_iff_eq.1 h.1.2, beq_iff_eq.1 h.2]
  | .nilfn, v, h => by
    cases v <;> simp only [constB, Bool.false_eq_true] at h
    simp only [VRel]
  | .nilmp, v, h => by
    cases v <;> simp only [constB, Bool.false_eq_true] at h
    simp only [VRel]; rw [Option.isNone_iff_eq_none.1 h]
  | .mp _ _, v, h => by simp only [constB, Bool.false_eq_true] at h
  | .agg cs, v, h => by
    cases v <;> simp only [constB, Bool.false_eq_true] at h
    simp only [VRel]
    exact ⟨_, rfl, constL_rel cs _ h⟩
  | .fn f xs ys, v, h => by
    cases v <;> simp only [constB, Bool.false_eq_true, Bool.and_eq_true, List.isEmpty_iff, Array.isEmpty_iff, beq_iff_eq] at h
    obtain ⟨⟨⟨⟨rfl, rfl⟩, rfl⟩, rfl⟩, rfl⟩ := h
    simp only [VRel, LRel]
    exact ⟨#[], #[], rfl, rfl, rfl⟩
  | .undef, v, h => by simp only [constB, Bool.false_eq_true] at h
  | .ro _ _, v, h => by simp only [constB, Bool.false_eq_true] at h
  | .rptr _, v, h => by simp only [constB, Bool.false_eq_true] at h
  | .emp _, v, h => by simp only [constB, Bool.false_eq_true] at h
  | .own _ _ _ _ _, v, h => by simp only [constB, Bool.false_eq_true] at h
  | .ptr _ _ _, v, h => by simp only [constB, Bool.false_eq_true] at h
  | .tup _, v, h => by simp only [constB, Bool.false_eq_true] at h
theorem constL_rel : ∀ (cs : List AV) (vs : List Value), constL cs vs = true → LRel E cs vs
  | [], vs, h => by simp only [constL, List.isEmpty_iff] at h; simp only [LRel]; exact h
  | c :: cs, vs, h => by
    cases vs with
    | nil => simp only [constL, Bool.false_eq_true] at h
    | cons v vs =>
      simp only [constL, Bool.and_eq_true] at h
      exact ⟨v, vs, rfl, constB_rel c v h.1, constL_rel cs vs h.2⟩
end

def ARel (E : Env) (sl : List AV) (a : Act) : Prop := LRel E sl a.tmps.toList

theorem ev_rel {sl : List AV} {a : Act} (hs : ARel E sl a) {x : MX} {y : Operand} (h : chkX x y = true) : VRel E (ev sl x) (a.eval y) := by
  cases x with
  | s n =>
    cases y <;> simp [chkX] at h
    subst h
    simp only [ev, List.getD_eq_getElem?_getD]
    cases hg : sl[n]? with
    | none => trivial
    | some c =>
      obtain ⟨v, hv, hr⟩ := LRel.get hs n c hg
      simp only [Option.getD_some, Act.eval]
      have : a.tmps[n]? = some v := by simpa using hv
      simpa [this] using hr
  | c b =>
    cases y with
    | tmp t => cases b <;> simp [chkX] at h
    | const v =>
      have h' : constB b v = true := by
        cases b <;> first | exact h | (simpa [chkX] using h)
      exact constB_rel b v h'
    | global g => cases b <;> simp [chkX] at h
    | func g =>
      cases b <;> simp [chkX] at h
      rename_i f xs ys
      cases xs <;> cases ys <;> simp [chkX] at h
      subst h
      exact ⟨#[], #[], rfl, rfl, rfl⟩

theorem evs_rel {sl : List AV} {a : Act} (hs : ARel E sl a) : ∀ {xs : List MX} {ys : List Operand}, chkXs xs ys = true → LRel E (xs.map (ev sl)) (ys.map a.eval)
  | [], [], _ => rfl
  | [], _ :: _, h => by simp [chkXs] at h
  | _ :: _, [], h => by simp [chkXs] at h
  | x :: xs, y :: ys, h => by
    simp only [chkXs, Bool.and_eq_true] at h
    exact ⟨_, _, rfl, ev_rel hs h.1, evs_rel hs h.2⟩

def OpOk (P : Program) (E : Env) (o : Oper) (ρ : Operand → Value) (x : AV) (ups : List (Nat × AObj)) : Prop :=
  ∃ v w', ((execOp ρ o).run P E.w = .ok (.value v) w' ∨ ((execOp ρ o).run P E.w = .ok .skip w' ∧ v = undef)) ∧ Out E x ups v w'
theorem OpOk.pure {o : Oper} {ρ : Operand → Value} {x : AV} {v : Value} (hw : WRel E) (h : (execOp ρ o).run P E.w = .ok (.value v) E.w) (hv : VRel E x v) : OpOk P E o ρ x [] :=
  ⟨v, E.w, .inl h, Out.same hw hv⟩

section
variable {o : Oper} {ρ : Operand → Value}

theorem ok_mv (hw : WRel E) {x : AV} {y : Operand} (ho : o.op = .move y ∨ o.op = .assign y) (hx : VRel E x (ρ y)) : OpOk P E o ρ x [] := by
  refine .pure hw (v := ρ y) ?_ hx
  rcases ho with ho | ho <;> simp [execOp, ho]

theorem ok_pick (hw : WRel E) {c a b : AV} {c' a' b' : Operand} (ho : o.op = .pick c' a' b') (hc : VRel E c (ρ c')) (ha : VRel E a (ρ a')) (hb : VRel E b (ρ b'))
    {t : Bool} (ht : c = .bool t) : OpOk P E o ρ (if t then a else b) [] := by
  subst ht
  simp only [VRel] at hc
  refine .pure hw (v := if t then ρ a' else ρ b') ?_ (by cases t <;> simp_all)
  simp only [execOp, ho, hc, asBool]
  cases t <;> simp

theorem binInt_run (op : BinOp) (t : TypeId) (k k' : IntKind) (x y : Int) (w : World) (r : AV) (h : binInt op k x k' y = some r) :
    ∃ v, (binOp op t (.int k x) (.int k' y)).run P w = .ok v w ∧ VRel E r v := by
  by_cases hk : k = k'
  · subst hk
    cases op <;> simp only [binInt, ne_eq, not_true_eq_false, if_false, Option.some.injEq] at h
    all_goals try (subst h; exact ⟨_, by simp [binOp, Op.intArith, Op.intCmp, Op.intBits], rfl⟩)
    case quo =>
      split at h
      · cases h
      · cases h; rename_i h0; exact ⟨_, by simp [binOp, Op.intDiv, h0], rfl⟩
    case rem =>
      split at h
      · cases h
      · cases h; rename_i h0; exact ⟨_, by simp [binOp, Op.intDiv, h0], rfl⟩
    case shl =>
      split at h
      · cases h
      · cases h; rename_i h0; exact ⟨_, by simp [binOp, Op.shift, h0], rfl⟩
    case shr =>
      split at h
      · cases h
      · cases h; rename_i h0; exact ⟨_, by simp [binOp, Op.shift, h0], rfl⟩
  · cases op <;> simp only [binInt, ne_eq, hk, not_false_eq_true, if_true] at h
    all_goals try (cases h; done)
    case shl =>
      split at h
      · cases h
      · cases h; rename_i h0; exact ⟨_, by simp [binOp, Op.shift, h0], rfl⟩
    case shr =>
      split at h
      · cases h
      · cases h; rename_i h0; exact ⟨_, by simp [binOp, Op.shift, h0], rfl⟩

theorem eqGuard_plain (op : BinOp) (t : TypeId) (x y : Operand) (a b : Value) (w : World) (h : (∀ c, a ≠ .agg c) ∧ a ≠ .nilIface) : (eqGuard op t x y a b).run P w = .ok () w := by
  cases op <;> (simp only [eqGuard, Bool.not_true, Bool.not_false, Bool.false_eq_true, if_true, if_false]; try rfl)
  all_goals
    split
    · simp at h
    · simp at h
    · rfl

end
end Go.Ev
end
section
namespace Go.Ev
variable {P : Program}

def eqVals : List (Option IntKind) → List Value → List Value → Option Bool
  | [], [], [] => some true
  | some k :: ks, .int k1 a :: xs, .int k2 b :: ys => if k1 = k ∧ k2 = k then (eqVals ks xs ys).map ((a == b) && ·) else none
  | none :: ks, .bool a :: xs, .bool b :: ys => (eqVals ks xs ys).map ((a == b) && ·)
  | _, _, _ => none

theorem eqVals_of {E : Env} : ∀ {ks : List (Option IntKind)} {a b : List AV} {xs ys : List Value} {r : Bool}, LRel E a xs → LRel E b ys → eqCells ks a b = some r → eqVals ks xs ys = some r
  | [], [], [], xs, ys, r, h1, h2, h => by
    simp only [LRel] at h1 h2; subst h1; subst h2
    simpa [eqCells, eqVals] using h
  | [], [], _ :: _, _, _, _, _, _, h => by simp [eqCells] at h
  | [], _ :: _, _, _, _, _, _, _, h => by simp [eqCells] at h
  | k :: ks, [], _, _, _, _, _, _, h => by cases k <;> simp [eqCells] at h
  | k :: ks, x :: a, [], _, _, _, _, _, h => by cases k <;> cases x <;> simp [eqCells] at h
  | k :: ks, x :: a, y :: b, xs, ys, r, h1, h2, h => by
    simp only [LRel] at h1 h2
    obtain ⟨u, us, rfl, hu, h1⟩ := h1
    obtain ⟨v, vs, rfl, hv, h2⟩ := h2
    cases k with
    | none =>
      cases x <;> cases y <;> simp only [eqCells, reduceCtorEq] at h
      simp only [VRel] at hu hv
      subst hu; subst hv
      obtain ⟨r', h3, rfl⟩ := Option.map_eq_some_iff.1 h
      simp only [eqVals, eqVals_of h1 h2 h3, Option.map_some]
    | some k =>
      cases x <;> cases y <;> simp only [eqCells, reduceCtorEq] at h
      simp only [VRel] at hu hv
      subst hu; subst hv
      split at h
      · rename_i hk
        obtain ⟨r', h3, rfl⟩ := Option.map_eq_some_iff.1 h
        simp only [eqVals, hk, and_self, if_true, eqVals_of h1 h2 h3, Option.map_some]
      · cases h

theorem eqVals_cons {k : Option IntKind} {ks : List (Option IntKind)} {xs ys : List Value} {r : Bool} (h : eqVals (k :: ks) xs ys = some r) :
    ∃ x y us vs r1 r2, xs = x :: us ∧ ys = y :: vs ∧ eqVals [k] [x] [y] = some r1 ∧ eqVals ks us vs = some r2 ∧ r = (r1 && r2) := by
  cases xs with
  | nil => cases k <;> simp [eqVals] at h
  | cons x us =>
    cases ys with
    | nil => cases k <;> cases x <;> simp [eqVals] at h
    | cons y vs =>
      cases k with
      | none =>
        cases x <;> cases y <;> simp only [eqVals, reduceCtorEq] at h
        rename_i a b
        obtain ⟨r', h3, rfl⟩ := Option.map_eq_some_iff.1 h
        exact ⟨_, _, _, _, a == b, r', rfl, rfl, by simp [eqVals], h3, rfl⟩
      | some k =>
        cases x <;> cases y <;> simp only [eqVals, reduceCtorEq] at h
        rename_i k1 a k2 b
        split at h
        · rename_i hk
          obtain ⟨r', h3, rfl⟩ := Option.map_eq_some_iff.1 h
          exact ⟨_, _, _, _, a == b, r', rfl, rfl, by simp [eqVals, hk], h3, rfl⟩
        · cases h

theorem eqVals_len : ∀ {ks : List (Option IntKind)} {xs ys : List Value} {r : Bool}, eqVals ks xs ys = some r → xs.length = ks.length ∧ ys.length = ks.length
  | [], [], [], _, _ => ⟨rfl, rfl⟩
  | [], [], _ :: _, _, h => by simp [eqVals] at h
  | [], _ :: _, _, _, h => by simp [eqVals] at h
  | k :: ks, xs, ys, r, h => by
    obtain ⟨x, y, us, vs, r1, r2, rfl, rfl, _, h2, _⟩ := eqVals_cons h
    have := eqVals_len h2
    simp [this.1, this.2]

theorem eqVals_join {k : Option IntKind} {ks : List (Option IntKind)} {x y : Value} {xs ys : List Value} {r1 r2 : Bool} (h1 : eqVals [k] [x] [y] = some r1) (h2 : eqVals ks xs ys = some r2) :
    eqVals (k :: ks) (x :: xs) (y :: ys) = some (r1 && r2) := by
  cases k with
  | none =>
    cases x <;> cases y <;> simp only [eqVals, reduceCtorEq] at h1
    simp only [Option.map_some, Bool.and_true, Option.some.injEq] at h1; subst h1; simp [eqVals, h2]
  | some k =>
    cases x <;> cases y <;> simp only [eqVals, reduceCtorEq] at h1
    split at h1
    · rename_i hk
      simp only [Option.map_some, Bool.and_true, Option.some.injEq] at h1; subst h1; simp [eqVals, hk, h2]
    · cases h1

theorem eqVals_split : ∀ (ks ls : List (Option IntKind)) {xs ys : List Value} {r : Bool}, eqVals (ks ++ ls) xs ys = some r →
    ∃ r1 r2, eqVals ks (xs.take ks.length) (ys.take ks.length) = some r1 ∧ eqVals ls (xs.drop ks.length) (ys.drop ks.length) = some r2 ∧ r = (r1 && r2)
  | [], ls, xs, ys, r, h => ⟨true, r, by simp [eqVals], by simpa using h, by simp⟩
  | k :: ks, ls, xs, ys, r, h => by
    rw [List.cons_append] at h
    obtain ⟨x, y, us, vs, r1, r2, rfl, rfl, h1, h2, rfl⟩ := eqVals_cons h
    obtain ⟨r3, r4, h3, h4, rfl⟩ := eqVals_split ks ls h2
    exact ⟨r1 && r3, r4, by simpa using eqVals_join h1 h3, by simpa using h4, by simp [Bool.and_assoc]⟩

def mkv (P : Program) (t : TypeId) (l : List Value) : Value := if aggB P t then .agg l.toArray else l.getD 0 undef

theorem run_isAgg {t : TypeId} (w : World) (h : (P.underlying t).isSome = true) : (isAgg t).run P w = .ok (aggB P t) w := by
  obtain ⟨d, hd⟩ := Option.isSome_iff_exists.1 h
  unfold isAgg aggB
  simp only [Sem.run_bind, run_underlying hd, Result.andThen_ok, hd]
  cases d <;> rfl

theorem run_part {t : TypeId} {cs : Array Value} {off n : Nat} (w : World) (hu : (P.underlying t).isSome = true) (hz : szB P t n = true) (hn : 0 < n) (h1 : aggB P t = false → n = 1) (hle : off + n ≤ cs.size) :
    (part t cs off).run P w = .ok (mkv P t ((cs.toList.drop off).take n)) w := by
  have hs : (sizeOf t).run P w = .ok n w := by
    unfold szB at hz
    split at hz
    · rename_i i hi
      have : i.size = n := by simpa using hz
      simp [sizeOf, typeInfo, hi, this]
    · cases hz
  unfold part mkv
  simp only [Sem.run_bind, run_isAgg w hu, Result.andThen_ok]
  cases hb : aggB P t with
  | true =>
    simp only [if_true, Sem.run_bind, hs, Result.andThen_ok, Sem.run_pure]
    congr 2
    apply Array.ext'
    simp [Array.toList_extract, List.extract_eq_take_drop]
    
  | false =>
    have := h1 hb
    subst this
    have hlt : off < cs.size := by omega
    simp only [Bool.false_eq_true, if_false]
    rw [Array.getElem?_eq_getElem hlt]
    simp [List.getD_eq_getElem?_getD, hlt]


theorem szB_cellsOf {t : TypeId} {n : Nat} (h : szB P t n = true) : P.cellsOf t = n := by
  unfold szB at h
  split at h
  · rename_i i hi
    have : i.size = n := by simpa using h
    simp [Program.cellsOf, hi, this]
  · cases h
theorem szB_info {t : TypeId} {n : Nat} (h : szB P t n = true) : ∃ i, P.info? t = some i ∧ i.size = n := by
  unfold szB at h
  split at h
  · rename_i i hi
    exact ⟨i, hi, by simpa using h⟩
  · cases h

def EqRun (P : Program) (m : Nat) (t : TypeId) (ks : List (Option IntKind)) : Prop :=
  (P.underlying t).isSome = true ∧ (aggB P t = false → ks.length = 1) ∧
  ∀ (w : World) (xs ys : List Value) (r : Bool), eqVals ks xs ys = some r → (Op.equalIn m t (mkv P t xs) (mkv P t ys)).run P w = .ok r w

theorem eqItems_run {m : Nat} {e : TypeId} {ks : List (Option IntKind)} (IH : EqRun P m e ks) (hz : szB P e ks.length = true) (h0 : 0 < ks.length) (w : World) (xs ys : Array Value) :
    ∀ (n s : Nat) (r : Bool), eqVals (List.replicate n ks).flatten (xs.toList.drop (s * ks.length)) (ys.toList.drop (s * ks.length)) = some r →
      (Op.eqItems m e ks.length xs ys (List.range' s n)).run P w = .ok r w
  | 0, s, r, h => by
    have : r = true := by
      simp only [List.replicate_zero, List.flatten_nil] at h
      generalize xs.toList.drop (s * ks.length) = a at h
      generalize ys.toList.drop (s * ks.length) = b at h
      cases a <;> cases b <;> simp [eqVals] at h
      exact h
    subst this
    simp [Op.eqItems]
  | n + 1, s, r, h => by
    rw [List.replicate_succ, List.flatten_cons] at h
    have hl := eqVals_len h
    obtain ⟨r1, r2, h1, h2, rfl⟩ := eqVals_split _ _ h
    rw [List.drop_drop, List.drop_drop, show s * ks.length + ks.length = (s + 1) * ks.length by rw [Nat.add_mul, Nat.one_mul]] at h2
    simp only [List.length_drop, List.length_append, Array.length_toList] at hl
    have px := run_part (cs := xs) (off := s * ks.length) w IH.1 hz h0 IH.2.1 (by omega)
    have py := run_part (cs := ys) (off := s * ks.length) w IH.1 hz h0 IH.2.1 (by omega)
    rw [List.range'_succ]
    simp only [Op.eqItems, Sem.run_bind, px, py, Result.andThen_ok, IH.2.2 w _ _ r1 h1]
    cases r1
    · simp
    · simpa using eqItems_run IH hz h0 w xs ys n (s + 1) r2 h2

theorem eqFields_run {m d : Nat} (IH : ∀ t ks, kindsOf P d t = some ks → EqRun P m t ks) (w : World) (xs ys : Array Value) :
    ∀ (fs : List Field) (off : Nat) (ks : List (Option IntKind)) (r : Bool), fieldKinds P (kindsOf P d) off fs = some ks → eqVals ks (xs.toList.drop off) (ys.toList.drop off) = some r →
      (Op.eqFields m xs ys fs).run P w = .ok r w
  | [], off, ks, r, hk, h => by
    simp only [fieldKinds, Option.some.injEq] at hk
    subst hk
    have : r = true := by
      generalize xs.toList.drop off = a at h
      generalize ys.toList.drop off = b at h
      cases a <;> cases b <;> simp [eqVals] at h
      exact h
    subst this
    simp [Op.eqFields]
  | f :: fs, off, ks, r, hk, h => by
    unfold fieldKinds at hk
    split at hk
    · rename_i hn
      simp only [Bool.and_eq_true, bne_iff_ne, ne_eq, beq_iff_eq] at hn
      split at hk
      · rename_i ks1 hk1
        split at hk
        · rename_i hz
          simp only [Bool.and_eq_true, decide_eq_true_eq] at hz
          obtain ⟨ks2, hk2, rfl⟩ := Option.map_eq_some_iff.1 hk
          have hl := eqVals_len h
          obtain ⟨r1, r2, h1, h2, rfl⟩ := eqVals_split _ _ h
          rw [List.drop_drop, List.drop_drop] at h2
          simp only [List.length_drop, List.length_append, Array.length_toList] at hl
          have I := IH _ _ hk1
          have px := run_part (cs := xs) (off := off) w I.1 hz.1 hz.2 I.2.1 (by omega)
          have py := run_part (cs := ys) (off := off) w I.1 hz.1 hz.2 I.2.1 (by omega)
          simp only [Op.eqFields, ne_eq, hn.1, not_false_eq_true, if_true, hn.2, Sem.run_bind, px, py, Result.andThen_ok, I.2.2 w _ _ r1 h1]
          cases r1
          · simp
          · simpa using eqFields_run IH w xs ys fs (off + ks1.length) ks2 r2 hk2 h2
        · cases hk
      · cases hk
    · cases hk

theorem eq_run (m : Nat) : ∀ (d : Nat) (t : TypeId) (ks : List (Option IntKind)), kindsOf P d t = some ks → EqRun P (m + d) t ks
  | 0, _, _, h => by simp [kindsOf] at h
  | d + 1, t, ks, h => by
    unfold kindsOf at h
    cases hu : P.underlying t with
    | none => simp [hu] at h
    | some kd =>
      rw [hu] at h
      cases kd <;> simp only [reduceCtorEq] at h
      case bool =>
        split at h
        · cases h
          have ha : aggB P t = false := by simp [aggB, hu]
          refine ⟨by simp [hu], fun _ => rfl, fun w xs ys r hr => ?_⟩
          obtain ⟨x, y, us, vs, r1, r2, rfl, rfl, h1, h2, rfl⟩ := eqVals_cons hr
          have := eqVals_len h2
          cases us <;> cases vs <;> simp at this
          cases x <;> cases y <;> simp [eqVals] at h1
          simp only [eqVals, Option.some.injEq] at h2
          subst h1; subst h2
          rw [show m + (d + 1) = (m + d) + 1 from rfl]
          simpa [mkv, ha] using run_equalIn_bool' w (m + d) t _ _ hu
        · cases h
      case int k =>
        split at h
        · cases h
          have ha : aggB P t = false := by simp [aggB, hu]
          refine ⟨by simp [hu], fun _ => rfl, fun w xs ys r hr => ?_⟩
          obtain ⟨x, y, us, vs, r1, r2, rfl, rfl, h1, h2, rfl⟩ := eqVals_cons hr
          have := eqVals_len h2
          cases us <;> cases vs <;> simp at this
          cases x <;> cases y <;> simp [eqVals] at h1
          simp only [eqVals, Option.some.injEq] at h2
          obtain ⟨⟨rfl, rfl⟩, h1⟩ := h1
          subst h1; subst h2
          rw [show m + (d + 1) = (m + d) + 1 from rfl]
          simpa [mkv, ha] using run_equalIn_int w (m + d) t _ _ _ _ hu
        · cases h
      case array n e =>
        split at h
        · rename_i ks1 hk1
          split at h
          · rename_i hz
            simp only [Bool.and_eq_true, decide_eq_true_eq] at hz
            cases h
            have ha : aggB P t = true := by simp [aggB, hu]
            refine ⟨by simp [hu], (fun q => by rw [ha] at q; cases q), fun w xs ys r hr => ?_⟩
            have IH := eq_run m d e ks1 hk1
            obtain ⟨i, hi, _⟩ := szB_info hz.1.1
            have := eqItems_run IH hz.1.1 hz.1.2 w xs.toArray ys.toArray n 0 r (by simpa using hr)
            simp only [mkv, ha, if_true]
            rw [show m + (d + 1) = (m + d) + 1 from rfl, run_equalIn_array w (m + d) _ _ hu hi, szB_cellsOf hz.1.1, List.range_eq_range']
            exact this
          · cases h
        · cases h
      case struct fs =>
        split at h
        · cases h
        · rename_i hst
          split at h
          · rename_i ks1 hk1
            split at h
            · cases h
              have ha : aggB P t = true := by simp [aggB, hu]
              refine ⟨by simp [hu], (fun q => by rw [ha] at q; cases q), fun w xs ys r hr => ?_⟩
              have hfs : P.fieldsOf t = fs := by simp [Program.fieldsOf, hu]
              have := eqFields_run (fun t ks hk => eq_run m d t ks hk) w xs.toArray ys.toArray fs.toList 0 _ r hk1 (by simpa using hr)
              simp only [mkv, ha, if_true]
              rw [show m + (d + 1) = (m + d) + 1 from rfl, run_equalIn_agg w (m + d) t _ _ (by rw [hfs]; exact hu) (by simpa using hst), hfs]
              exact this
            · cases h
          · cases h

end Go.Ev
end
section
namespace Go.Ev
variable {P : Program} {E : Env} {o : Oper} {ρ : Operand → Value}

theorem execOp_bin {op : BinOp} {t : TypeId} {x y : Operand} {yt : TypeId} (ho : o.op = .binOp op t x y yt) {r : Value} {w : World} (hg : (eqGuard op t x y (ρ x) (ρ y)).run P w = .ok () w)
    (hb : (binOp op t (ρ x) (ρ y)).run P w = .ok r w) : (execOp ρ o).run P w = .ok (.value r) w := by
  simp only [execOp, ho, Sem.run_bind, hg, hb, Result.andThen_ok, Sem.run_pure]

theorem isNilS_rel {x : AV} {b : Bool} {v : Value} (h : isNilS x = some b) (hv : VRel E x v) : ∃ a n c, v = .slice a n c ∧ a.isNone = b := by
  cases x <;> simp only [isNilS, reduceCtorEq, Option.some.injEq] at h
  case nilsl => simp only [VRel] at hv; exact ⟨_, _, _, hv, by simpa using h⟩
  case emp nl =>
    simp only [VRel] at hv
    obtain ⟨a, cap, rfl, hn⟩ := hv
    exact ⟨_, _, _, rfl, hn.trans h⟩
  case ro n cs =>
    split at h
    · cases h
    · cases h
      simp only [VRel] at hv
      obtain ⟨a, cap, rfl, _, h3, _⟩ := hv
      have := h3 (by omega)
      exact ⟨_, _, _, rfl, by cases a <;> simp_all⟩
  case own i ver off len sz =>
    split at h
    · cases h
    · cases h
      simp only [VRel] at hv
      obtain ⟨a, cap, rfl, _, h3, _⟩ := hv
      have := h3 (by omega)
      exact ⟨_, _, _, rfl, by cases a <;> simp_all⟩
theorem isNilP_rel {x : AV} {b : Bool} {v : Value} (h : isNilP x = some b) (hv : VRel E x v) : ∃ a, v = .pointer a ∧ a.isNone = b := by
  cases x <;> simp only [isNilP, reduceCtorEq, Option.some.injEq] at h
  case nilptr => simp only [VRel] at hv; exact ⟨_, hv, by simpa using h⟩
  case ptr i ver off =>
    cases h
    simp only [VRel] at hv
    obtain ⟨a, rfl, _⟩ := hv
    exact ⟨_, rfl, rfl⟩
  case rptr cs =>
    cases h
    simp only [VRel] at hv
    obtain ⟨a, rfl, _⟩ := hv
    exact ⟨_, rfl, rfl⟩

theorem run_equalIn_nilsl {t e : TypeId} (hu : P.underlying t = some (.slice e)) (a : Option Addr) (n c d : Nat) (w : World) : (Op.equalIn (d + 1) t (.slice a n c) (.slice none 0 0)).run P w = .ok a.isNone w := by
  cases a <;> simp [Op.equalIn, run_underlying hu]
theorem run_equalIn_nilptr {t e : TypeId} (hu : P.underlying t = some (.pointer e)) (a : Option Addr) (d : Nat) (w : World) : (Op.equalIn (d + 1) t (.pointer a) (.pointer none)).run P w = .ok a.isNone w := by
  cases a <;> simp [Op.equalIn, run_underlying hu]

theorem notAggI {k : IntKind} {n : Int} : (∀ c, Value.int k n ≠ .agg c) ∧ Value.int k n ≠ .nilIface := ⟨nofun, nofun⟩
theorem notAggB {b : Bool} : (∀ c, Value.bool b ≠ .agg c) ∧ Value.bool b ≠ .nilIface := ⟨nofun, nofun⟩
theorem notAggS {b : ByteArray} : (∀ c, Value.string b ≠ .agg c) ∧ Value.string b ≠ .nilIface := ⟨nofun, nofun⟩
theorem notAggL {a : Option Addr} {n c : Nat} : (∀ x, Value.slice a n c ≠ .agg x) ∧ Value.slice a n c ≠ .nilIface := ⟨nofun, nofun⟩
theorem notAggP {a : Option Addr} : (∀ x, Value.pointer a ≠ .agg x) ∧ Value.pointer a ≠ .nilIface := ⟨nofun, nofun⟩

theorem eqlV (t : TypeId) (a b : Value) (w : World) (h : ∀ k n, a ≠ .int k n) (r : Bool) (hr : (Op.equalIn 10000 t a b).run P w = .ok r w)
    (hs : ∀ s, a ≠ .string s) (hf : ∀ k n, a ≠ .float k n) (hc : ∀ k n m, a ≠ .complex k n m) :
    (binOp .eql t a b).run P w = .ok (.bool r) w ∧ (binOp .neq t a b).run P w = .ok (.bool (!r)) w := by
  have e : (Op.equal t a b).run P w = .ok r w := hr
  cases a <;> first
    | exact absurd rfl (h _ _)
    | exact absurd rfl (hs _)
    | exact absurd rfl (hf _ _)
    | exact absurd rfl (hc _ _ _)
    | (constructor <;> simp only [binOp, Sem.run_bind, e, Result.andThen_ok, Sem.run_pure])

theorem tc_bool {t : TypeId} (h : tcB P .bool t = true) : P.underlying t = some .bool := by
  simp only [tcB] at h
  split at h
  · assumption
  · cases h
theorem tc_sl {t : TypeId} (h : tcB P .sl t = true) : ∃ e, P.underlying t = some (.slice e) := by
  simp only [tcB] at h
  split at h
  · exact ⟨_, by assumption⟩
  · cases h
theorem tc_ptr {t : TypeId} (h : tcB P .ptr t = true) : ∃ e, P.underlying t = some (.pointer e) := by
  simp only [tcB] at h
  split at h
  · exact ⟨_, by assumption⟩
  · cases h

theorem ok_bin (hw : WRel E) {op : BinOp} {tc : TC} {t yt : TypeId} {x y : AV} {x' y' : Operand} (ho : o.op = .binOp op t x' y' yt) (ht : tcB P tc t = true)
    (hx : VRel E x (ρ x')) (hy : VRel E y (ρ y')) {r : AV} (h : binV op tc x y = some r) : OpOk P E o ρ r [] := by
  cases tc with
  | int =>
    cases x <;> cases y <;> simp only [binV, reduceCtorEq] at h
    simp only [VRel] at hx hy
    obtain ⟨v, hv, hr⟩ := binInt_run (P := P) (E := E) op t _ _ _ _ E.w r h
    exact .pure hw (execOp_bin ho (eqGuard_plain _ _ _ _ _ _ _ (by rw [hx]; exact notAggI)) (by rw [hx, hy]; exact hv)) hr
  | bool =>
    have hu := tc_bool ht
    simp only [binV] at h
    split at h <;> simp only [reduceCtorEq, Option.some.injEq] at h
    all_goals
      simp only [VRel] at hx hy
      subst h
      rename_i b1 b2
      have := eqlV (P := P) t (.bool b1) (.bool b2) E.w nofun _ (run_equalIn_bool' E.w 9999 t b1 b2 hu) nofun nofun nofun
      exact .pure hw (execOp_bin (r := .bool _) ho (eqGuard_plain _ _ _ _ _ _ _ (by rw [hx]; exact notAggB)) (by rw [hx, hy]; first | exact this.1 | exact this.2)) rfl
  | str =>
    simp only [binV] at h
    split at h <;> simp only [reduceCtorEq, Option.some.injEq] at h
    all_goals
      simp only [VRel] at hx hy
      obtain ⟨s1, hx, e1⟩ := hx
      obtain ⟨s2, hy, e2⟩ := hy
      subst h; subst e1; subst e2
      exact .pure hw (execOp_bin (r := .bool _) ho (eqGuard_plain _ _ _ _ _ _ _ (by rw [hx]; exact notAggS)) (by rw [hx, hy]; simp [binOp, Op.stringOp, ByteArray.toList_eq])) rfl
  | sl =>
    obtain ⟨e, hu⟩ := tc_sl ht
    simp only [binV] at h
    split at h <;> try (cases h; done)
    all_goals
      obtain ⟨b, hb, rfl⟩ := Option.map_eq_some_iff.1 h
      simp only [VRel] at hy
      obtain ⟨a, n, c, e1, rfl⟩ := isNilS_rel hb hx
      have := eqlV (P := P) t (.slice a n c) (.slice none 0 0) E.w nofun _ (run_equalIn_nilsl hu a n c 9999 E.w) nofun nofun nofun
      exact .pure hw (execOp_bin (r := .bool _) ho (eqGuard_plain _ _ _ _ _ _ _ (by rw [e1]; exact notAggL)) (by rw [e1, hy]; first | exact this.1 | exact this.2)) rfl
  | ptr =>
    obtain ⟨e, hu⟩ := tc_ptr ht
    simp only [binV] at h
    split at h <;> try (cases h; done)
    all_goals
      obtain ⟨b, hb, rfl⟩ := Option.map_eq_some_iff.1 h
      simp only [VRel] at hy
      obtain ⟨a, e1, rfl⟩ := isNilP_rel hb hx
      have := eqlV (P := P) t (.pointer a) (.pointer none) E.w nofun _ (run_equalIn_nilptr hu a 9999 E.w) nofun nofun nofun
      exact .pure hw (execOp_bin (r := .bool _) ho (eqGuard_plain _ _ _ _ _ _ _ (by rw [e1]; exact notAggP)) (by rw [e1, hy]; first | exact this.1 | exact this.2)) rfl
  | agg ks =>
    simp only [tcB, Bool.and_eq_true, beq_iff_eq, Bool.not_eq_true'] at ht
    obtain ⟨⟨ha, hk⟩, hg⟩ := ht
    simp only [binV] at h
    split at h <;> try (cases h; done)
    all_goals
      obtain ⟨b, hb, rfl⟩ := Option.map_eq_some_iff.1 h
      simp only [VRel] at hx hy
      obtain ⟨xs, e1, hx⟩ := hx
      obtain ⟨ys, e2, hy⟩ := hy
      have hr := (eq_run (P := P) 9980 20 t ks hk).2.2 E.w xs.toList ys.toList b (eqVals_of hx hy hb)
      simp only [mkv, ha, if_true, Array.toArray_toList] at hr
      have := eqlV (P := P) t (.agg xs) (.agg ys) E.w nofun _ hr nofun nofun nofun
      exact .pure hw (execOp_bin (r := .bool _) ho (by rw [e1, e2]; exact run_eqGuard_agg E.w _ t _ _ xs ys hg) (by rw [e1, e2]; first | exact this.1 | exact this.2)) rfl

theorem unInt (op : UnOp) (k : IntKind) (n : Int) (r : AV) (h : unV op (.int k n) = some r) (w : World) : ∃ v, (Op.unary op (.int k n)).run P w = .ok v w ∧ VRel E r v := by
  cases op <;> simp only [unV, reduceCtorEq, Option.some.injEq] at h
  case neg => subst h; exact ⟨_, by simp [Op.unary, Op.intArith], rfl⟩
  case xor =>
    simp only [binInt, ne_eq, not_true_eq_false, if_false, Option.some.injEq] at h
    subst h
    exact ⟨_, by simp [Op.unary, Op.intBits], rfl⟩
theorem ok_un (hw : WRel E) {op : UnOp} {t : TypeId} {x : AV} {x' : Operand} (ho : o.op = .unOp op t x') (hx : VRel E x (ρ x')) {r : AV} (h : unV op x = some r) : OpOk P E o ρ r [] := by
  cases x <;> try (cases op <;> simp [unV] at h; done)
  case bool b =>
    cases op <;> simp only [unV, reduceCtorEq, Option.some.injEq] at h
    subst h
    simp only [VRel] at hx
    exact .pure hw (v := .bool !b) (by simp [execOp, ho, hx, Op.unary]) rfl
  case int k n =>
    simp only [VRel] at hx
    obtain ⟨v, hv, hr⟩ := unInt (P := P) (E := E) op k n r h E.w
    exact .pure hw (v := v) (by simp [execOp, ho, hx, hv]) hr

theorem ok_conv (hw : WRel E) {k k' : IntKind} {s d : TypeId} {n : Int} {x' : Operand} (ho : o.op = .convert s d x') (hs : (P.underlying s).isSome = true) (hd : P.underlying d = some (.int k))
    (hx : VRel E (.int k' n) (ρ x')) : OpOk P E o ρ (.int k (k.wrap n)) [] := by
  simp only [VRel] at hx
  have e : P.intKind d = k := by simp [Program.intKind, hd]
  have := run_convert_int (P := P) E.w s d k' n hs (by rw [e]; exact hd)
  rw [e] at this
  exact .pure hw (v := .int k (k.wrap n)) (by simp [execOp, ho, hx, this]) rfl

theorem ptr_add {i ver off : Nat} {v : Value} (n : Nat) (h : VRel E (.ptr i ver off) v) : ∃ a, v = .pointer (some a) ∧ VRel E (.ptr i ver (off + n)) (.pointer (some (a.add n))) := by
  simp only [VRel] at h ⊢
  obtain ⟨a, rfl, q, hq, hle, hf⟩ := h
  refine ⟨a, rfl, _, rfl, q, hq, hle, fun e => ?_⟩
  obtain ⟨b, base, h1, rfl⟩ := hf e
  exact ⟨b, base, h1, by rw [Addr.add_mid, Nat.add_assoc]⟩
theorem rptr_add {cs : List AV} {v : Value} (n : Nat) (h : VRel E (.rptr cs) v) : ∃ a, v = .pointer (some a) ∧ VRel E (.rptr (cs.drop n)) (.pointer (some (a.add n))) := by
  simp only [VRel] at h ⊢
  obtain ⟨a, rfl, h⟩ := h
  refine ⟨a, rfl, _, rfl, ?_⟩
  rcases h with rfl | ⟨b, off, rfl, h1, h2⟩
  · exact .inl (by simp)
  · exact .inr ⟨b, off + n, by rw [Addr.add_mid], h1, h2.drop n⟩

theorem fieldPlace_run {a : Addr} {f : Field} {i : TypeInfo} (hi : P.info? f.type = some i) (hn : i.size ≠ 0) (w : World) : (fieldPlace a f).run P w = .ok (a.add f.offset) w := by
  simp [fieldPlace, sizeOf, typeInfo, hi, hn]

theorem ok_faddr (hw : WRel E) {off f : Nat} {s : TypeId} {fs : Array Field} {fd : Field} {i : TypeInfo} {x : AV} {x' : Operand} (ho : o.op = .fieldAddr s x' f) (hu : P.underlying s = some (.struct fs)) (hf : fs[f]? = some fd)
    (hoff : fd.offset = off) (hi : P.info? fd.type = some i) (hn : i.size ≠ 0) (hx : VRel E x (ρ x')) {r : AV}
    (h : (∃ j ver k, x = .ptr j ver k ∧ r = .ptr j ver (k + off)) ∨ (∃ cs, x = .rptr cs ∧ r = .rptr (cs.drop off))) : OpOk P E o ρ r [] := by
  subst hoff
  obtain ⟨a, e1, hr⟩ : ∃ a, ρ x' = .pointer (some a) ∧ VRel E r (.pointer (some (a.add fd.offset))) := by
    rcases h with ⟨j, ver, k, rfl, rfl⟩ | ⟨cs, rfl, rfl⟩
    · exact ptr_add _ hx
    · exact rptr_add _ hx
  exact .pure hw (by simp only [execOp, ho, e1, Instr.fieldAt, Sem.run_bind, run_underlying hu, Result.andThen_ok, hf, Instr.sureAddr, Sem.run_pure, fieldPlace_run hi hn]) hr

end Go.Ev
end
section
namespace Go.Ev
variable {P : Program} {E : Env} {o : Oper} {a : Act} {sl : List AV} {cf : CallF} {r : AV} {ups : List (Nat × AObj)}

theorem some_pair {x y : AV} {u v : List (Nat × AObj)} (h : some (x, u) = some (y, v)) : x = y ∧ u = v := by
  cases h; exact ⟨rfl, rfl⟩
theorem map_pair {f : Option AV} {y : AV} {v : List (Nat × AObj)} (h : (f.map fun a => (a, ([] : List (Nat × AObj)))) = some (y, v)) : f = some y ∧ v = [] := by
  cases f with
  | none => cases h
  | some x => cases h; exact ⟨rfl, rfl⟩

theorem op_mv (hw : WRel E) (hs : ARel E sl a) {x : MX} (hc : chkOp P (.mv x) o.op = true) (h : opV cf sl E.H (.mv x) = some (r, ups)) : OpOk P E o a.eval r ups := by
  simp only [opV] at h
  obtain ⟨rfl, rfl⟩ := some_pair h
  simp only [chkOp] at hc
  split at hc
  · exact ok_mv hw (.inl (by assumption)) (ev_rel hs hc)
  · exact ok_mv hw (.inr (by assumption)) (ev_rel hs hc)
  · cases hc

theorem op_pick (hw : WRel E) (hs : ARel E sl a) {c x y : MX} (hc : chkOp P (.pick c x y) o.op = true) (h : opV cf sl E.H (.pick c x y) = some (r, ups)) : OpOk P E o a.eval r ups := by
  simp only [chkOp] at hc
  split at hc
  · rename_i c' x' y' ho
    simp only [Bool.and_eq_true] at hc
    simp only [opV] at h
    split at h
    · rename_i e
      obtain ⟨rfl, rfl⟩ := some_pair h
      simpa using ok_pick hw ho (ev_rel hs hc.1.1) (ev_rel hs hc.1.2) (ev_rel hs hc.2) e
    · rename_i e
      obtain ⟨rfl, rfl⟩ := some_pair h
      simpa using ok_pick hw ho (ev_rel hs hc.1.1) (ev_rel hs hc.1.2) (ev_rel hs hc.2) e
    · cases h
  · cases hc

theorem op_bin (hw : WRel E) (hs : ARel E sl a) {op : BinOp} {tc : TC} {x y : MX} (hc : chkOp P (.bin op tc x y) o.op = true) (h : opV cf sl E.H (.bin op tc x y) = some (r, ups)) : OpOk P E o a.eval r ups := by
  simp only [chkOp] at hc
  split at hc
  · rename_i op' t x' y' yt ho
    simp only [Bool.and_eq_true, beq_iff_eq] at hc
    obtain ⟨⟨⟨rfl, h1⟩, h2⟩, h3⟩ := hc
    simp only [opV] at h
    obtain ⟨hv, rfl⟩ := map_pair h
    exact ok_bin hw ho h1 (ev_rel hs h2) (ev_rel hs h3) hv
  · cases hc

theorem op_un (hw : WRel E) (hs : ARel E sl a) {op : UnOp} {x : MX} (hc : chkOp P (.un op x) o.op = true) (h : opV cf sl E.H (.un op x) = some (r, ups)) : OpOk P E o a.eval r ups := by
  simp only [chkOp] at hc
  split at hc
  · rename_i op' t x' ho
    simp only [Bool.and_eq_true, beq_iff_eq] at hc
    obtain ⟨rfl, h1⟩ := hc
    simp only [opV] at h
    obtain ⟨hv, rfl⟩ := map_pair h
    exact ok_un hw ho (ev_rel hs h1) hv
  · cases hc

theorem op_conv (hw : WRel E) (hs : ARel E sl a) {k : IntKind} {x : MX} (hc : chkOp P (.conv k x) o.op = true) (h : opV cf sl E.H (.conv k x) = some (r, ups)) : OpOk P E o a.eval r ups := by
  simp only [chkOp] at hc
  split at hc
  · rename_i s d x' ho
    simp only [Bool.and_eq_true] at hc
    obtain ⟨⟨h1, h2⟩, h3⟩ := hc
    split at h2
    · rename_i k' hd
      have := beq_iff_eq.1 h2
      subst this
      simp only [opV] at h
      split at h
      · rename_i k2 n e
        obtain ⟨rfl, rfl⟩ := some_pair h
        have hx := ev_rel hs h3
        rw [e] at hx
        exact ok_conv hw ho h1 hd hx
      · cases h
    · cases h2
  · cases hc

theorem op_faddr (hw : WRel E) (hs : ARel E sl a) {off : Nat} {x : MX} (hc : chkOp P (.faddr off x) o.op = true) (h : opV cf sl E.H (.faddr off x) = some (r, ups)) : OpOk P E o a.eval r ups := by
  simp only [chkOp] at hc
  split at hc
  · rename_i s x' f ho
    simp only [Bool.and_eq_true] at hc
    obtain ⟨h1, h2⟩ := hc
    split at h1
    · rename_i fs hu
      split at h1
      · rename_i fd hf
        simp only [Bool.and_eq_true, beq_iff_eq] at h1
        obtain ⟨hoff, h1⟩ := h1
        split at h1
        · rename_i i hi
          have hx := ev_rel hs h2
          simp only [opV] at h
          split at h
          · rename_i j ver k e
            obtain ⟨rfl, rfl⟩ := some_pair h
            rw [e] at hx
            exact ok_faddr hw ho hu hf hoff hi (by simpa using h1) hx (.inl ⟨_, _, _, rfl, rfl⟩)
          · rename_i cs e
            obtain ⟨rfl, rfl⟩ := some_pair h
            rw [e] at hx
            exact ok_faddr hw ho hu hf hoff hi (by simpa using h1) hx (.inr ⟨_, rfl, rfl⟩)
          · cases h
        · cases h1
      · cases h1
    · cases h1
  · cases hc

theorem op_nilchk (hw : WRel E) (hs : ARel E sl a) {x : MX} (hc : chkOp P (.nilchk x) o.op = true) (h : opV cf sl E.H (.nilchk x) = some (r, ups)) : OpOk P E o a.eval r ups := by
  simp only [chkOp] at hc
  split at hc
  · rename_i x' ho
    have hx := ev_rel hs hc
    simp only [opV] at h
    split at h
    · rename_i e
      obtain ⟨rfl, rfl⟩ := some_pair h
      rw [e] at hx
      obtain ⟨b, e1, _⟩ := (by simpa only [VRel] using hx : PRel E _ _ _ _)
      exact .pure hw (by simp [execOp, ho, e1]) (e1 ▸ hx)
    · rename_i e
      obtain ⟨rfl, rfl⟩ := some_pair h
      rw [e] at hx
      obtain ⟨b, e1, _⟩ := (by simpa only [VRel] using hx : ∃ b, a.eval x' = .pointer (some b) ∧ _)
      exact .pure hw (by simp [execOp, ho, e1]) (e1 ▸ hx)
    · rename_i e
      obtain ⟨rfl, rfl⟩ := some_pair h
      rw [e] at hx
      obtain ⟨b, c, e1, _⟩ := (by simpa only [VRel] using hx : ∃ b c, a.eval x' = .func (.func _) b c ∧ _)
      exact .pure hw (by simp [execOp, ho, e1]) (e1 ▸ hx)
    · cases h
  · cases hc

theorem run_sizeOf' {t : TypeId} {n : Nat} (h : szB P t n = true) (w : World) : (sizeOf t).run P w = .ok n w := by
  obtain ⟨i, hi, rfl⟩ := szB_info h
  simp [sizeOf, typeInfo, hi]

theorem int_rel {x : AV} {k : IntKind} {n : Int} {v : Value} (e : x = .int k n) (h : VRel E x v) : v = .int k n := by subst e; exact h

theorem op_iaddrA (hw : WRel E) (hs : ARel E sl a) {len sz : Nat} {x i : MX} (hc : chkOp P (.iaddrA len sz x i) o.op = true) (h : opV cf sl E.H (.iaddrA len sz x i) = some (r, ups)) : OpOk P E o a.eval r ups := by
  simp only [chkOp] at hc
  split at hc
  · rename_i t x' i' ho
    simp only [Bool.and_eq_true] at hc
    obtain ⟨⟨h1, h2⟩, h3⟩ := hc
    split at h1
    · rename_i n e hu
      simp only [Bool.and_eq_true, beq_iff_eq] at h1
      obtain ⟨rfl, hz⟩ := h1
      have hx := ev_rel hs h2
      have hi := ev_rel hs h3
      simp only [opV] at h
      split at h
      · rename_i k m ei
        have hi := int_rel ei hi
        split at h
        · rename_i hb
          obtain ⟨b, e1, hr⟩ : ∃ b, a.eval x' = .pointer (some b) ∧ VRel E r (.pointer (some (b.add (m.toNat * sz)))) ∧ ups = [] := by
            split at h
            · rename_i e
              obtain ⟨rfl, rfl⟩ := some_pair h
              rw [e] at hx
              obtain ⟨b, h1, h2⟩ := ptr_add (m.toNat * sz) hx
              exact ⟨b, h1, h2, rfl⟩
            · rename_i e
              obtain ⟨rfl, rfl⟩ := some_pair h
              rw [e] at hx
              obtain ⟨b, h1, h2⟩ := rptr_add (m.toNat * sz) hx
              exact ⟨b, h1, h2, rfl⟩
            · cases h
          obtain ⟨hr, rfl⟩ := hr
          refine .pure hw (v := .pointer (some (b.add (m.toNat * sz)))) ?_ hr
          simp [execOp, ho, e1, hi, Instr.indexAt, run_underlying hu, asIntOf, Instr.sureAddr, hb, run_sizeOf' hz]
        · cases h
      · cases h
    · cases h1
  · cases hc

theorem op_iaddrS (hw : WRel E) (hs : ARel E sl a) {sz : Nat} {x i : MX} (hc : chkOp P (.iaddrS sz x i) o.op = true) (h : opV cf sl E.H (.iaddrS sz x i) = some (r, ups)) : OpOk P E o a.eval r ups := by
  simp only [chkOp] at hc
  split at hc
  · rename_i t x' i' ho
    simp only [Bool.and_eq_true] at hc
    obtain ⟨⟨h1, h2⟩, h3⟩ := hc
    split at h1
    · rename_i e hu
      simp only [Bool.and_eq_true, decide_eq_true_eq] at h1
      obtain ⟨hz, hsz⟩ := h1
      have hx := ev_rel hs h2
      have hi := ev_rel hs h3
      simp only [opV] at h
      split at h
      · rename_i k m ei
        have hi := int_rel ei hi
        obtain ⟨b, n, c, e1, hb, hr, hu'⟩ : ∃ b n c, a.eval x' = .slice (some b) n c ∧ (0 ≤ m ∧ m < n) ∧ VRel E r (.pointer (some (b.add (m.toNat * sz)))) ∧ ups = [] := by
          split at h
          · rename_i n cs e
            split at h
            · rename_i hb
              obtain ⟨rfl, rfl⟩ := some_pair h
              rw [e] at hx
              simp only [VRel] at hx
              obtain ⟨ad, cap, h1, h2, h3, h4⟩ := hx
              have hs := h3 (by omega)
              obtain ⟨b, rfl⟩ := Option.isSome_iff_exists.1 hs
              refine ⟨b, n, cap, h1, hb, ?_, rfl⟩
              simp only [VRel]
              refine ⟨_, rfl, ?_⟩
              rcases h4 with rfl | ⟨bb, off, h5, h6, h7⟩
              · exact .inl (by simp)
              · cases h5
                exact .inr ⟨bb, off + m.toNat * sz, by rw [Addr.add_mid], h6, h7.drop _⟩
            · cases h
          · rename_i j ver off n sz' e
            split at h
            · rename_i hb
              obtain ⟨rfl, hb⟩ := hb
              obtain ⟨rfl, rfl⟩ := some_pair h
              rw [e] at hx
              simp only [VRel] at hx
              obtain ⟨ad, cap, h1, h2, h3, q, hq, hle, hf⟩ := hx
              have hs := h3 (by omega)
              obtain ⟨b, rfl⟩ := Option.isSome_iff_exists.1 hs
              refine ⟨b, n, cap, h1, hb, ?_, rfl⟩
              simp only [VRel]
              refine ⟨_, rfl, q, hq, hle, fun ev => ?_⟩
              have hf := hf ev
              have hp : PlacedS E j off cap sz' (some b) := by
                cases hb : q.body with
                | none => rw [hb] at hf; exact hf.elim
                | map _ _ => rw [hb] at hf; exact hf.elim
                | var cs => rw [hb] at hf; exact hf.2
                | row _ _ cs =>
                  rw [hb] at hf
                  rcases hf.2 with h | ⟨_, _, h, _⟩
                  · exact h
                  · cases h
              obtain ⟨bb, base, p1, p2, _⟩ := hp
              cases p2
              exact ⟨bb, base, p1, by rw [Addr.add_mid, Nat.add_assoc]⟩
            · cases h
          · cases h
        subst hu'
        refine .pure hw (v := .pointer (some (b.add (m.toNat * sz)))) ?_ hr
        simp [execOp, ho, e1, hi, Instr.indexAt, run_underlying hu, asIntOf, hb, run_sizeOf' hz]
      · cases h
    · cases h1
  · cases hc

end Go.Ev
end
section
namespace Go.Ev
variable {P : Program} {E : Env} {o : Oper} {a : Act} {sl : List AV} {cf : CallF} {r : AV} {ups : List (Nat × AObj)}

theorem LRel.drop {E : Env} {cs : List AV} {vs : List Value} (h : LRel E cs vs) (k : Nat) : LRel E (cs.drop k) (vs.drop k) :=
  LRel.of (by simp [h.length]) fun j c v h1 h2 => by
    rw [List.getElem?_drop] at h1 h2
    obtain ⟨u, hu, hr⟩ := h.get _ c h1
    rw [hu] at h2
    cases h2
    exact hr
theorem LRel.take {E : Env} {cs : List AV} {vs : List Value} (h : LRel E cs vs) (k : Nat) : LRel E (cs.take k) (vs.take k) :=
  LRel.of (by simp [h.length]) fun j c v h1 h2 => by
    rw [List.getElem?_take] at h1 h2
    split at h1
    · rename_i hlt
      rw [if_pos hlt] at h2
      obtain ⟨u, hu, hr⟩ := h.get _ c h1
      rw [hu] at h2
      cases h2
      exact hr
    · cases h1
theorem LRel.append {E : Env} : ∀ {cs ds : List AV} {vs us : List Value}, LRel E cs vs → LRel E ds us → LRel E (cs ++ ds) (vs ++ us)
  | [], _, vs, _, h, k => by simp only [LRel] at h; subst h; simpa using k
  | c :: cs, ds, vs, us, h, k => by
    simp only [LRel] at h
    obtain ⟨v, r, rfl, h1, h2⟩ := h
    exact ⟨v, r ++ us, rfl, h1, LRel.append h2 k⟩

theorem oneB_spec {t : TypeId} (h : oneB P t = true) : (P.underlying t).isSome = true ∧ aggB P t = false := by
  unfold oneB at h
  unfold aggB
  split at h <;> simp_all

theorem run_part_one {t : TypeId} {cs : Array Value} {off : Nat} {v : Value} (w : World) (h : oneB P t = true) (hv : cs.toList[off]? = some v) : (part t cs off).run P w = .ok v w := by
  obtain ⟨h1, h2⟩ := oneB_spec h
  have : cs[off]? = some v := by simpa using hv
  simp [part, run_isAgg w h1, h2, this]

theorem run_part_agg {t : TypeId} {cs : Array Value} {off n : Nat} (w : World) (h : aggB P t = true) (hz : szB P t n = true) :
    (part t cs off).run P w = .ok (.agg ((cs.toList.drop off).take n).toArray) w := by
  have hu : (P.underlying t).isSome = true := by
    unfold aggB at h
    split at h <;> simp_all
  simp only [part, Sem.run_bind, run_isAgg w hu, Result.andThen_ok, h, if_true, run_sizeOf' hz, Sem.run_pure]
  congr 2
  apply Array.ext'
  simp [Array.toList_extract, List.extract_eq_take_drop]

theorem op_field (hw : WRel E) (hs : ARel E sl a) {off : Nat} {n : Option Nat} {x : MX} (hc : chkOp P (.field off n x) o.op = true) (h : opV cf sl E.H (.field off n x) = some (r, ups)) : OpOk P E o a.eval r ups := by
  simp only [chkOp] at hc
  split at hc
  · rename_i t x' f ho
    simp only [Bool.and_eq_true] at hc
    obtain ⟨h1, h2⟩ := hc
    have hx := ev_rel hs h2
    split at h1
    · rename_i fs hu
      split at h1
      · rename_i fd hf
        simp only [Bool.and_eq_true, beq_iff_eq] at h1
        obtain ⟨rfl, hl⟩ := h1
        simp only [opV] at h
        split at h
        · rename_i cs e
          rw [e] at hx
          simp only [VRel] at hx
          obtain ⟨arr, e1, hx⟩ := hx
          cases n with
          | none =>
            simp only [loadB] at hl
            simp only at h
            obtain ⟨hv, rfl⟩ := map_pair h
            obtain ⟨v, hv, hr⟩ := hx.get _ _ hv
            exact .pure hw (v := v) (by simp [execOp, ho, e1, Instr.field, run_underlying hu, hf, asAgg, run_part_one E.w hl hv]) hr
          | some n =>
            simp only [loadB, Bool.and_eq_true, decide_eq_true_eq] at hl
            simp only at h
            split at h
            · obtain ⟨rfl, rfl⟩ := some_pair h
              refine .pure hw (v := .agg ((arr.toList.drop fd.offset).take n).toArray) (by simp [execOp, ho, e1, Instr.field, run_underlying hu, hf, asAgg, run_part_agg E.w hl.1.1 hl.1.2]) ?_
              simp only [VRel]
              exact ⟨_, rfl, (hx.drop _).take _⟩
            · cases h
        · cases h
      · cases h1
    · cases h1
  · cases hc

theorem op_index (hw : WRel E) (hs : ARel E sl a) {len sz : Nat} {ag : Bool} {x i : MX} (hc : chkOp P (.index len sz ag x i) o.op = true) (h : opV cf sl E.H (.index len sz ag x i) = some (r, ups)) : OpOk P E o a.eval r ups := by
  simp only [chkOp] at hc
  split at hc
  · rename_i t x' i' ho
    simp only [Bool.and_eq_true] at hc
    obtain ⟨⟨h1, h2⟩, h3⟩ := hc
    have hx := ev_rel hs h2
    have hi := ev_rel hs h3
    simp only [opV] at h
    split at h
    · rename_i k m ei
      have hi := int_rel ei hi
      split at h
      · rename_i cs e
        rw [e] at hx
        simp only [VRel] at hx
        obtain ⟨arr, e1, hx⟩ := hx
        split at h
        · rename_i hb
          split at h1
          · rename_i n el hu
            simp only [Bool.and_eq_true, beq_iff_eq, decide_eq_true_eq] at h1
            obtain ⟨⟨⟨rfl, hz⟩, h0⟩, hag⟩ := h1
            cases ag with
            | true =>
              simp only [if_true] at hag h
              split at h
              · obtain ⟨rfl, rfl⟩ := some_pair h
                refine .pure hw (v := .agg ((arr.toList.drop (m.toNat * sz)).take sz).toArray) ?_ ?_
                · simp [execOp, ho, e1, hi, Instr.index, run_underlying hu, asIntOf, hb, run_sizeOf' hz, run_part_agg E.w hag hz]
                · simp only [VRel]; exact ⟨_, rfl, (hx.drop _).take _⟩
              · cases h
            | false =>
              simp only [Bool.false_eq_true, if_false] at hag h
              obtain ⟨hv, rfl⟩ := map_pair h
              obtain ⟨v, hv, hr⟩ := hx.get _ _ hv
              exact .pure hw (v := v) (by simp [execOp, ho, e1, hi, Instr.index, run_underlying hu, asIntOf, hb, run_sizeOf' hz, run_part_one E.w hag hv]) hr
          · cases h1
        · cases h
      · cases h
    · cases h
  · cases hc

theorem op_lenK (hw : WRel E) {n : Nat} (hc : chkOp P (.lenK n) o.op = true) (h : opV cf sl E.H (.lenK n) = some (r, ups)) : OpOk P E o a.eval r ups := by
  simp only [chkOp] at hc
  split at hc
  · rename_i args ts ho
    simp only [Bool.and_eq_true, beq_iff_eq] at hc
    obtain ⟨h1, h2⟩ := hc
    split at h2
    · rename_i t ht
      split at h2
      · rename_i m e hu
        have := beq_iff_eq.1 h2
        subst this
        simp only [opV] at h
        obtain ⟨rfl, rfl⟩ := some_pair h
        have hx : ((args.map a.eval)[0]?).isSome = true := by simp [h1]
        obtain ⟨v, hv⟩ := Option.isSome_iff_exists.1 hx
        refine .pure hw (v := goInt m) ?_ rfl
        simp only [execOp, ho, Sem.run_bind, resolve, Sem.run_pure, Result.andThen_ok, invoke, builtin, Builtin.len_, ht, hv, run_underlying hu]
      · cases h2
    · cases h2
  · cases hc

theorem op_len (hw : WRel E) (hs : ARel E sl a) {x : MX} (hc : chkOp P (.len x) o.op = true) (h : opV cf sl E.H (.len x) = some (r, ups)) : OpOk P E o a.eval r ups := by
  simp only [chkOp] at hc
  split at hc
  · rename_i args ts ho
    simp only [Bool.and_eq_true, beq_iff_eq] at hc
    obtain ⟨⟨h1, h0⟩, h2⟩ := hc
    obtain ⟨x', rfl⟩ : ∃ x', args = #[x'] := Array.size_eq_one_iff.1 h1
    have hx : VRel E (ev sl x) (a.eval x') := by
      simp only [chkXs, Bool.and_true] at h0
      exact ev_rel hs h0
    have hrun : ∀ t, ts[0]? = some t → ∀ v w, (Builtin.len_ ts o.type #[a.eval x']).run P w = .ok v w → (execOp a.eval o).run P w = .ok (.value v) w := by
      intro t ht v w hv
      simp [execOp, ho, resolve, invoke, builtin, hv]
    split at h2
    · rename_i t ht
      split at h2
      · rename_i e hu
        simp only [opV] at h
        obtain ⟨n, rfl, hu', ad, cap, e1⟩ : ∃ n : Nat, r = .int .i64 n ∧ ups = [] ∧ ∃ ad cap, a.eval x' = .slice ad n cap := by
          split at h
          · rename_i e; obtain ⟨rfl, rfl⟩ := some_pair h
            rw [e] at hx; simp only [VRel] at hx; obtain ⟨ad, cap, hx, _⟩ := hx; exact ⟨_, rfl, rfl, _, _, hx⟩
          · rename_i e; obtain ⟨rfl, rfl⟩ := some_pair h
            rw [e] at hx; simp only [VRel] at hx; exact ⟨0, rfl, rfl, _, _, hx⟩
          · rename_i e; obtain ⟨rfl, rfl⟩ := some_pair h
            rw [e] at hx; simp only [VRel] at hx; obtain ⟨ad, cap, hx, _⟩ := hx; exact ⟨_, rfl, rfl, _, _, hx⟩
          · cases h
        subst hu'
        exact .pure hw (hrun t ht (goInt n) E.w (by simp [Builtin.len_, ht, e1, run_underlying hu])) rfl
      · cases h2
    · cases h2
  · cases hc

theorem foldMM_run (mx : Bool) (k : IntKind) : ∀ (cs : List AV) (vs : List Value) (n : Int) (r : AV) (w : World), LRel E cs vs → foldMM mx k n cs = some r →
    ∃ v, (vs.foldlM (if mx then Builtin.max2 else Builtin.min2) (.int k n)).run P w = .ok v w ∧ VRel E r v
  | [], vs, n, r, w, h, hr => by
    simp only [LRel] at h; subst h
    simp only [foldMM, Option.some.injEq] at hr; subst hr
    exact ⟨_, by simp, rfl⟩
  | c :: cs, vs, n, r, w, h, hr => by
    simp only [LRel] at h
    obtain ⟨v, us, rfl, hv, h⟩ := h
    cases c <;> simp only [foldMM, reduceCtorEq] at hr
    rename_i k' m
    simp only [VRel] at hv
    subst hv
    split at hr
    · cases hr
    · rename_i hk
      have hk : k = k' := by simpa using hk
      subst hk
      obtain ⟨v, h1, h2⟩ := foldMM_run mx k cs us _ r w h hr
      refine ⟨v, ?_, h2⟩
      rw [List.foldlM_cons]
      cases mx
      · simp only [Bool.false_eq_true, if_false] at h1 ⊢
        simp only [Builtin.min2, Sem.run_bind, Sem.run_pure, Result.andThen_ok]
        exact h1
      · simp only [if_true] at h1 ⊢
        simp only [Builtin.max2, Sem.run_bind, Sem.run_pure, Result.andThen_ok]
        exact h1

theorem op_minmax (hw : WRel E) (hs : ARel E sl a) {mx : Bool} {xs : List MX} (hc : chkOp P (.minmax mx xs) o.op = true) (h : opV cf sl E.H (.minmax mx xs) = some (r, ups)) : OpOk P E o a.eval r ups := by
  simp only [chkOp] at hc
  split at hc
  · rename_i b args ts ho
    simp only [Bool.and_eq_true] at hc
    obtain ⟨h1, h2⟩ := hc
    have hx := evs_rel hs h2
    simp only [opV] at h
    obtain ⟨hv, rfl⟩ := map_pair h
    generalize xs.map (ev sl) = cs at hv hx
    cases cs with
    | nil => simp [mmV] at hv
    | cons c cs =>
      cases c <;> simp only [mmV, reduceCtorEq] at hv
      rename_i k n
      simp only [LRel] at hx
      obtain ⟨v, us, e, hv1, hx⟩ := hx
      simp only [VRel] at hv1
      subst hv1
      obtain ⟨v, h3, h4⟩ := foldMM_run (P := P) mx k cs us n r E.w hx hv
      refine .pure hw (v := v) ?_ h4
      cases b <;> simp only [Bool.false_eq_true] at h1
      · subst h1
        simp only [if_true] at h3
        simp [execOp, ho, resolve, invoke, builtin, Builtin.max_, e, h3]
      · have : mx = false := by simpa using h1
        subst this
        simp only [Bool.false_eq_true, if_false] at h3
        simp [execOp, ho, resolve, invoke, builtin, Builtin.min_, e, h3]
  · cases hc

theorem op_extract (hw : WRel E) (hs : ARel E sl a) {x : MX} {i : Nat} (hc : chkOp P (.extract x i) o.op = true) (h : opV cf sl E.H (.extract x i) = some (r, ups)) : OpOk P E o a.eval r ups := by
  simp only [chkOp] at hc
  split at hc
  · rename_i x' j ho
    simp only [Bool.and_eq_true, beq_iff_eq] at hc
    obtain ⟨rfl, h2⟩ := hc
    have hx := ev_rel hs h2
    simp only [opV] at h
    split at h
    · rename_i vs e
      rw [e] at hx
      simp only [VRel] at hx
      obtain ⟨arr, e1, hx⟩ := hx
      obtain ⟨hv, rfl⟩ := map_pair h
      obtain ⟨v, hv, hr⟩ := hx.get _ _ hv
      have hv' : arr[i]? = some v := by simpa using hv
      exact .pure hw (v := v) (by simp [execOp, ho, e1, Instr.extract, hv']) hr
    · cases h
  · cases hc

theorem op_mkfn (hw : WRel E) (hs : ARel E sl a) {f : FuncId} {xs ys : List MX} (hc : chkOp P (.mkfn f xs ys) o.op = true) (h : opV cf sl E.H (.mkfn f xs ys) = some (r, ups)) : OpOk P E o a.eval r ups := by
  simp only [chkOp] at hc
  split at hc
  · rename_i g as bs ho
    simp only [Bool.and_eq_true, beq_iff_eq] at hc
    obtain ⟨⟨rfl, h1⟩, h2⟩ := hc
    simp only [opV] at h
    obtain ⟨rfl, rfl⟩ := some_pair h
    refine .pure hw (v := .func (.func f) (as.map a.eval) (bs.map a.eval)) (by simp [execOp, ho, Instr.makeFunc]) ?_
    simp only [VRel]
    exact ⟨_, _, rfl, by simpa using evs_rel hs h1, by simpa using evs_rel hs h2⟩
  · cases hc


def ORelO (E : Env) : Option AV → Option Value → Prop
  | none, none => True
  | some a, some v => VRel E a v
  | _, _ => False
theorem evO_rel (hs : ARel E sl a) : ∀ {x : Option MX} {y : Option Operand}, chkXO x y = true → ORelO E (x.map (ev sl)) (y.map a.eval)
  | none, none, _ => trivial
  | none, some _, h => by simp [chkXO] at h
  | some _, none, h => by simp [chkXO] at h
  | some _, some _, h => ev_rel hs h

theorem hiB_run {n cap : Nat} (hcap : n ≤ cap) {h : Nat} (isS : Bool) (w : World) : ∀ {hi : Option AV} {hi' : Option Value}, ORelO E hi hi' → hiB n hi = some h →
    h ≤ n ∧ (match hi' with
        | some v => Instr.sliceBound v cap (if isS then .sliceAcap else .sliceAlen)
        | none => pure n : Sem Nat).run P w = .ok h w
  | none, none, _, hb => by simp only [hiB, Option.some.injEq] at hb; subst hb; exact ⟨Nat.le_refl _, rfl⟩
  | none, some _, q, _ => q.elim
  | some _, none, q, _ => q.elim
  | some x, some v, q, hb => by
    cases x <;> simp only [hiB, reduceCtorEq] at hb
    rename_i k m
    simp only [ORelO, VRel] at q
    subst q
    split at hb
    · rename_i hm
      cases hb
      exact ⟨by omega, run_sliceBound w k m cap _ hm.1 (by omega)⟩
    · cases hb
theorem loB_run {h l : Nat} (w : World) : ∀ {lo : Option AV} {lo' : Option Value}, ORelO E lo lo' → loB h lo = some l →
    l ≤ h ∧ (match lo' with
        | some v => Instr.sliceBound v h .sliceB
        | none => pure 0 : Sem Nat).run P w = .ok l w
  | none, none, _, hb => by simp only [loB, Option.some.injEq] at hb; subst hb; exact ⟨Nat.zero_le _, rfl⟩
  | none, some _, q, _ => q.elim
  | some _, none, q, _ => q.elim
  | some x, some v, q, hb => by
    cases x <;> simp only [loB, reduceCtorEq] at hb
    rename_i k m
    simp only [ORelO, VRel] at q
    subst q
    split at hb
    · rename_i hm
      cases hb
      exact ⟨by omega, run_sliceBound w k m h _ hm.1 (by omega)⟩
    · cases hb

theorem sliceBounds_run {n cap : Nat} (hcap : n ≤ cap) {lo hi : Option AV} {lo' hi' : Option Value} (hlo : ORelO E lo lo') (hhi : ORelO E hi hi') {l h : Nat} (hb : sliceBounds n lo hi = some (l, h)) (isS : Bool) (w : World) :
    (Instr.sliceBounds isS n cap lo' hi' none).run P w = .ok (l, h, cap) w ∧ l ≤ h ∧ h ≤ n := by
  unfold sliceBounds at hb
  split at hb
  · cases hb
  · rename_i hh e1
    split at hb
    · cases hb
    · rename_i ll e2
      cases hb
      obtain ⟨h1, r1⟩ := hiB_run (P := P) hcap isS w hhi e1
      obtain ⟨h2, r2⟩ := loB_run (P := P) w hlo e2
      refine ⟨?_, h2, h1⟩
      unfold Instr.sliceBounds
      cases hi' <;> cases lo' <;> simp_all

theorem sliced_eq (ad : Option Addr) (l h m s : Nat) : sliced ad l h m s = .slice (if m = l then ad else ad.map (·.add (l * s))) (h - l) (m - l) := rfl

theorem ro_part {n cap l h sz : Nat} {cs : List AV} {ad : Option Addr} (hlh : l ≤ h) (hn : h ≤ n) (hc : n ≤ cap) (h3 : 0 < n → ad.isSome = true)
    (h4 : cs = [] ∨ ∃ b off, ad = some ⟨b, off, none⟩ ∧ ¬ E.X b ∧ CRel E cs b off) :
    VRel E (.ro (h - l) ((cs.drop (l * sz)).take ((h - l) * sz))) (.slice (if cap = l then ad else ad.map (·.add (l * sz))) (h - l) (cap - l)) := by
  simp only [VRel]
  refine ⟨_, _, rfl, by omega, fun hp => ?_, ?_⟩
  · have := h3 (by omega)
    split
    · exact this
    · simpa using this
  · rcases h4 with rfl | ⟨b, off, rfl, h5, h6⟩
    · exact .inl (by simp)
    · by_cases e : cap = l
      · left
        have : h - l = 0 := by omega
        rw [this]
        simp
      · right
        rw [if_neg e]
        exact ⟨b, off + l * sz, by simp [Addr.add_mid], h5, (h6.drop _).take _⟩

theorem op_sliceS (hw : WRel E) (hs : ARel E sl a) {sz : Nat} {x : MX} {lo hi : Option MX} (hc : chkOp P (.sliceS sz x lo hi) o.op = true) (h : opV cf sl E.H (.sliceS sz x lo hi) = some (r, ups)) : OpOk P E o a.eval r ups := by
  simp only [chkOp] at hc
  split at hc
  · rename_i t x' lo' hi' ho
    simp only [Bool.and_eq_true] at hc
    obtain ⟨⟨⟨h1, h2⟩, h3⟩, h4⟩ := hc
    have hx := ev_rel hs h2
    have hlo := evO_rel hs h3
    have hhi := evO_rel hs h4
    split at h1
    · rename_i el hu
      have hel : P.elem t = el := by simp [Program.elem, hu]
      have hu' : P.underlying t = some (.slice (P.elem t)) := by rw [hel]; exact hu
      have hrun : ∀ (ad : Option Addr) (n cap l hh : Nat), a.eval x' = .slice ad n cap → n ≤ cap → sliceBounds n (lo.map (ev sl)) (hi.map (ev sl)) = some (l, hh) →
          (execOp a.eval o).run P E.w = .ok (.value (.slice (if cap = l then ad else ad.map (·.add (l * sz))) (hh - l) (cap - l))) E.w ∧ l ≤ hh ∧ hh ≤ n := by
        intro ad n cap l hh e1 hle hb
        obtain ⟨hr, h5, h6⟩ := sliceBounds_run (P := P) hle hlo hhi hb true E.w
        refine ⟨?_, h5, h6⟩
        simp only [execOp, ho, e1, Option.map_none, Sem.run_bind, run_sliceAt_slice E.w t _ _ _ _ hu', run_slice_any E.w t ad n cap hu', hr, Result.andThen_ok, hel, run_sizeOf' h1, sliced_eq, Sem.run_pure]
      simp only [opV] at h
      split at h
      · rename_i n cs e
        rw [e] at hx
        simp only [VRel] at hx
        obtain ⟨ad, cap, e1, hle, h7, h8⟩ := hx
        split at h
        · rename_i l hh hb
          obtain ⟨rfl, rfl⟩ := some_pair h
          obtain ⟨hr, h5, h6⟩ := hrun ad n cap l hh e1 hle hb
          exact .pure hw hr (ro_part h5 h6 hle h7 h8)
        · cases h
      · rename_i e
        rw [e] at hx
        simp only [VRel] at hx
        split at h
        · rename_i p hb
          obtain ⟨l, hh⟩ := p
          obtain ⟨rfl, rfl⟩ := some_pair h
          obtain ⟨hr, h5, h6⟩ := hrun none 0 0 l hh hx (Nat.le_refl _) hb
          refine .pure hw hr ?_
          have e1 : l = 0 := by omega
          have e2 : hh = 0 := by omega
          simp [VRel, e1, e2]
        · cases h
      · rename_i i ver off n sz' e
        rw [e] at hx
        simp only [VRel] at hx
        obtain ⟨ad, cap, e1, hle, h7, q, hq, hv, hf⟩ := hx
        split at h
        · cases h
        · rename_i hsz
          have hsz : sz' = sz := by simpa using hsz
          subst hsz
          split at h
          · rename_i l hh hb
            obtain ⟨hr, h5, h6⟩ := hrun ad n cap l hh e1 hle hb
            split at h
            · rename_i hlh
              obtain ⟨rfl, rfl⟩ := some_pair h
              refine .pure hw hr ?_
              simp only [VRel]
              exact ⟨_, _, by rw [hlh, Nat.sub_self], by omega, fun h => by omega, .inl trivial⟩
            · rename_i hlh
              obtain ⟨rfl, rfl⟩ := some_pair h
              refine .pure hw hr ?_
              have hne : cap ≠ l := by omega
              rw [if_neg hne]
              simp only [VRel]
              refine ⟨_, _, rfl, by omega, fun _ => by simpa using h7 (by omega), q, hq, hv, fun ev => ?_⟩
              have hf := hf ev
              have hp : ∀ {ad : Option Addr}, PlacedS E i off cap sz' ad → PlacedS E i (off + l * sz') (cap - l) sz' (ad.map (·.add (l * sz'))) := by
                rintro ad ⟨b, base, p1, rfl, p3⟩
                refine ⟨b, base, p1, by simp [Addr.add_mid, Nat.add_assoc], p3.le ?_⟩
                have : cap * sz' = l * sz' + (cap - l) * sz' := by rw [← Nat.add_mul]; congr 1; omega
                omega
              have hlen : ∀ k, off + n * sz' ≤ k → off + l * sz' + (hh - l) * sz' ≤ k := by
                intro k hk
                have e1 : l * sz' + (hh - l) * sz' = hh * sz' := by rw [← Nat.add_mul]; congr 1; omega
                have e2 : hh * sz' ≤ n * sz' := Nat.mul_le_mul_right _ h6
                omega
              cases hb : q.body with
              | none => rw [hb] at hf; exact hf.elim
              | map _ _ => rw [hb] at hf; exact hf.elim
              | var cs => rw [hb] at hf; exact ⟨hlen _ hf.1, hp hf.2⟩
              | row _ _ cs =>
                rw [hb] at hf
                refine ⟨hlen _ hf.1, ?_⟩
                rcases hf.2 with h | ⟨_, _, h, h'⟩
                · exact .inl (hp h)
                · omega
          · cases h
      · cases h
    · cases h1
  · cases hc

end Go.Ev
end
section
namespace Go.Ev
variable {P : Program} {E : Env} {o : Oper} {a : Act} {sl : List AV} {cf : CallF} {r : AV} {ups : List (Nat × AObj)}

theorem VCells.drop {cs : List AV} {b o : Nat} (h : VCells E cs b o) (k : Nat) : VCells E (cs.drop k) b (o + k) := fun j c hj => by
  rw [List.getElem?_drop] at hj
  have := h (k + j) c hj
  rwa [← Nat.add_assoc] at this
theorem VCells.take {cs : List AV} {b o : Nat} (h : VCells E cs b o) (k : Nat) : VCells E (cs.take k) b o := fun j c hj => by
  rw [List.getElem?_take] at hj
  split at hj
  · exact h j c hj
  · cases hj
theorem VCells.toC : ∀ {cs : List AV} {b o : Nat}, VCells E cs b o → cs.all AV.tree = true → CRel E cs b o := fun h ht =>
  CRel.of fun j c hj => ⟨List.all_eq_true.1 ht c (List.mem_of_getElem? hj), (h j c hj).2⟩
theorem CRel.allTree : ∀ {cs : List AV} {b o : Nat}, CRel E cs b o → cs.all AV.tree = true
  | [], _, _, _ => rfl
  | c :: cs, b, o, h => by
    simp only [CRel] at h
    simp only [List.all_cons, Bool.and_eq_true]
    exact ⟨h.1.1, CRel.allTree h.2⟩

theorem VCells.vals : ∀ {cs : List AV} {b o : Nat}, VCells E cs b o → ∃ vs, LRel E cs vs ∧ E.w.rangeAt b o vs ∧ ∀ u ∈ vs, u.oneCell' = true
  | [], b, o, _ => ⟨[], rfl, fun j v h => by simp at h, fun u h => by cases h⟩
  | c :: cs, b, o, h => by
    obtain ⟨vs, h1, h2, h3⟩ := VCells.vals (cs := cs) (b := b) (o := o + 1) (fun j x hj => by
      have := h (j + 1) x (by simpa using hj)
      rwa [show o + (j + 1) = o + 1 + j by omega] at this)
    obtain ⟨ha, v, hv, hr⟩ := h 0 c rfl
    refine ⟨v :: vs, ⟨v, vs, rfl, hr, h1⟩, fun j u hj => ?_, fun u hu => ?_⟩
    · cases j with
      | zero => simp at hj; subst hj; exact hv
      | succ j =>
        have := h2 j u (by simpa using hj)
        rwa [show o + (j + 1) = o + 1 + j by omega]
    · cases hu with
      | head => exact hr.one ha
      | tail _ hu => exact h3 u hu

theorem objCells_rel (hw : WRel E) {i ver : Nat} {cs : List AV} (h : objCells E.H i ver = some cs) :
    ∃ q, E.H[i]? = some q ∧ q.ver = ver ∧ bodyCells q.body = some cs ∧ ((cs = [] ∧ E.ρ[i]? = some none) ∨ ∃ b base, E.ρ[i]? = some (some (b, base)) ∧ Blk E.w b (base + cs.length) ∧ VCells E cs b base) := by
  unfold objCells at h
  split at h
  · rename_i q hq
    split at h
    · rename_i hv
      refine ⟨q, hq, hv, h, ?_⟩
      have hold := hw.obj i q hq
      unfold ObjRel at hold
      cases hb : q.body with
      | none => rw [hb] at h; cases h
      | map _ _ => rw [hb] at h; cases h
      | var ds => rw [hb] at h hold; cases h; exact .inr hold
      | row m s ds =>
        rw [hb] at h hold
        cases h
        rcases hold with h | ⟨b, base, h1, h2, h3, _⟩
        · exact .inl h
        · exact .inr ⟨b, base, h1, h2, h3.toV⟩
    · cases h
  · cases h

theorem ptr_cells (hw : WRel E) {i ver off : Nat} {cs : List AV} {v : Value} (hx : VRel E (.ptr i ver off) v) (h : objCells E.H i ver = some cs) :
    ∃ b base, v = .pointer (some ⟨b, base + off, none⟩) ∧ E.ρ[i]? = some (some (b, base)) ∧ Blk E.w b (base + cs.length) ∧ VCells E cs b base ∧ VCells E (cs.drop off) b (base + off) := by
  obtain ⟨q, hq, hv, _, hb⟩ := objCells_rel hw h
  simp only [VRel] at hx
  obtain ⟨ad, rfl, q', hq', hle, hf⟩ := hx
  rw [hq] at hq'
  cases hq'
  obtain ⟨b, base, h1, rfl⟩ := hf hv.symm
  rcases hb with ⟨_, h2⟩ | ⟨b', base', h2, h3, h4⟩
  · rw [h1] at h2; cases h2
  · rw [h1] at h2; cases h2
    exact ⟨b, base, rfl, h1, h3, h4, h4.drop off⟩

theorem loadCells_rel (hw : WRel E) {ob : Option Nat} {x : AV} {n : Nat} {cs : List AV} {v : Value} (h : loadCells E.H ob x n = some cs) (hx : VRel E x v) (hn : 0 < n) :
    ∃ b off, v = .pointer (some ⟨b, off, none⟩) ∧ VCells E cs b off ∧ cs.length = n := by
  unfold loadCells at h
  split at h
  · rename_i ds
    split at h
    · rename_i hle
      cases h
      simp only [VRel] at hx
      obtain ⟨ad, rfl, hx⟩ := hx
      rcases hx with rfl | ⟨b, off, rfl, _, hc⟩
      · simp at hle; omega
      · exact ⟨b, off, rfl, hc.toV.take n, by simp; omega⟩
    · cases h
  · rename_i i j ver off
    split at h
    · cases h
    · split at h
      · rename_i ds hds
        split at h
        · rename_i hle
          cases h
          obtain ⟨b, base, h1, h2, h3, h4, h5⟩ := ptr_cells hw hx hds
          exact ⟨b, base + off, h1, h5.take n, by simp; omega⟩
        · cases h
      · cases h
  · cases h

theorem load1_rel (hw : WRel E) {ob : Option Nat} {x c : AV} {v : Value} (h : load1 E.H ob x = some c) (hx : VRel E x v) :
    ∃ b off u, v = .pointer (some ⟨b, off, none⟩) ∧ c.atom = true ∧ E.w.cell? ⟨b, off, none⟩ = some u ∧ VRel E c u := by
  unfold load1 at h
  split at h
  · rename_i ds
    simp only [VRel] at hx
    obtain ⟨ad, rfl, hx⟩ := hx
    rcases hx with rfl | ⟨b, off, rfl, _, hc⟩
    · cases h
    · obtain ⟨h1, u, h2, h3⟩ := hc.toV 0 c h
      exact ⟨b, off, u, rfl, h1, h2, h3⟩
  · rename_i i j ver off
    split at h
    · cases h
    · split at h
      · rename_i ds hds
        obtain ⟨b, base, h1, h2, h3, h4, h5⟩ := ptr_cells hw hx hds
        obtain ⟨h1', u, h2', h3'⟩ := h4 off c h
        exact ⟨b, base + off, u, h1, h1', h2', h3'⟩
      · cases h
  · cases h

theorem aggB_row {t : TypeId} (h : aggB P t = true) : ∃ d, P.underlying t = some d ∧ d.isRow = true := by
  unfold aggB at h
  split at h
  · rename_i hu; exact ⟨_, hu, rfl⟩
  · rename_i hu; exact ⟨_, hu, rfl⟩
  · cases h

theorem run_loadVar_one {t : TypeId} {b off : Nat} {u : Value} (w : World) (h : oneB P t = true) (hc : w.cell? ⟨b, off, none⟩ = some u) : (loadVar t ⟨b, off, none⟩).run P w = .ok u w := by
  obtain ⟨h1, h2⟩ := oneB_spec h
  simp [loadVar, run_isAgg w h1, h2, hc]

theorem op_load (hw : WRel E) (hs : ARel E sl a) {n ob : Option Nat} {x : MX} (hc : chkOp P (.load n ob x) o.op = true) (h : opV cf sl E.H (.load n ob x) = some (r, ups)) : OpOk P E o a.eval r ups := by
  simp only [chkOp] at hc
  split at hc
  · rename_i t x' ho
    simp only [Bool.and_eq_true] at hc
    have hx := ev_rel hs hc.2
    cases n with
    | none =>
      have h1 : oneB P t = true := hc.1
      simp only [opV] at h
      obtain ⟨hv, rfl⟩ := map_pair h
      obtain ⟨b, off, u, e1, _, hu, hr⟩ := load1_rel hw hv hx
      exact .pure hw (v := u) (by simp [execOp, ho, e1, Instr.loadAt, Instr.sureAddr, run_loadVar_one E.w h1 hu]) hr
    | some n =>
      have h1 := hc.1
      simp only [loadB, Bool.and_eq_true, decide_eq_true_eq] at h1
      simp only [opV] at h
      cases hl : loadCells E.H ob (ev sl x) n with
      | none => rw [hl] at h; cases h
      | some cs =>
        rw [hl] at h
        obtain ⟨rfl, rfl⟩ := some_pair h
        obtain ⟨b, off, e1, hv, hlen⟩ := loadCells_rel hw hl hx h1.2
        obtain ⟨vs, hr, hrange, _⟩ := hv.vals
        obtain ⟨d, hu, hd⟩ := aggB_row h1.1.1
        obtain ⟨i, hi, hisz⟩ := szB_info h1.1.2
        have := run_loadAt_mid (P := P) E.w b off t vs d hrange hu hd (by rw [hi]; simp [hisz, hr.length, hlen])
        refine .pure hw (v := .agg vs.toArray) (by simp [execOp, ho, e1, this]) ?_
        simp only [VRel]
        exact ⟨_, rfl, by simpa using hr⟩
  · cases hc

theorem op_sliceA (hw : WRel E) (hs : ARel E sl a) {n sz : Nat} {ob : Option Nat} {x : MX} {lo hi : Option MX} (hc : chkOp P (.sliceA n sz ob x lo hi) o.op = true) (h : opV cf sl E.H (.sliceA n sz ob x lo hi) = some (r, ups)) : OpOk P E o a.eval r ups := by
  simp only [chkOp] at hc
  split at hc
  · rename_i t x' lo' hi' ho
    simp only [Bool.and_eq_true] at hc
    obtain ⟨⟨⟨h1, h2⟩, h3⟩, h4⟩ := hc
    have hx := ev_rel hs h2
    have hlo := evO_rel hs h3
    have hhi := evO_rel hs h4
    split at h1
    · rename_i m el hu
      simp only [Bool.and_eq_true, beq_iff_eq] at h1
      obtain ⟨rfl, hz⟩ := h1
      simp only [opV] at h
      split at h
      · rename_i l hh hb
        obtain ⟨hr, h5, h6⟩ := sliceBounds_run (P := P) (Nat.le_refl m) hlo hhi hb false E.w
        have hrun : ∀ ad, a.eval x' = .pointer (some ad) → (execOp a.eval o).run P E.w = .ok (.value (.slice (some (if m = l then ad else ad.add (l * sz))) (hh - l) (m - l))) E.w := by
          intro ad e1
          simp [execOp, ho, e1, Instr.sliceAt, run_underlying hu, Instr.sureAddr, hr, run_sizeOf' hz]
        split at h
        · rename_i i ver off e
          rw [e] at hx
          split at h
          · cases h
          · split at h
            · rename_i cs hcs
              split at h
              · rename_i hle
                obtain ⟨b, base, e1, hρ, hblk, hv, _⟩ := ptr_cells hw hx hcs
                split at h
                · rename_i hlh
                  obtain ⟨rfl, rfl⟩ := some_pair h
                  refine .pure hw (hrun _ e1) ?_
                  simp only [VRel]
                  exact ⟨_, _, by rw [hlh, Nat.sub_self], by omega, fun h => by omega, .inl trivial⟩
                · rename_i hlh
                  obtain ⟨rfl, rfl⟩ := some_pair h
                  refine .pure hw (hrun _ e1) ?_
                  have hne : m ≠ l := by omega
                  rw [if_neg hne]
                  obtain ⟨q, hq, hqv, hqb, _⟩ := objCells_rel hw hcs
                  simp only [VRel]
                  have emn : m * sz = l * sz + (m - l) * sz := by rw [← Nat.add_mul]; congr 1; omega
                  have ehl : (hh - l) * sz ≤ (m - l) * sz := Nat.mul_le_mul_right _ (by omega)
                  have hp : PlacedS E i (off + l * sz) (m - l) sz (some (Addr.add ⟨b, base + off, none⟩ (l * sz))) :=
                    ⟨b, base, hρ, by rw [Addr.add_mid, Nat.add_assoc], hblk.le (by omega)⟩
                  refine ⟨_, _, rfl, by omega, fun _ => rfl, q, hq, by omega, fun _ => ?_⟩
                  cases hbb : q.body with
                  | none => rw [hbb] at hqb; cases hqb
                  | map _ _ => rw [hbb] at hqb; cases hqb
                  | var ds => rw [hbb] at hqb; cases hqb; exact ⟨by omega, hp⟩
                  | row _ _ ds => rw [hbb] at hqb; cases hqb; exact ⟨by omega, .inl hp⟩
              · cases h
            · cases h
        · rename_i cs e
          rw [e] at hx
          simp only [VRel] at hx
          obtain ⟨ad, e1, hx⟩ := hx
          split at h
          · obtain ⟨rfl, rfl⟩ := some_pair h
            refine .pure hw (hrun _ e1) ?_
            have := ro_part (E := E) (n := m) (cap := m) (sz := sz) (cs := cs) (ad := some ad) h5 h6 (Nat.le_refl m) (fun _ => rfl) (by
              rcases hx with h | ⟨b, off, rfl, h7, h8⟩
              · exact .inl h
              · exact .inr ⟨b, off, rfl, h7, h8⟩)
            by_cases e : m = l
            · rw [if_pos e] at this ⊢; exact this
            · rw [if_neg e] at this ⊢; exact this
          · cases h
        · cases h
      · cases h
    · cases h1
  · cases hc

theorem cells_rel {x : AV} {v : Value} (hx : VRel E x v) (ha : x.cells.all AV.atom = true) : LRel E x.cells v.cells.toList ∧ ∀ u ∈ v.cells.toList, u.oneCell' = true := by
  have gen : ∀ {cs : List AV} {vs : List Value}, LRel E cs vs → cs.all AV.atom = true → ∀ u ∈ vs, u.oneCell' = true := by
    intro cs
    induction cs with
    | nil => intro vs h _ u hu; simp only [LRel] at h; subst h; cases hu
    | cons c cs ih =>
      intro vs h ht u hu
      simp only [LRel] at h
      obtain ⟨v, r, rfl, h1, h2⟩ := h
      simp only [List.all_cons, Bool.and_eq_true] at ht
      cases hu with
      | head => exact h1.one ht.1
      | tail _ hu => exact ih h2 ht.2 u hu
  cases x with
  | agg cs =>
    simp only [VRel] at hx
    obtain ⟨arr, rfl, hx⟩ := hx
    exact ⟨hx, gen hx ha⟩
  | undef => simp [AV.cells, AV.atom] at ha
  | tup _ => simp [AV.cells, AV.atom] at ha
  | _ =>
    have h1 := hx.one (by simpa [AV.cells] using ha)
    have hc : v.cells = #[v] := by cases v <;> first | rfl | (simp [Value.oneCell'] at h1)
    rw [hc]
    refine ⟨⟨v, [], rfl, hx, rfl⟩, fun u hu => ?_⟩
    have : u = v := by simpa using hu
    rw [this]; exact h1

theorem setCells_len {cs new : List AV} {off : Nat} (h : off + new.length ≤ cs.length) : (setCells cs off new).length = cs.length := by
  simp [setCells]; omega
theorem setCells_get {cs new : List AV} {off : Nat} (h : off + new.length ≤ cs.length) (k : Nat) : (setCells cs off new)[k]? = if off ≤ k ∧ k < off + new.length then new[k - off]? else cs[k]? := by
  unfold setCells
  by_cases h1 : k < off
  · rw [List.append_assoc, List.getElem?_append_left (by simp; omega), List.getElem?_take, if_pos h1, if_neg (by omega)]
  · by_cases h2 : k < off + new.length
    · rw [List.getElem?_append_left (by simp; omega), List.getElem?_append_right (by simp; omega), if_pos ⟨by omega, h2⟩]
      congr 1
      simp
      omega
    · rw [List.getElem?_append_right (by simp; omega), List.getElem?_drop, if_neg (by omega)]
      congr 1
      simp
      omega

theorem foldl_sets : ∀ (vs : List Value) (off j : Nat) (cells : Array Value) (k : Nat), off + j + vs.length ≤ cells.size →
    ((vs.zipIdx j).foldl (fun cs (p : Value × Nat) => cs.setIfInBounds (off + p.2) p.1) cells).toList[k]? = if off + j ≤ k ∧ k < off + j + vs.length then vs[k - (off + j)]? else cells.toList[k]?
  | [], off, j, cells, k, _ => by simp; omega
  | v :: vs, off, j, cells, k, h => by
    simp only [List.length_cons] at h
    rw [List.zipIdx_cons, List.foldl_cons, foldl_sets vs off (j + 1) _ k (by simp; omega)]
    simp only [List.length_cons]
    by_cases h1 : k = off + j
    · subst h1
      rw [if_neg (by omega), if_pos (by omega)]
      have hlt : off + j < cells.size := by omega
      simp [hlt]
    · by_cases h2 : off + j < k ∧ k < off + j + 1 + vs.length
      · rw [if_pos (by omega), if_pos (by omega)]
        rw [show k - (off + j) = (k - (off + (j + 1))) + 1 by omega]
        simp
      · rw [if_neg (by omega), if_neg (by omega)]
        simp only [Array.getElem?_toList]
        rw [Array.getElem?_setIfInBounds_ne (by omega)]

theorem fill_rel (place : Nat → Option (Nat × Nat)) : ∀ (parts : List (Nat × Nat × AV)) (pv : List (Nat × Value)) (cells : List AV) (arr : Array Value) (cs : List AV), LRel E cells arr.toList →
    parts.length = pv.length → (∀ (j : Nat) (p : Nat × Nat × AV) (q : Nat × Value), parts[j]? = some p → pv[j]? = some q → place q.1 = some (p.1, p.2.1) ∧ VRel E p.2.2 q.2) →
    fillV cells parts = some cs → ∃ arr', Instr.fill place arr pv = some arr' ∧ LRel E cs arr'.toList
  | [], [], cells, arr, cs, h, _, _, hf => by
    simp only [fillV, Option.some.injEq] at hf
    subst hf
    exact ⟨arr, rfl, h⟩
  | [], _ :: _, _, _, _, _, hl, _, _ => by simp at hl
  | _ :: _, [], _, _, _, _, hl, _, _ => by simp at hl
  | (off, n, x) :: parts, (i, v) :: pv, cells, arr, cs, h, hl, hp, hf => by
    simp only [fillV] at hf
    split at hf
    · cases hf
    · rename_i hn
      have h1 : x.cells.length = n := by
        rcases Nat.decEq x.cells.length n with h | h
        · exact absurd (.inl h) hn
        · exact h
      have h2 : off + n ≤ cells.length := by
        rcases Nat.lt_or_ge cells.length (off + n) with h | h
        · exact absurd (.inr (.inl h)) hn
        · exact h
      have h3 : x.cells.all AV.atom = true := by
        cases hb : x.cells.all AV.atom
        · exact absurd (.inr (.inr hb)) hn
        · rfl
      obtain ⟨e1, hx⟩ := hp 0 _ _ rfl rfl
      obtain ⟨hc, _⟩ := cells_rel hx h3
      have hcl : v.cells.size = n := by have := hc.length; simp at this; omega
      have hal : arr.size = cells.length := by have := h.length; simpa using this
      simp only [Instr.fill, e1]
      rw [if_neg (by simp; omega)]
      refine fill_rel place parts pv (setCells cells off x.cells) _ cs ?_ (by simpa using hl) (fun j p q h4 h5 => hp (j + 1) p q (by simpa using h4) (by simpa using h5)) hf
      rw [← Array.foldl_toList, Array.toList_zipIdx]
      have hget := foldl_sets v.cells.toList off 0 arr
      simp only [Nat.add_zero, Array.length_toList, hcl] at hget
      refine LRel.of ?_ fun k c u h4 h5 => ?_
      · have hsz : ∀ (vs : List (Value × Nat)) (A : Array Value), (vs.foldl (fun cs (p : Value × Nat) => cs.setIfInBounds (off + p.2) p.1) A).size = A.size := by
          intro vs
          induction vs with
          | nil => intro A; rfl
          | cons p vs ih => intro A; rw [List.foldl_cons, ih]; simp
        rw [setCells_len (by omega), Array.length_toList, hsz]
        exact hal
      · rw [hget k (by omega)] at h5
        rw [setCells_get (by omega), h1] at h4
        split at h4
        · rename_i hk
          rw [if_pos hk] at h5
          obtain ⟨u', h6, h7⟩ := hc.get _ _ h4
          rw [h6] at h5
          cases h5
          exact h7
        · rename_i hk
          rw [if_neg hk] at h5
          obtain ⟨u', h6, h7⟩ := h.get _ _ h4
          rw [h6] at h5
          cases h5
          exact h7

end Go.Ev
end
