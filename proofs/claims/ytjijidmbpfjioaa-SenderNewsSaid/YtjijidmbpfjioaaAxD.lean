/- A part of the proof: AxD. -/
import Derived.Test.YtjijidmbpfjioaaAxC
namespace Go.AX

/-! ## What an operation does to an abstract state -/

def cellsAt (s : AS) : AV → Option (List AV × Nat)
  | .ptr id off => match s.objs id with
    | .live cells => some (cells, off)
    | .froz cells => some (cells, off)
    | .dead => none
  | .iptr cells off => some (cells, off)
  | _ => none

def sub? (cells : List AV) (off n : Nat) : Option (List AV) := if off + n ≤ cells.length then some ((cells.drop off).take n) else none

/-- The part of type 't' at 'off'. -/
def part? (P : Program) (t : TypeId) (cells : List AV) (off : Nat) : Option AV :=
  match agB P t with
  | some true => match szOf P t with
    | some n => (sub? cells off n).map .agg
    | none => none
  | some false => cells[off]?
  | none => none

def intOf? : AV → Option Int
  | .v (.int _ n) => some n
  | _ => none

def rep : Nat → List AV → List AV
  | 0, _ => []
  | n + 1, zs => zs ++ rep n zs

def fillA (place : Nat → Option (Nat × Nat)) (cells : List AV) : List (Nat × AV) → Option (List AV)
  | [] => some cells
  | (i, x) :: rest => match place i, cellsOf x with
    | some (off, size), some cs => if cs.length = size ∧ off + cs.length ≤ cells.length then fillA place (putAt cells off cs) rest else none
    | _, _ => none

def nilS : Value → Bool
  | .slice none 0 0 => true
  | _ => false

/-- A slice that is read: its cells and its length. -/
def srcOf (s : AS) (sz : Nat) : AV → Option (List AV × Nat)
  | .v x => if nilS x then some ([], 0) else none
  | .imm cells k => if cells.length = k * sz then some (cells, k) else none
  | .ref id off k sz' => if sz' = sz then match s.objs id with
      | .live cells => (sub? cells off (k * sz)).map fun c => (c, k)
      | .froz cells => (sub? cells off (k * sz)).map fun c => (c, k)
      | .dead => none
    else none
  | _ => none

def nilB : AV → Option Bool
  | .v (.slice none 0 0) => some true
  | .imm _ (_ + 1) => some false
  | .ref _ _ (_ + 1) _ => some false
  | _ => none

def nilP : AV → Option Bool
  | .v (.pointer none) => some true
  | .ptr _ _ => some false
  | .iptr _ _ => some false
  | _ => none

def eqB (C : Ctx) (t : TypeId) (x y : AV) : Option Bool :=
  match x, y with
  | .v (.bool a), .v (.bool b) => if isBl C.P t then some (a == b) else none
  | .agg xs, .agg ys => match C.eqk t with
    | some ks => if kindsOk ks xs && kindsOk ks ys then some (eqCells xs ys) else none
    | none => none
  | x, .v (.slice none 0 0) => if (elS C.P t).isSome then nilB x else none
  | _, _ => none

def bopE (C : Ctx) (op : BinOp) (t : TypeId) (x y : AV) : Option AV :=
  match x, y with
  | .v (.int k a), .v (.int k' b) => (iop op k a k' b).map .v
  | x, y => match op with
    | .eql => (eqB C t x y).map fun b => .v (.bool b)
    | .neq => (eqB C t x y).map fun b => .v (.bool (!b))
    | _ => none

def uopE (op : UnOp) (x : AV) : Option AV :=
  match op, x with
  | .not, .v (.bool b) => some (.v (.bool (!b)))
  | .neg, .v (.int k n) => some (.v (.int k (k.wrap (0 - n))))
  | .xor, .v (.int k n) => some (.v (.int k (k.wrap ((BitVec.ofInt k.bits (if k.signed then -1 else k.max) ^^^ BitVec.ofInt k.bits n).toNat))))
  | _, _ => none

def indexAddrE (P : Program) (t : TypeId) (x i : AV) : Option AV :=
  match intOf? i with
  | some n => if 0 ≤ n then match P.underlying t with
    | some (.array len e) => match szOf P e with
      | some sz => if n < (len : Int) then match x with
        | .ptr id off => some (.ptr id (off + n.toNat * sz))
        | .iptr cells off => some (.iptr cells (off + n.toNat * sz))
        | _ => none
        else none
      | none => none
    | some (.slice e) => match szOf P e with
      | some sz => match x with
        | .ref id off len sz' => if n < (len : Int) ∧ sz' = sz then some (.ptr id (off + n.toNat * sz)) else none
        | .imm cells len => if n < (len : Int) then some (.iptr cells (n.toNat * sz)) else none
        | _ => none
      | none => none
    | _ => none
    else none
  | none => none

def loOf : Option AV → Option Int
  | none => some 0
  | some x => intOf? x

def hiOf (n : Nat) : Option AV → Option Int
  | none => some n
  | some x => intOf? x

def sliceE (P : Program) (s : AS) (t : TypeId) (x : AV) (lo hi : Option AV) : Option AV :=
  match P.underlying t with
  | some (.array n e) => match szOf P e, loOf lo, hiOf n hi with
    | some sz, some l, some h => if 0 ≤ l ∧ l ≤ h ∧ h ≤ (n : Int) then match x with
        | .ptr id off => match s.objs id with
          | .live cells => if off + n * sz ≤ cells.length then some (.ref id (off + l.toNat * sz) (h - l).toNat sz) else none
          | _ => none
        | .iptr cells off => if off + n * sz ≤ cells.length then some (.imm ((cells.drop (off + l.toNat * sz)).take ((h - l).toNat * sz)) (h - l).toNat) else none
        | _ => none
      else none
    | _, _, _ => none
  | some (.slice e) => match szOf P e with
    | some sz => match x with
      | .ref id off len sz' => match loOf lo, hiOf len hi with
        | some l, some h => if 0 ≤ l ∧ l ≤ h ∧ h ≤ (len : Int) ∧ sz' = sz then some (.ref id (off + l.toNat * sz) (h - l).toNat sz) else none
        | _, _ => none
      | .imm cells len => match loOf lo, hiOf len hi with
        | some l, some h => if 0 ≤ l ∧ l ≤ h ∧ h ≤ (len : Int) ∧ cells.length = len * sz then some (.imm ((cells.drop (l.toNat * sz)).take ((h - l).toNat * sz)) (h - l).toNat) else none
        | _, _ => none
      | .v x => if nilS x then match loOf lo, hiOf 0 hi with
        | some l, some h => if l = 0 ∧ h = 0 then some (.v (.slice none 0 0)) else none
        | _, _ => none
        else none
      | _ => none
    | none => none
  | _ => none

def appE (P : Program) (s : AS) (fr : Nat) (t u : TypeId) (x y : AV) : Option Eff :=
  match elS P t, elS P u with
  | some e, some _ => match szOf P e, byOf P e, zer P e with
    | some sz, some by', some zs => if zs.length = sz then match srcOf s sz y with
      | some (xs, k) => match x with
        | .v x => if nilS x then if 0 < by' ∧ k * by' ≤ 140737488355328 then some ⟨.ref fr 0 k sz, .app none xs⟩ else none else none
        | .ref id off len sz' => match s.objs id with
          | .live cells => if sz' = sz ∧ off + len * sz = cells.length ∧ 0 < by' ∧ (len + k) * by' ≤ 140737488355328 then some ⟨.ref fr 0 (len + k) sz, .app (some id) (cells.drop off ++ xs)⟩ else none
          | _ => none
        | _ => none
      | none => none
      else none
    | _, _, _ => none
  | _, _ => none

def copyE (P : Program) (s : AS) (t : TypeId) (x y : AV) : Option Eff :=
  match elS P t with
  | some e => match szOf P e with
    | some sz => match srcOf s sz y with
      | some (xs, k) => match x with
        | .ref id off len sz' => match s.objs id with
          | .live cells => if sz' = sz ∧ off + (min k len) * sz ≤ cells.length then some ⟨.v (.int .i64 (min k len : Nat)), .wr id off (xs.take (min k len * sz))⟩ else none
          | _ => none
        | _ => none
      | none => none
    | none => none
  | none => none

def lenE (P : Program) (t : TypeId) (x : AV) : Option AV :=
  match P.underlying t with
  | some (.array n _) => some (.v (.int .i64 n))
  | some (.slice _) => match x with
    | .ref _ _ n _ => some (.v (.int .i64 n))
    | .imm _ n => some (.v (.int .i64 n))
    | .v (.slice none n 0) => some (.v (.int .i64 n))
    | _ => none
  | _ => none

def minE : AV → AV → Option AV
  | .v (.int k x), .v (.int _ y) => some (.v (.int k (if y < x then y else x)))
  | _, _ => none
def maxE : AV → AV → Option AV
  | .v (.int k x), .v (.int _ y) => some (.v (.int k (if y > x then y else x)))
  | _, _ => none

def builtinE (P : Program) (s : AS) (fr : Nat) (b : Builtin) (ts : Array TypeId) (args : List AV) : Option Eff :=
  match b, ts.toList, args with
  | .len, [t], [x] => (lenE P t x).map (⟨·, .none⟩)
  | .min, _, [x, y] => (minE x y).map (⟨·, .none⟩)
  | .max, _, [x, y] => (maxE x y).map (⟨·, .none⟩)
  | .append, [t, u], [x, y] => appE P s fr t u x y
  | .copy, [t, _], [x, y] => copyE P s t x y
  | _, _, _ => none

def addOff (x : AV) (o : Nat) : Option AV :=
  match x with
  | .ptr id off => some (.ptr id (off + o))
  | .iptr cells off => some (.iptr cells (off + o))
  | _ => none

def opEff (C : Ctx) (s : AS) (fr : Nat) (op : Op) : Option Eff :=
  match op with
  | .move x => some ⟨ev C s x, .none⟩
  | .assign x => some ⟨ev C s x, .none⟩
  | .pick c a b => match ev C s c with
    | .v (.bool t) => some ⟨bif t then ev C s a else ev C s b, .none⟩
    | _ => none
  | .alloc t => (zer C.P t).map fun cs => ⟨.ptr fr 0, .new cs⟩
  | .box _ x => (cellsOf (ev C s x)).map fun cs => ⟨.ptr fr 0, .new cs⟩
  | .build t parts => match zer C.P t with
    | some zs => match bldS C.P t with
      | some pl => (fillA (fun i => pl[i]?) zs (parts.toList.map fun p => (p.1, ev C s p.2))).map fun cs => ⟨.agg cs, .none⟩
      | none => match arE C.P t with
        | some (_, e) => match szOf C.P e with
          | some sz => (fillA (fun i => some (i * sz, sz)) zs (parts.toList.map fun p => (p.1, ev C s p.2))).map fun cs => ⟨.agg cs, .none⟩
          | none => none
        | none => none
    | none => none
  | .buildSlice t n parts => match elS C.P t with
    | some e => match szOf C.P e, zer C.P e with
      | some sz, some zs => if zs.length = sz ∧ n * sz ≤ 16777216 then
          (fillA (fun i => some (i * sz, sz)) (rep n zs) (parts.toList.map fun p => (p.1, ev C s p.2))).map fun cs => ⟨.ref fr 0 n sz, .new cs⟩
        else none
      | _, _ => none
    | none => none
  | .load t a => match cellsAt s (ev C s a) with
    | some (cells, off) => (part? C.P t cells off).map (⟨·, .none⟩)
    | none => none
  | .store t a x => match ev C s a, cellsOf (ev C s x), szOf C.P t with
    | .ptr id off, some cs, some n => match s.objs id with
      | .live cells => if cs.length = n ∧ off + n ≤ cells.length then some ⟨.v undef, .wr id off cs⟩ else none
      | _ => none
    | _, _, _ => none
  | .nilCheck x => match ev C s x with
    | .ptr id off => some ⟨.ptr id off, .none⟩
    | .iptr cells off => some ⟨.iptr cells off, .none⟩
    | .clo f a b => some ⟨.clo f a b, .none⟩
    | _ => none
  | .binOp op t x y _ => (bopE C op t (ev C s x) (ev C s y)).map (⟨·, .none⟩)
  | .unOp op _ x => (uopE op (ev C s x)).map (⟨·, .none⟩)
  | .convert a b x => match C.P.underlying a, inK C.P b, ev C s x with
    | some _, some k, .v (.int _ n) => some ⟨.v (.int k (k.wrap n)), .none⟩
    | _, _, _ => none
  | .makeFunc fn first caps => match fn with
    | .func f => some ⟨.clo f (first.toList.map (ev C s)) (caps.toList.map (ev C s)), .none⟩
    | _ => none
  | .makeSlice t l c => match elS C.P t, intOf? (ev C s l), intOf? (ev C s c) with
    | some e, some l, some c => match szOf C.P e, byOf C.P e, zer C.P e with
      | some sz, some by', some zs => if zs.length = sz ∧ 0 ≤ l ∧ l ≤ c ∧ c < 9223372036854775808 ∧ by' * c ≤ 281474976710656 then some ⟨.ref fr 0 l.toNat sz, .new (rep l.toNat zs)⟩ else none
      | _, _, _ => none
    | _, _, _ => none
  | .slice t x lo hi mx => match mx with
    | none => (sliceE C.P s t (ev C s x) (lo.map (ev C s)) (hi.map (ev C s))).map (⟨·, .none⟩)
    | some _ => none
  | .fieldAddr t x f => match flE C.P t f with
    | some (o, ft) => match szOf C.P ft with
      | some (_ + 1) => (addOff (ev C s x) o).map (⟨·, .none⟩)
      | _ => none
    | none => none
  | .field t x f => match flE C.P t f, ev C s x with
    | some (o, ft), .agg cs => (part? C.P ft cs o).map (⟨·, .none⟩)
    | _, _ => none
  | .indexAddr t x i => (indexAddrE C.P t (ev C s x) (ev C s i)).map (⟨·, .none⟩)
  | .index t x i => match arE C.P t, ev C s x, intOf? (ev C s i) with
    | some (len, e), .agg cs, some n => if 0 ≤ n ∧ n < (len : Int) then match szOf C.P e with
      | some sz => (part? C.P e cs (n.toNat * sz)).map (⟨·, .none⟩)
      | none => none
      else none
    | _, _, _ => none
  | .extract x i => match ev C s x with
    | .tup vs => (vs[i]?).map (⟨·, .none⟩)
    | _ => none
  | .call c => match c.callee with
    | .builtin b => builtinE C.P s fr b c.argTypes (c.args.toList.map (ev C s))
    | _ => none
  | _ => none

end Go.AX
