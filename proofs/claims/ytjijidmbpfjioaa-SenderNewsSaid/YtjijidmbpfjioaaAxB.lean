/- A part of the proof: AxB. -/
import Derived.Test.YtjijidmbpfjioaaAxA
import Derived.Laws.CopyRow
import Derived.Laws.AppendOwn
import Derived.Laws.Slices
import Derived.Laws.Small
import Derived.Laws.Rows
import Derived.DataReads
namespace Go.AX

/-- The program, the package-level variables whose cells are known, and the types that '==' compares cell by cell. -/
structure Ctx where
  P : Program
  gt : Nat → Option (List Value)
  eqk : TypeId → Option (List (Option IntKind))

def szOf (P : Program) (t : TypeId) : Option Nat := (P.info? t).map (·.size)
def byOf (P : Program) (t : TypeId) : Option Nat := (P.info? t).map (·.bytes)
def zer (P : Program) (t : TypeId) : Option (List AV) := (P.info? t).bind fun i => i.zero.bind fun z => if z.cells.all sto then some (z.cells.toList.map .v) else none
def agB (P : Program) (t : TypeId) : Option Bool := (P.underlying t).map fun | .struct _ => true | .array _ _ => true | _ => false
def elS (P : Program) (t : TypeId) : Option TypeId := (P.underlying t).bind fun | .slice e => some e | _ => none
def arE (P : Program) (t : TypeId) : Option (Nat × TypeId) := (P.underlying t).bind fun | .array n e => some (n, e) | _ => none
def flE (P : Program) (t : TypeId) (f : Nat) : Option (Nat × TypeId) := (P.underlying t).bind fun | .struct fs => (fs[f]?).map (fun x => (x.offset, x.type)) | _ => none
def flS (P : Program) (t : TypeId) : Option (List (Nat × TypeId)) := (P.underlying t).bind fun | .struct fs => some (fs.toList.map fun x => (x.offset, x.type)) | _ => none
/-- A struct's parts: places and sizes. -/
def bldS (P : Program) (t : TypeId) : Option (List (Nat × Nat)) := (P.underlying t).bind fun | .struct fs => fs.toList.mapM (fun f => (szOf P f.type).map fun n => (f.offset, n)) | _ => none
def inK (P : Program) (t : TypeId) : Option IntKind := (P.underlying t).bind fun | .int k => some k | _ => none
def isBl (P : Program) (t : TypeId) : Bool := match P.underlying t with | some .bool => true | _ => false

def cst : Value → AV
  | .agg cs => if cs.all sto then .agg (cs.toList.map .v) else .v (.agg cs)
  | x => .v x

def ev (C : Ctx) (s : AS) : Operand → AV
  | .tmp t => s.tmps t
  | .const x => cst x
  | .global g => match C.gt g with
    | some cs => .iptr (cs.map .v) 0
    | none => .unk
  | .func f => .clo f [] []

inductive HAct where
  | none
  | new (cells : List AV)
  | wr (id off : Nat) (cs : List AV)
  | app (old : Option Nat) (cells : List AV)

structure Eff where
  val : AV
  act : HAct

def putAt (cells : List AV) (off : Nat) (cs : List AV) : List AV :=
  match cs with
  | [x] => cells.set off x
  | _ => if off + cs.length ≤ cells.length then cells.take off ++ cs ++ cells.drop (off + cs.length) else cells

def killO (objs : Nat → Ob) : Option Nat → Nat → Ob
  | Option.none => objs
  | some old => upd objs old .dead

theorem killO_or (objs : Nat → Ob) (old : Option Nat) (id : Nat) : killO objs old id = objs id ∨ killO objs old id = .dead := by
  cases old with
  | none => exact .inl rfl
  | some o =>
    by_cases hid : id = o
    · subst hid; exact .inr (upd_eq _ _ _)
    · exact .inl (upd_ne _ _ hid)

def doAct (fr : Nat) (act : HAct) (objs : Nat → Ob) : Nat → Ob :=
  match act with
  | .none => objs
  | .new cells => upd objs fr (.live cells)
  | .wr id off cs => match objs id with
    | .live cells => upd objs id (.live (putAt cells off cs))
    | _ => objs
  | .app old cells => upd (killO objs old) fr (.live cells)

def put (s : AS) (dst : Option Nat) (x : AV) : AS := { s with tmps := match dst with | some d => upd s.tmps d x | none => s.tmps }

def AS.apply (s : AS) (dst : Option Nat) (fr : Nat) (e : Eff) : AS :=
  { tmps := match dst with | some d => upd s.tmps d e.val | none => s.tmps
    objs := doAct fr e.act s.objs
    next := s.next }

/-! ## Integers, equality -/

def iop (op : BinOp) (k : IntKind) (a : Int) (k' : IntKind) (b : Int) : Option Value :=
  match op with
  | .shl => if b < 0 then none else some (.int k (k.wrap (a * 2 ^ (min b.toNat k.bits))))
  | .shr => if b < 0 then none else some (.int k (a.fdiv (2 ^ (min b.toNat k.bits))))
  | .add => if k = k' then some (.int k (k.wrap (a + b))) else none
  | .sub => if k = k' then some (.int k (k.wrap (a - b))) else none
  | .mul => if k = k' then some (.int k (k.wrap (a * b))) else none
  | .quo => if k = k' then if b = 0 then none else some (.int k (k.wrap (a.tdiv b))) else none
  | .rem => if k = k' then if b = 0 then none else some (.int k (a.tmod b)) else none
  | .and => if k = k' then some (.int k (k.wrap ((BitVec.ofInt k.bits a &&& BitVec.ofInt k.bits b).toNat))) else none
  | .or => if k = k' then some (.int k (k.wrap ((BitVec.ofInt k.bits a ||| BitVec.ofInt k.bits b).toNat))) else none
  | .xor => if k = k' then some (.int k (k.wrap ((BitVec.ofInt k.bits a ^^^ BitVec.ofInt k.bits b).toNat))) else none
  | .andNot => if k = k' then some (.int k (k.wrap ((BitVec.ofInt k.bits a &&& ~~~ BitVec.ofInt k.bits b).toNat))) else none
  | .eql => if k = k' then some (.bool (a == b)) else none
  | .neq => if k = k' then some (.bool (a != b)) else none
  | .lss => if k = k' then some (.bool (decide (a < b))) else none
  | .leq => if k = k' then some (.bool (decide (a ≤ b))) else none
  | .gtr => if k = k' then some (.bool (decide (a > b))) else none
  | .geq => if k = k' then some (.bool (decide (a ≥ b))) else none

theorem iop_sound {P : Program} {op : BinOp} {k k' : IntKind} {a b : Int} {r : Value} (h : iop op k a k' b = some r) (t : TypeId) (w : World) :
    (binOp op t (.int k a) (.int k' b)).run P w = .ok r w := by
  unfold iop at h
  cases op <;> simp only at h
  case shl => split at h <;> cases h; rename_i hb; simp [binOp, Op.shift, hb]
  case shr => split at h <;> cases h; rename_i hb; simp [binOp, Op.shift, hb]
  case quo =>
    by_cases hk : k = k'
    · by_cases hb : b = 0
      · simp [hk, hb] at h
      · simp [hk, hb] at h; subst h; subst hk; simp [binOp, Op.intDiv, hb]
    · simp [hk] at h
  case rem =>
    by_cases hk : k = k'
    · by_cases hb : b = 0
      · simp [hk, hb] at h
      · simp [hk, hb] at h; subst h; subst hk; simp [binOp, Op.intDiv, hb]
    · simp [hk] at h
  all_goals (split at h <;> cases h; rename_i hk; subst hk; simp [binOp, Op.intArith, Op.intBits, Op.intCmp])

def eqv : AV → AV → Bool
  | .v (.int _ a), .v (.int _ b) => a == b
  | .v (.bool a), .v (.bool b) => a == b
  | _, _ => false

def eqCells : List AV → List AV → Bool
  | x :: xs, y :: ys => eqv x y && eqCells xs ys
  | [], [] => true
  | _, _ => false

def kindOk : Option IntKind → AV → Bool
  | some k, .v (.int k' _) => k == k'
  | none, .v (.bool _) => true
  | _, _ => false

def kindsOk : List (Option IntKind) → List AV → Bool
  | k :: ks, x :: xs => kindOk k x && kindsOk ks xs
  | [], [] => true
  | _, _ => false

def valOf : AV → Value
  | .v x => x
  | _ => undef

/-- '==' on the types of the table is what 'eqCells' says. -/
def EqOk (C : Ctx) : Prop := ∀ t ks, C.eqk t = some ks → C.P.eqGuardType C.P.depth t = false ∧
  ∀ xs ys : List AV, kindsOk ks xs = true → kindsOk ks ys = true → ∀ w,
    (Op.equal t (.agg (xs.map valOf).toArray) (.agg (ys.map valOf).toArray)).run C.P w = .ok (eqCells xs ys) w

theorem kindsOk_rel {ρ : Rho} {V : View} : ∀ {ks : List (Option IntKind)} {xs : List AV}, kindsOk ks xs = true → ∀ {ys : Array Value}, ys.size = xs.length → RelC ρ V xs ys 0 → ys = (xs.map valOf).toArray
  | ks, xs, hk, ys, hs, hr => by
    have key : ∀ (ks : List (Option IntKind)) (xs : List AV), kindsOk ks xs = true → ∀ (i : Nat) x, xs[i]? = some x → ∃ v, x = .v v := by
      intro ks
      induction ks with
      | nil => intro xs h i x hx; cases xs with
        | nil => simp at hx
        | cons y ys => simp [kindsOk] at h
      | cons k ks ih =>
        intro xs h i x hx
        cases xs with
        | nil => simp at hx
        | cons y ys =>
          simp only [kindsOk, Bool.and_eq_true] at h
          cases i with
          | zero =>
            simp at hx; subst hx
            have h1 := h.1
            unfold kindOk at h1
            split at h1 <;> first | exact ⟨_, rfl⟩ | cases h1
          | succ i => simp at hx; exact ih ys h.2 i x hx
    apply Array.ext'
    simp only
    apply List.ext_getElem?
    intro i
    rw [List.getElem?_map]
    cases hx : xs[i]? with
    | none =>
      have : ys.toList.length ≤ i := by
        have := List.getElem?_eq_none_iff.1 hx
        simp; omega
      simp [List.getElem?_eq_none this]
    | some x =>
      obtain ⟨y, hy, hrel, _⟩ := hr.get hx
      obtain ⟨v, rfl⟩ := key ks xs hk i x hx
      cases hrel
      simp only [Nat.zero_add] at hy
      simp [hy, valOf]

end Go.AX
